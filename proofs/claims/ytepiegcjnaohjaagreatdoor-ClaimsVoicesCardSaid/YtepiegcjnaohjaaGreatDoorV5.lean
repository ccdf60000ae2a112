/- Texts joined by a program of mine: Ei El En Ep Ej Ek Eo Yk Zd#p Es Za Zb Zc Zd Ze#p Yu Mi#p. -/
import Derived.Test.YtepiegcjnaohjaaGreatDoorV4
set_option linter.all false
set_option maxRecDepth 100000
set_option maxHeartbeats 8000000
namespace Go.Proofs.YtepiegcjnaohjaaGreatDoor
open Go Go.VL
attribute [local simp] HS hcons hstep evPure opd uOf putOK St.put St.at getK binD binI binS binB nilD aggD eqUs cmpK lookD lookR rangeD rangeS Go.VL.nextD Go.VL.nextS entryD keyD valU keyU lookK mkV lookK_entD updK_entD1 allUE allUE_entD makeMapD mapUpdD mapEff updK valM Key.kk shiftI arith unD convD pickD loadD cellsAt fieldAddrD fieldD indexAddrD indexSlD arrAddr indexD sliceD cutD lenD minmaxD nilCheckD buildD fillD cellsD isOne ones setAll mkAgg allU allocD boxD storeD St.add buildSliceD appendD rowsOf makeD setOb getK_setOb getK_del getK_cons stripL strip guardTmp entry chunks zcells valD argsV argsW argW argU1 argU0 argsU0 argsU1 calleeOf scalarD scalarU delAll effD St.effS RK_seq RK_seq_ret RK_seq_exit RK_blk RK_blk_ret RK_blk_exit RK_loop RK_loop_ret RK_loop_exit RK_done vs_seq vs_block vs_cond vs_region vs_loop vs_draw applyW mkD rdIds lentIds callOf calleeOf freeOp D.ids Op.operands Call.operands isEffOp makeIfD makeFuncD typeAssertD conc concs conc1 uOfV panicD IntKind.bits allU2 List.take_of_length_le List.range_succ
attribute [local irreducible] V G H HD HD2 HD4 HD4h RetX RunK Eff CallP CallV EndOK Fun Ret FinOK LoopI LoopW EndW
theorem primary_mm {l : List Tok} (hl : TokOK l) {f p : Nat} (hE : ExpOK l f) (hf : 4 * (l.length - p) ≤ f) {t : Tok} (ht : l[p]? = some t) (hk : ¬ t.kind = 2) (h1 : isB l p [116, 114, 117, 101] = false) (h2 : isB l p [102, 97, 108, 115, 101] = false)
    (hm : isB l p [109, 105, 110] = false ∧ isB l p [109, 97, 120] = true ∨ isB l p [109, 105, 110] = true ∧ isB l p [109, 97, 120] = false) {i nx : Nat} (hi : i < nx) :
    RetX Tryz.prog 283 [.ptr i 0] [(i, pOb l p)] nx (PPost l i nx expD (primaryP l (f + 1) p)) := by
  have hne := ne_facts hi
  have hp := (List.getElem?_eq_some_iff.1 ht).1
  have hnx := pnext_fun l p t ht hl.len
  have hll := hl.len
  have hp2 : p + 1 < l.length := hm.elim (fun h => isB_lt hl h.2) (fun h => isB_lt hl h.1)
  rw [primaryP, ht]
  have hh1 := fun nx' (h : nx ≤ nx') => has_ret l p [116, 114, 117, 101] i nx' (by omega) hp hl.len
  have hh2 := fun nx' (h : nx ≤ nx') => has_ret l p [102, 97, 108, 115, 101] i nx' (by omega) hp hl.len
  have hm1 := is_fun l p [109, 105, 110] hp hl.len
  have hm2 := is_fun l p [109, 97, 120] hp hl.len
  rcases hm with ⟨h3, h4⟩ | ⟨h3, h4⟩
  all_goals
    simp only [hk, h1, h2, h3, h4, if_false, if_true, Bool.false_eq_true, or_true, true_or] at hh1 hh2 hm1 hm2 ⊢
    have hw1 := fun nx' (h : nx ≤ nx') => want1 hl [40] (q := (p + 1)) (i := i) (nx := nx') (by omega) hp2
    cases hr0 : wantP l (p + 1) [[40]] with
    | stop pos e =>
      simp only [hr0] at hw1
      (refine RetX.of_bodyW Tryz.func283 rfl (by simp) fun Γ hn hpan => ?_); simp only [entry, List.zipIdx_cons, List.zipIdx_nil, List.map_cons, List.map_nil, Nat.zero_add, Tryz.ntmps283]
      repeat' (first
    | (refine H_cons ?_; simp [hne, hk, del, Nat.add_assoc])
    | (refine H_nil ?_; simp [hne, hk, del, Nat.add_assoc])
    | (refine ⟨by omega, ?_⟩)
    | (refine V_sseq ?_; simp [hne, hk, del, Nat.add_assoc])
    | (refine V_scond ?_; simp [hne, hk, del, Nat.add_assoc])
    | (refine V_sregion ?_; simp [hne, hk, del, Nat.add_assoc])
    | (refine V_skip ?_; simp only [RunK])
    | (refine CallP.fun_ (hnx) (by first | rfl | fail) (by first | assumption | (simp; done) | fail) (by first | (simp [hne, hk, del, Nat.add_assoc]; done) | (simp [hne, hk, del, Nat.add_assoc]; rfl) | fail) (by first | (simp; done) | fail) (fun d hd => ?_); subst hd; (try simp [hne, hk, del, Nat.add_assoc]))
    | (refine CallP.fun_ (hm1) (by first | rfl | fail) (by first | assumption | (simp; done) | fail) (by first | (simp [hne, hk, del, Nat.add_assoc]; done) | (simp [hne, hk, del, Nat.add_assoc]; rfl) | fail) (by first | (simp; done) | fail) (fun d hd => ?_); subst hd; (try simp [hne, hk, del, Nat.add_assoc]))
    | (refine CallP.fun_ (hm2) (by first | rfl | fail) (by first | assumption | (simp; done) | fail) (by first | (simp [hne, hk, del, Nat.add_assoc]; done) | (simp [hne, hk, del, Nat.add_assoc]; rfl) | fail) (by first | (simp; done) | fail) (fun d hd => ?_); subst hd; (try simp [hne, hk, del, Nat.add_assoc]))
    | (refine CallP.ok1 (hh1 _ (by first | omega | (simp; done) | (simp; omega) | fail)) (by first | (simp [hne, hk, del, Nat.add_assoc, getK_cons, getK, getK_append, getK_del]; done) | fail) (by rfl) (by first | assumption | (simp; done) | fail) (by rfl) (by simp) ?_; (try simp [hne, hk, del, Nat.add_assoc]))
    | (refine CallP.ok1 (hh2 _ (by first | omega | (simp; done) | (simp; omega) | fail)) (by first | (simp [hne, hk, del, Nat.add_assoc, getK_cons, getK, getK_append, getK_del]; done) | fail) (by rfl) (by first | assumption | (simp; done) | fail) (by rfl) (by simp) ?_; (try simp [hne, hk, del, Nat.add_assoc]))
    | (refine CallP.pan1 (hw1 _ (by first | omega | (simp; done) | (simp; omega) | fail)) (by first | (simp [hne, hk, del, Nat.add_assoc, getK_cons, getK, getK_append, getK_del]; done) | fail) (by rfl) (by first | assumption | (simp; done) | fail) (by rfl) (by simp) ?_; rintro ob' ⟨q', rfl⟩; refine ⟨_, Wk.refl _, ?_⟩)
    | (refine CallP_frzV (by first | rfl | fail) ?_; simp [hne, hk, del, Nat.add_assoc, frzN, frz1, frz_env, frz_obs, St.frz, St.frzS, frzS, fv, fzVec, fzMap, fzBox, frzObS, frz_entD, frz_rowsD, del, frz, frzOb])
    | fail)
      (refine hpan _ _ ⟨{ n := _, env := [], obs := [(i, pOb l q')], next := nx }, (Wk.cut rfl (by simp [hn]) (by simp [wkO, getK_cons, getK, getK_append, getK_del, Ob.under, D.under, under_rowsD, under_entD, hi, hne, getK_append, getK_del, getK_cons, getK]) (by simp [wkU, keepE, getK_cons, getK, D.under, hi, hne, getK_append, getK_del, getK_cons, getK]) (by simp [wkE, keepE, getK_cons, getK, hi, hne, getK_append, getK_del, getK_cons, getK])), by simp [hn], ?_⟩; try simp)
      exact PPost.at_stop (by simp [PR.bind, *])
    | ok v0 q0 =>
      simp only [hr0] at hw1
      obtain ⟨g0a, g0b⟩ := wantP_le hl _ hr0 hp2
      have ha := fun nx' (h : nx ≤ nx') => hE q0 0 i nx' (by omega) g0b (by omega) (by omega) (by omega)
      cases hr1 : expP l f q0 0 with
      | stop pos e =>
        simp only [hr1] at ha
        (refine RetX.of_bodyW Tryz.func283 rfl (by simp) fun Γ hn hpan => ?_); simp only [entry, List.zipIdx_cons, List.zipIdx_nil, List.map_cons, List.map_nil, Nat.zero_add, Tryz.ntmps283]
        repeat' (first
    | (refine H_cons ?_; simp [hne, hk, del, Nat.add_assoc])
    | (refine H_nil ?_; simp [hne, hk, del, Nat.add_assoc])
    | (refine ⟨by omega, ?_⟩)
    | (refine V_sseq ?_; simp [hne, hk, del, Nat.add_assoc])
    | (refine V_scond ?_; simp [hne, hk, del, Nat.add_assoc])
    | (refine V_sregion ?_; simp [hne, hk, del, Nat.add_assoc])
    | (refine V_skip ?_; simp only [RunK])
    | (refine CallP.fun_ (hnx) (by first | rfl | fail) (by first | assumption | (simp; done) | fail) (by first | (simp [hne, hk, del, Nat.add_assoc]; done) | (simp [hne, hk, del, Nat.add_assoc]; rfl) | fail) (by first | (simp; done) | fail) (fun d hd => ?_); subst hd; (try simp [hne, hk, del, Nat.add_assoc]))
    | (refine CallP.fun_ (hm1) (by first | rfl | fail) (by first | assumption | (simp; done) | fail) (by first | (simp [hne, hk, del, Nat.add_assoc]; done) | (simp [hne, hk, del, Nat.add_assoc]; rfl) | fail) (by first | (simp; done) | fail) (fun d hd => ?_); subst hd; (try simp [hne, hk, del, Nat.add_assoc]))
    | (refine CallP.fun_ (hm2) (by first | rfl | fail) (by first | assumption | (simp; done) | fail) (by first | (simp [hne, hk, del, Nat.add_assoc]; done) | (simp [hne, hk, del, Nat.add_assoc]; rfl) | fail) (by first | (simp; done) | fail) (fun d hd => ?_); subst hd; (try simp [hne, hk, del, Nat.add_assoc]))
    | (refine CallP.ok1 (hh1 _ (by first | omega | (simp; done) | (simp; omega) | fail)) (by first | (simp [hne, hk, del, Nat.add_assoc, getK_cons, getK, getK_append, getK_del]; done) | fail) (by rfl) (by first | assumption | (simp; done) | fail) (by rfl) (by simp) ?_; (try simp [hne, hk, del, Nat.add_assoc]))
    | (refine CallP.ok1 (hh2 _ (by first | omega | (simp; done) | (simp; omega) | fail)) (by first | (simp [hne, hk, del, Nat.add_assoc, getK_cons, getK, getK_append, getK_del]; done) | fail) (by rfl) (by first | assumption | (simp; done) | fail) (by rfl) (by simp) ?_; (try simp [hne, hk, del, Nat.add_assoc]))
    | (refine CallP.ok1 (hw1 _ (by first | omega | (simp; done) | (simp; omega) | fail)) (by first | (simp [hne, hk, del, Nat.add_assoc, getK_cons, getK, getK_append, getK_del]; done) | fail) (by rfl) (by first | assumption | (simp; done) | fail) (by rfl) (by simp) ?_; (try simp [hne, hk, del, Nat.add_assoc]))
    | (refine CallP.pan1 (ha _ (by first | omega | (simp; done) | (simp; omega) | fail)) (by first | (simp [hne, hk, del, Nat.add_assoc, getK_cons, getK, getK_append, getK_del]; done) | fail) (by rfl) (by first | assumption | (simp; done) | fail) (by rfl) (by simp) ?_; rintro ob' ⟨q', rfl⟩; refine ⟨_, Wk.refl _, ?_⟩)
    | (refine CallP_frzV (by first | rfl | fail) ?_; simp [hne, hk, del, Nat.add_assoc, frzN, frz1, frz_env, frz_obs, St.frz, St.frzS, frzS, fv, fzVec, fzMap, fzBox, frzObS, frz_entD, frz_rowsD, del, frz, frzOb])
    | fail)
        (refine hpan _ _ ⟨{ n := _, env := [], obs := [(i, pOb l q')], next := nx }, (Wk.cut rfl (by simp [hn]) (by simp [wkO, getK_cons, getK, getK_append, getK_del, Ob.under, D.under, under_rowsD, under_entD, hi, hne, getK_append, getK_del, getK_cons, getK]) (by simp [wkU, keepE, getK_cons, getK, D.under, hi, hne, getK_append, getK_del, getK_cons, getK]) (by simp [wkE, keepE, getK_cons, getK, hi, hne, getK_append, getK_del, getK_cons, getK])), by simp [hn], ?_⟩; try simp)
        exact PPost.at_stop (by simp [PR.bind, *])
      | ok v1 q1 =>
        have ha := fun nx' h => exp_ok (ha nx' h) hr1
        obtain ⟨g1a, g1b⟩ := (parse_le hl f).1 _ _ _ _ hr1 g0b
        have hw2 := fun nx' (h : nx ≤ nx') => want1 hl [44] (q := q1) (i := i) (nx := nx') (by omega) g1b
        cases hr2 : wantP l q1 [[44]] with
        | stop pos e =>
          simp only [hr2] at hw2
          (refine RetX.of_bodyW Tryz.func283 rfl (by simp) fun Γ hn hpan => ?_); simp only [entry, List.zipIdx_cons, List.zipIdx_nil, List.map_cons, List.map_nil, Nat.zero_add, Tryz.ntmps283]
          repeat' (first
    | (refine H_cons ?_; simp [hne, hk, del, Nat.add_assoc])
    | (refine H_nil ?_; simp [hne, hk, del, Nat.add_assoc])
    | (refine ⟨by omega, ?_⟩)
    | (refine V_sseq ?_; simp [hne, hk, del, Nat.add_assoc])
    | (refine V_scond ?_; simp [hne, hk, del, Nat.add_assoc])
    | (refine V_sregion ?_; simp [hne, hk, del, Nat.add_assoc])
    | (refine V_skip ?_; simp only [RunK])
    | (refine CallP.fun_ (hnx) (by first | rfl | fail) (by first | assumption | (simp; done) | fail) (by first | (simp [hne, hk, del, Nat.add_assoc]; done) | (simp [hne, hk, del, Nat.add_assoc]; rfl) | fail) (by first | (simp; done) | fail) (fun d hd => ?_); subst hd; (try simp [hne, hk, del, Nat.add_assoc]))
    | (refine CallP.fun_ (hm1) (by first | rfl | fail) (by first | assumption | (simp; done) | fail) (by first | (simp [hne, hk, del, Nat.add_assoc]; done) | (simp [hne, hk, del, Nat.add_assoc]; rfl) | fail) (by first | (simp; done) | fail) (fun d hd => ?_); subst hd; (try simp [hne, hk, del, Nat.add_assoc]))
    | (refine CallP.fun_ (hm2) (by first | rfl | fail) (by first | assumption | (simp; done) | fail) (by first | (simp [hne, hk, del, Nat.add_assoc]; done) | (simp [hne, hk, del, Nat.add_assoc]; rfl) | fail) (by first | (simp; done) | fail) (fun d hd => ?_); subst hd; (try simp [hne, hk, del, Nat.add_assoc]))
    | (refine CallP.ok1 (hh1 _ (by first | omega | (simp; done) | (simp; omega) | fail)) (by first | (simp [hne, hk, del, Nat.add_assoc, getK_cons, getK, getK_append, getK_del]; done) | fail) (by rfl) (by first | assumption | (simp; done) | fail) (by rfl) (by simp) ?_; (try simp [hne, hk, del, Nat.add_assoc]))
    | (refine CallP.ok1 (hh2 _ (by first | omega | (simp; done) | (simp; omega) | fail)) (by first | (simp [hne, hk, del, Nat.add_assoc, getK_cons, getK, getK_append, getK_del]; done) | fail) (by rfl) (by first | assumption | (simp; done) | fail) (by rfl) (by simp) ?_; (try simp [hne, hk, del, Nat.add_assoc]))
    | (refine CallP.ok1 (hw1 _ (by first | omega | (simp; done) | (simp; omega) | fail)) (by first | (simp [hne, hk, del, Nat.add_assoc, getK_cons, getK, getK_append, getK_del]; done) | fail) (by rfl) (by first | assumption | (simp; done) | fail) (by rfl) (by simp) ?_; (try simp [hne, hk, del, Nat.add_assoc]))
    | (refine CallP.ok1 (ha _ (by first | omega | (simp; done) | (simp; omega) | fail)) (by first | (simp [hne, hk, del, Nat.add_assoc, getK_cons, getK, getK_append, getK_del]; done) | fail) (by rfl) (by first | assumption | (simp; done) | fail) (by rfl) (by simp) ?_; (try simp [hne, hk, del, Nat.add_assoc]))
    | (refine CallP.pan1 (hw2 _ (by first | omega | (simp; done) | (simp; omega) | fail)) (by first | (simp [hne, hk, del, Nat.add_assoc, getK_cons, getK, getK_append, getK_del]; done) | fail) (by rfl) (by first | assumption | (simp; done) | fail) (by rfl) (by simp) ?_; rintro ob' ⟨q', rfl⟩; refine ⟨_, Wk.refl _, ?_⟩)
    | (refine CallP_frzV (by first | rfl | fail) ?_; simp [hne, hk, del, Nat.add_assoc, frzN, frz1, frz_env, frz_obs, St.frz, St.frzS, frzS, fv, fzVec, fzMap, fzBox, frzObS, frz_entD, frz_rowsD, del, frz, frzOb])
    | fail)
          (refine hpan _ _ ⟨{ n := _, env := [], obs := [(i, pOb l q')], next := nx }, (Wk.cut rfl (by simp [hn]) (by simp [wkO, getK_cons, getK, getK_append, getK_del, Ob.under, D.under, under_rowsD, under_entD, hi, hne, getK_append, getK_del, getK_cons, getK]) (by simp [wkU, keepE, getK_cons, getK, D.under, hi, hne, getK_append, getK_del, getK_cons, getK]) (by simp [wkE, keepE, getK_cons, getK, hi, hne, getK_append, getK_del, getK_cons, getK])), by simp [hn], ?_⟩; try simp)
          exact PPost.at_stop (by simp [PR.bind, *])
        | ok v2 q2 =>
          simp only [hr2] at hw2
          obtain ⟨g2a, g2b⟩ := wantP_le hl _ hr2 g1b
          have hb := fun nx' (h : nx ≤ nx') => hE q2 0 i nx' (by omega) g2b (by omega) (by omega) (by omega)
          cases hr3 : expP l f q2 0 with
          | stop pos e =>
            simp only [hr3] at hb
            (refine RetX.of_bodyW Tryz.func283 rfl (by simp) fun Γ hn hpan => ?_); simp only [entry, List.zipIdx_cons, List.zipIdx_nil, List.map_cons, List.map_nil, Nat.zero_add, Tryz.ntmps283]
            repeat' (first
    | (refine H_cons ?_; simp [hne, hk, del, Nat.add_assoc])
    | (refine H_nil ?_; simp [hne, hk, del, Nat.add_assoc])
    | (refine ⟨by omega, ?_⟩)
    | (refine V_sseq ?_; simp [hne, hk, del, Nat.add_assoc])
    | (refine V_scond ?_; simp [hne, hk, del, Nat.add_assoc])
    | (refine V_sregion ?_; simp [hne, hk, del, Nat.add_assoc])
    | (refine V_skip ?_; simp only [RunK])
    | (refine CallP.fun_ (hnx) (by first | rfl | fail) (by first | assumption | (simp; done) | fail) (by first | (simp [hne, hk, del, Nat.add_assoc]; done) | (simp [hne, hk, del, Nat.add_assoc]; rfl) | fail) (by first | (simp; done) | fail) (fun d hd => ?_); subst hd; (try simp [hne, hk, del, Nat.add_assoc]))
    | (refine CallP.fun_ (hm1) (by first | rfl | fail) (by first | assumption | (simp; done) | fail) (by first | (simp [hne, hk, del, Nat.add_assoc]; done) | (simp [hne, hk, del, Nat.add_assoc]; rfl) | fail) (by first | (simp; done) | fail) (fun d hd => ?_); subst hd; (try simp [hne, hk, del, Nat.add_assoc]))
    | (refine CallP.fun_ (hm2) (by first | rfl | fail) (by first | assumption | (simp; done) | fail) (by first | (simp [hne, hk, del, Nat.add_assoc]; done) | (simp [hne, hk, del, Nat.add_assoc]; rfl) | fail) (by first | (simp; done) | fail) (fun d hd => ?_); subst hd; (try simp [hne, hk, del, Nat.add_assoc]))
    | (refine CallP.ok1 (hh1 _ (by first | omega | (simp; done) | (simp; omega) | fail)) (by first | (simp [hne, hk, del, Nat.add_assoc, getK_cons, getK, getK_append, getK_del]; done) | fail) (by rfl) (by first | assumption | (simp; done) | fail) (by rfl) (by simp) ?_; (try simp [hne, hk, del, Nat.add_assoc]))
    | (refine CallP.ok1 (hh2 _ (by first | omega | (simp; done) | (simp; omega) | fail)) (by first | (simp [hne, hk, del, Nat.add_assoc, getK_cons, getK, getK_append, getK_del]; done) | fail) (by rfl) (by first | assumption | (simp; done) | fail) (by rfl) (by simp) ?_; (try simp [hne, hk, del, Nat.add_assoc]))
    | (refine CallP.ok1 (hw1 _ (by first | omega | (simp; done) | (simp; omega) | fail)) (by first | (simp [hne, hk, del, Nat.add_assoc, getK_cons, getK, getK_append, getK_del]; done) | fail) (by rfl) (by first | assumption | (simp; done) | fail) (by rfl) (by simp) ?_; (try simp [hne, hk, del, Nat.add_assoc]))
    | (refine CallP.ok1 (ha _ (by first | omega | (simp; done) | (simp; omega) | fail)) (by first | (simp [hne, hk, del, Nat.add_assoc, getK_cons, getK, getK_append, getK_del]; done) | fail) (by rfl) (by first | assumption | (simp; done) | fail) (by rfl) (by simp) ?_; (try simp [hne, hk, del, Nat.add_assoc]))
    | (refine CallP.ok1 (hw2 _ (by first | omega | (simp; done) | (simp; omega) | fail)) (by first | (simp [hne, hk, del, Nat.add_assoc, getK_cons, getK, getK_append, getK_del]; done) | fail) (by rfl) (by first | assumption | (simp; done) | fail) (by rfl) (by simp) ?_; (try simp [hne, hk, del, Nat.add_assoc]))
    | (refine CallP.pan1 (hb _ (by first | omega | (simp; done) | (simp; omega) | fail)) (by first | (simp [hne, hk, del, Nat.add_assoc, getK_cons, getK, getK_append, getK_del]; done) | fail) (by rfl) (by first | assumption | (simp; done) | fail) (by rfl) (by simp) ?_; rintro ob' ⟨q', rfl⟩; refine ⟨_, Wk.refl _, ?_⟩)
    | (refine CallP_frzV (by first | rfl | fail) ?_; simp [hne, hk, del, Nat.add_assoc, frzN, frz1, frz_env, frz_obs, St.frz, St.frzS, frzS, fv, fzVec, fzMap, fzBox, frzObS, frz_entD, frz_rowsD, del, frz, frzOb])
    | fail)
            (refine hpan _ _ ⟨{ n := _, env := [], obs := [(i, pOb l q')], next := nx }, (Wk.cut rfl (by simp [hn]) (by simp [wkO, getK_cons, getK, getK_append, getK_del, Ob.under, D.under, under_rowsD, under_entD, hi, hne, getK_append, getK_del, getK_cons, getK]) (by simp [wkU, keepE, getK_cons, getK, D.under, hi, hne, getK_append, getK_del, getK_cons, getK]) (by simp [wkE, keepE, getK_cons, getK, hi, hne, getK_append, getK_del, getK_cons, getK])), by simp [hn], ?_⟩; try simp)
            exact PPost.at_stop (by simp [PR.bind, *])
          | ok v3 q3 =>
            have hb := fun nx' h => exp_ok (hb nx' h) hr3
            obtain ⟨g3a, g3b⟩ := (parse_le hl f).1 _ _ _ _ hr3 g2b
            have hw3 := fun nx' (h : nx ≤ nx') => want1 hl [41] (q := q3) (i := i) (nx := nx') (by omega) g3b
            cases hr4 : wantP l q3 [[41]] with
            | stop pos e =>
              simp only [hr4] at hw3
              (refine RetX.of_bodyW Tryz.func283 rfl (by simp) fun Γ hn hpan => ?_); simp only [entry, List.zipIdx_cons, List.zipIdx_nil, List.map_cons, List.map_nil, Nat.zero_add, Tryz.ntmps283]
              repeat' (first
    | (refine H_cons ?_; simp [hne, hk, del, Nat.add_assoc])
    | (refine H_nil ?_; simp [hne, hk, del, Nat.add_assoc])
    | (refine ⟨by omega, ?_⟩)
    | (refine V_sseq ?_; simp [hne, hk, del, Nat.add_assoc])
    | (refine V_scond ?_; simp [hne, hk, del, Nat.add_assoc])
    | (refine V_sregion ?_; simp [hne, hk, del, Nat.add_assoc])
    | (refine V_skip ?_; simp only [RunK])
    | (refine CallP.fun_ (hnx) (by first | rfl | fail) (by first | assumption | (simp; done) | fail) (by first | (simp [hne, hk, del, Nat.add_assoc]; done) | (simp [hne, hk, del, Nat.add_assoc]; rfl) | fail) (by first | (simp; done) | fail) (fun d hd => ?_); subst hd; (try simp [hne, hk, del, Nat.add_assoc]))
    | (refine CallP.fun_ (hm1) (by first | rfl | fail) (by first | assumption | (simp; done) | fail) (by first | (simp [hne, hk, del, Nat.add_assoc]; done) | (simp [hne, hk, del, Nat.add_assoc]; rfl) | fail) (by first | (simp; done) | fail) (fun d hd => ?_); subst hd; (try simp [hne, hk, del, Nat.add_assoc]))
    | (refine CallP.fun_ (hm2) (by first | rfl | fail) (by first | assumption | (simp; done) | fail) (by first | (simp [hne, hk, del, Nat.add_assoc]; done) | (simp [hne, hk, del, Nat.add_assoc]; rfl) | fail) (by first | (simp; done) | fail) (fun d hd => ?_); subst hd; (try simp [hne, hk, del, Nat.add_assoc]))
    | (refine CallP.ok1 (hh1 _ (by first | omega | (simp; done) | (simp; omega) | fail)) (by first | (simp [hne, hk, del, Nat.add_assoc, getK_cons, getK, getK_append, getK_del]; done) | fail) (by rfl) (by first | assumption | (simp; done) | fail) (by rfl) (by simp) ?_; (try simp [hne, hk, del, Nat.add_assoc]))
    | (refine CallP.ok1 (hh2 _ (by first | omega | (simp; done) | (simp; omega) | fail)) (by first | (simp [hne, hk, del, Nat.add_assoc, getK_cons, getK, getK_append, getK_del]; done) | fail) (by rfl) (by first | assumption | (simp; done) | fail) (by rfl) (by simp) ?_; (try simp [hne, hk, del, Nat.add_assoc]))
    | (refine CallP.ok1 (hw1 _ (by first | omega | (simp; done) | (simp; omega) | fail)) (by first | (simp [hne, hk, del, Nat.add_assoc, getK_cons, getK, getK_append, getK_del]; done) | fail) (by rfl) (by first | assumption | (simp; done) | fail) (by rfl) (by simp) ?_; (try simp [hne, hk, del, Nat.add_assoc]))
    | (refine CallP.ok1 (ha _ (by first | omega | (simp; done) | (simp; omega) | fail)) (by first | (simp [hne, hk, del, Nat.add_assoc, getK_cons, getK, getK_append, getK_del]; done) | fail) (by rfl) (by first | assumption | (simp; done) | fail) (by rfl) (by simp) ?_; (try simp [hne, hk, del, Nat.add_assoc]))
    | (refine CallP.ok1 (hw2 _ (by first | omega | (simp; done) | (simp; omega) | fail)) (by first | (simp [hne, hk, del, Nat.add_assoc, getK_cons, getK, getK_append, getK_del]; done) | fail) (by rfl) (by first | assumption | (simp; done) | fail) (by rfl) (by simp) ?_; (try simp [hne, hk, del, Nat.add_assoc]))
    | (refine CallP.ok1 (hb _ (by first | omega | (simp; done) | (simp; omega) | fail)) (by first | (simp [hne, hk, del, Nat.add_assoc, getK_cons, getK, getK_append, getK_del]; done) | fail) (by rfl) (by first | assumption | (simp; done) | fail) (by rfl) (by simp) ?_; (try simp [hne, hk, del, Nat.add_assoc]))
    | (refine CallP.pan1 (hw3 _ (by first | omega | (simp; done) | (simp; omega) | fail)) (by first | (simp [hne, hk, del, Nat.add_assoc, getK_cons, getK, getK_append, getK_del]; done) | fail) (by rfl) (by first | assumption | (simp; done) | fail) (by rfl) (by simp) ?_; rintro ob' ⟨q', rfl⟩; refine ⟨_, Wk.refl _, ?_⟩)
    | (refine CallP_frzV (by first | rfl | fail) ?_; simp [hne, hk, del, Nat.add_assoc, frzN, frz1, frz_env, frz_obs, St.frz, St.frzS, frzS, fv, fzVec, fzMap, fzBox, frzObS, frz_entD, frz_rowsD, del, frz, frzOb])
    | fail)
              (refine hpan _ _ ⟨{ n := _, env := [], obs := [(i, pOb l q')], next := nx }, (Wk.cut rfl (by simp [hn]) (by simp [wkO, getK_cons, getK, getK_append, getK_del, Ob.under, D.under, under_rowsD, under_entD, hi, hne, getK_append, getK_del, getK_cons, getK]) (by simp [wkU, keepE, getK_cons, getK, D.under, hi, hne, getK_append, getK_del, getK_cons, getK]) (by simp [wkE, keepE, getK_cons, getK, hi, hne, getK_append, getK_del, getK_cons, getK])), by simp [hn], ?_⟩; try simp)
              exact PPost.at_stop (by simp [PR.bind, *])
            | ok v4 q4 =>
              simp only [hr4] at hw3
              obtain ⟨g4a, g4b⟩ := wantP_le hl _ hr4 g3b
              (refine RetX.of_bodyW Tryz.func283 rfl (by simp) fun Γ hn hpan => ?_); simp only [entry, List.zipIdx_cons, List.zipIdx_nil, List.map_cons, List.map_nil, Nat.zero_add, Tryz.ntmps283]
              repeat' (first
    | (refine H_cons ?_; simp [hne, hk, del, Nat.add_assoc])
    | (refine H_nil ?_; simp [hne, hk, del, Nat.add_assoc])
    | (refine ⟨by omega, ?_⟩)
    | (refine V_sseq ?_; simp [hne, hk, del, Nat.add_assoc])
    | (refine V_scond ?_; simp [hne, hk, del, Nat.add_assoc])
    | (refine V_sregion ?_; simp [hne, hk, del, Nat.add_assoc])
    | (refine V_ret ?_; simp only [RunK])
    | (refine V_skip ?_; simp only [RunK])
    | (refine CallP.fun_ (hnx) (by first | rfl | fail) (by first | assumption | (simp; done) | fail) (by first | (simp [hne, hk, del, Nat.add_assoc]; done) | (simp [hne, hk, del, Nat.add_assoc]; rfl) | fail) (by first | (simp; done) | fail) (fun d hd => ?_); subst hd; (try simp [hne, hk, del, Nat.add_assoc]))
    | (refine CallP.fun_ (hm1) (by first | rfl | fail) (by first | assumption | (simp; done) | fail) (by first | (simp [hne, hk, del, Nat.add_assoc]; done) | (simp [hne, hk, del, Nat.add_assoc]; rfl) | fail) (by first | (simp; done) | fail) (fun d hd => ?_); subst hd; (try simp [hne, hk, del, Nat.add_assoc]))
    | (refine CallP.fun_ (hm2) (by first | rfl | fail) (by first | assumption | (simp; done) | fail) (by first | (simp [hne, hk, del, Nat.add_assoc]; done) | (simp [hne, hk, del, Nat.add_assoc]; rfl) | fail) (by first | (simp; done) | fail) (fun d hd => ?_); subst hd; (try simp [hne, hk, del, Nat.add_assoc]))
    | (refine CallP.ok1 (hh1 _ (by first | omega | (simp; done) | (simp; omega) | fail)) (by first | (simp [hne, hk, del, Nat.add_assoc, getK_cons, getK, getK_append, getK_del]; done) | fail) (by rfl) (by first | assumption | (simp; done) | fail) (by rfl) (by simp) ?_; (try simp [hne, hk, del, Nat.add_assoc]))
    | (refine CallP.ok1 (hh2 _ (by first | omega | (simp; done) | (simp; omega) | fail)) (by first | (simp [hne, hk, del, Nat.add_assoc, getK_cons, getK, getK_append, getK_del]; done) | fail) (by rfl) (by first | assumption | (simp; done) | fail) (by rfl) (by simp) ?_; (try simp [hne, hk, del, Nat.add_assoc]))
    | (refine CallP.ok1 (hw1 _ (by first | omega | (simp; done) | (simp; omega) | fail)) (by first | (simp [hne, hk, del, Nat.add_assoc, getK_cons, getK, getK_append, getK_del]; done) | fail) (by rfl) (by first | assumption | (simp; done) | fail) (by rfl) (by simp) ?_; (try simp [hne, hk, del, Nat.add_assoc]))
    | (refine CallP.ok1 (ha _ (by first | omega | (simp; done) | (simp; omega) | fail)) (by first | (simp [hne, hk, del, Nat.add_assoc, getK_cons, getK, getK_append, getK_del]; done) | fail) (by rfl) (by first | assumption | (simp; done) | fail) (by rfl) (by simp) ?_; (try simp [hne, hk, del, Nat.add_assoc]))
    | (refine CallP.ok1 (hw2 _ (by first | omega | (simp; done) | (simp; omega) | fail)) (by first | (simp [hne, hk, del, Nat.add_assoc, getK_cons, getK, getK_append, getK_del]; done) | fail) (by rfl) (by first | assumption | (simp; done) | fail) (by rfl) (by simp) ?_; (try simp [hne, hk, del, Nat.add_assoc]))
    | (refine CallP.ok1 (hb _ (by first | omega | (simp; done) | (simp; omega) | fail)) (by first | (simp [hne, hk, del, Nat.add_assoc, getK_cons, getK, getK_append, getK_del]; done) | fail) (by rfl) (by first | assumption | (simp; done) | fail) (by rfl) (by simp) ?_; (try simp [hne, hk, del, Nat.add_assoc]))
    | (refine CallP.ok1 (hw3 _ (by first | omega | (simp; done) | (simp; omega) | fail)) (by first | (simp [hne, hk, del, Nat.add_assoc, getK_cons, getK, getK_append, getK_del]; done) | fail) (by rfl) (by first | assumption | (simp; done) | fail) (by rfl) (by simp) ?_; (try simp [hne, hk, del, Nat.add_assoc]))
    | (refine CallP_frzV (by first | rfl | fail) ?_; simp [hne, hk, del, Nat.add_assoc, frzN, frz1, frz_env, frz_obs, St.frz, St.frzS, frzS, fv, fzVec, fzMap, fzBox, frzObS, frz_entD, frz_rowsD, del, frz, frzOb])
    | fail)
              (refine EndW.frzN 1 ?_; simp [frzN, frz1, frz_env, frz_obs, St.frz, St.frzS, frzS, fv, fzVec, fzMap, fzBox, frzObS, frz_entD, frz_rowsD, del, frz, frzOb, hne, Nat.add_assoc])
              refine EndW.norm ?_
              simp [St.norm, normOb, normD, normU, norm1, hne, Nat.add_assoc]
              (refine EndW.here ?_; (first | (refine EndOK.fin (.inr rfl) ?_) | (refine EndOK.fin (.inl rfl) ?_)); simp [resD, oneOrTup, Tryz.results283, hne, hi]; refine FinOK.cut [(i, pOb l q4)] (nx) (by simp [getK_cons, getK, getK_append, getK_del, Ob.under, D.under, under_rowsD, under_entD, hne, hi] <;> omega) (by simp [D.under]) (by simp [hn]) ?_; try simp)
              exact PPost.at_ok (by simp [PR.bind, *]; rfl) (by simp [Exp.row_eq, Exp.op, Exp.n, Exp.unit, Exp.s, Exp.args]) rfl
theorem primary_max {l : List Tok} (hl : TokOK l) {f p : Nat} (hE : ExpOK l f) (hf : 4 * (l.length - p) ≤ f) {t : Tok} (ht : l[p]? = some t) (hk : ¬ t.kind = 2) (h1 : isB l p [116, 114, 117, 101] = false) (h2 : isB l p [102, 97, 108, 115, 101] = false)
    (h3 : isB l p [109, 105, 110] = false) (h4 : isB l p [109, 97, 120] = true) {i nx : Nat} (hi : i < nx) :
    RetX Tryz.prog 283 [.ptr i 0] [(i, pOb l p)] nx (PPost l i nx expD (primaryP l (f + 1) p)) := primary_mm hl hE hf ht hk h1 h2 (.inl ⟨h3, h4⟩) hi

theorem prefix_if {l : List Tok} (hl : TokOK l) {f p : Nat} {form : Int} (hE : ExpOK l f) (hp : p < l.length) (hf : 4 * (l.length - p) + 1 ≤ f)
    (hf0 : form = 0) (h1 : isB l p [105, 102] = true) {i nx : Nat} (hi : i < nx) :
    RetX Tryz.prog 247 [.ptr i 0, intD form] [(i, pOb l p)] nx (PPost l i nx pairD (prefixP l (f + 1) p form)) := by
  have hne := ne_facts hi
  have hll := hl.len
  rw [prefixP]
  have hp2 := isB_lt hl h1
  subst hf0
  have hf0 : (0 : Int) = 0 := rfl
  have hf3 : (0 : Int) ≤ 3 := by omega
  have hh1 := fun nx' (h : nx ≤ nx') => has_ret l p [105, 102] i nx' (by omega) hp hl.len
  simp only [h1, if_true] at hh1
  rw [if_pos ⟨rfl, h1⟩]
  have ha := fun nx' (h : nx ≤ nx') => hE (p + 1) 0 i nx' (by omega) hp2 (by omega) (by omega) (by omega)
  cases hr0 : expP l f (p + 1) 0 with
  | stop pos e =>
    simp only [hr0] at ha
    (refine RetX.of_bodyW Tryz.func247 rfl (by simp) fun Γ hn hpan => ?_); simp only [entry, List.zipIdx_cons, List.zipIdx_nil, List.map_cons, List.map_nil, Nat.zero_add, Tryz.ntmps247]
    repeat' (first
    | (refine H_cons ?_; simp [hne, hf0, hf3, del, Nat.add_assoc])
    | (refine H_nil ?_; simp [hne, hf0, hf3, del, Nat.add_assoc])
    | (refine V_sseq ?_; simp [hne, hf0, hf3, del, Nat.add_assoc])
    | (refine V_scond ?_; simp [hne, hf0, hf3, del, Nat.add_assoc])
    | (refine CallP.ok1 (hh1 _ (by first | omega | (simp; done) | (simp; omega) | fail)) (by first | (simp [hne, hf0, hf3, del, Nat.add_assoc, getK_cons, getK, getK_append, getK_del]; done) | fail) (by rfl) (by first | assumption | (simp; done) | fail) (by rfl) (by simp) ?_; (try simp [hne, hf0, hf3, del, Nat.add_assoc]))
    | (refine CallP.pan1 (ha _ (by first | omega | (simp; done) | (simp; omega) | fail)) (by first | (simp [hne, hf0, hf3, del, Nat.add_assoc, getK_cons, getK, getK_append, getK_del]; done) | fail) (by rfl) (by first | assumption | (simp; done) | fail) (by rfl) (by simp) ?_; rintro ob' ⟨q', rfl⟩; refine ⟨_, Wk.refl _, ?_⟩)
    | fail)
    (refine hpan _ _ ⟨{ n := _, env := [], obs := [(i, pOb l q')], next := nx }, (Wk.cut rfl (by simp [hn]) (by simp [wkO, getK_cons, getK, getK_append, getK_del, Ob.under, D.under, under_rowsD, under_entD, hi, hne, getK_append, getK_del, getK_cons, getK]) (by simp [wkU, keepE, getK_cons, getK, D.under, hi, hne, getK_append, getK_del, getK_cons, getK]) (by simp [wkE, keepE, getK_cons, getK, hi, hne, getK_append, getK_del, getK_cons, getK])), by simp [hn], ?_⟩; try simp)
    exact PPost.at_stop (by simp [PR.bind, *])
  | ok v0 q0 =>
    have ha := fun nx' h => exp_ok (ha nx' h) hr0
    obtain ⟨g0a, g0b⟩ := (parse_le hl f).1 _ _ _ _ hr0 hp2
    have hw1 := fun nx' (h : nx ≤ nx') => want1 hl [116, 104, 101, 110] (q := q0) (i := i) (nx := nx') (by omega) g0b
    cases hr1 : wantP l q0 [[116, 104, 101, 110]] with
    | stop pos e =>
      simp only [hr1] at hw1
      (refine RetX.of_bodyW Tryz.func247 rfl (by simp) fun Γ hn hpan => ?_); simp only [entry, List.zipIdx_cons, List.zipIdx_nil, List.map_cons, List.map_nil, Nat.zero_add, Tryz.ntmps247]
      repeat' (first
    | (refine H_cons ?_; simp [hne, hf0, hf3, del, Nat.add_assoc])
    | (refine H_nil ?_; simp [hne, hf0, hf3, del, Nat.add_assoc])
    | (refine V_sseq ?_; simp [hne, hf0, hf3, del, Nat.add_assoc])
    | (refine V_scond ?_; simp [hne, hf0, hf3, del, Nat.add_assoc])
    | (refine CallP.ok1 (hh1 _ (by first | omega | (simp; done) | (simp; omega) | fail)) (by first | (simp [hne, hf0, hf3, del, Nat.add_assoc, getK_cons, getK, getK_append, getK_del]; done) | fail) (by rfl) (by first | assumption | (simp; done) | fail) (by rfl) (by simp) ?_; (try simp [hne, hf0, hf3, del, Nat.add_assoc]))
    | (refine CallP.ok1 (ha _ (by first | omega | (simp; done) | (simp; omega) | fail)) (by first | (simp [hne, hf0, hf3, del, Nat.add_assoc, getK_cons, getK, getK_append, getK_del]; done) | fail) (by rfl) (by first | assumption | (simp; done) | fail) (by rfl) (by simp) ?_; (try simp [hne, hf0, hf3, del, Nat.add_assoc]))
    | (refine CallP.pan1 (hw1 _ (by first | omega | (simp; done) | (simp; omega) | fail)) (by first | (simp [hne, hf0, hf3, del, Nat.add_assoc, getK_cons, getK, getK_append, getK_del]; done) | fail) (by rfl) (by first | assumption | (simp; done) | fail) (by rfl) (by simp) ?_; rintro ob' ⟨q', rfl⟩; refine ⟨_, Wk.refl _, ?_⟩)
    | (refine CallP_frzV (by first | rfl | fail) ?_; simp [hne, hf0, hf3, del, Nat.add_assoc, frzN, frz1, frz_env, frz_obs, St.frz, St.frzS, frzS, fv, fzVec, fzMap, fzBox, frzObS, frz_entD, frz_rowsD, del, frz, frzOb])
    | fail)
      (refine hpan _ _ ⟨{ n := _, env := [], obs := [(i, pOb l q')], next := nx }, (Wk.cut rfl (by simp [hn]) (by simp [wkO, getK_cons, getK, getK_append, getK_del, Ob.under, D.under, under_rowsD, under_entD, hi, hne, getK_append, getK_del, getK_cons, getK]) (by simp [wkU, keepE, getK_cons, getK, D.under, hi, hne, getK_append, getK_del, getK_cons, getK]) (by simp [wkE, keepE, getK_cons, getK, hi, hne, getK_append, getK_del, getK_cons, getK])), by simp [hn], ?_⟩; try simp)
      exact PPost.at_stop (by simp [PR.bind, *])
    | ok v1 q1 =>
      simp only [hr1] at hw1
      obtain ⟨g1a, g1b⟩ := wantP_le hl _ hr1 g0b
      have hb := fun nx' (h : nx ≤ nx') => hE q1 0 i nx' (by omega) g1b (by omega) (by omega) (by omega)
      cases hr2 : expP l f q1 0 with
      | stop pos e =>
        simp only [hr2] at hb
        (refine RetX.of_bodyW Tryz.func247 rfl (by simp) fun Γ hn hpan => ?_); simp only [entry, List.zipIdx_cons, List.zipIdx_nil, List.map_cons, List.map_nil, Nat.zero_add, Tryz.ntmps247]
        repeat' (first
    | (refine H_cons ?_; simp [hne, hf0, hf3, del, Nat.add_assoc])
    | (refine H_nil ?_; simp [hne, hf0, hf3, del, Nat.add_assoc])
    | (refine V_sseq ?_; simp [hne, hf0, hf3, del, Nat.add_assoc])
    | (refine V_scond ?_; simp [hne, hf0, hf3, del, Nat.add_assoc])
    | (refine CallP.ok1 (hh1 _ (by first | omega | (simp; done) | (simp; omega) | fail)) (by first | (simp [hne, hf0, hf3, del, Nat.add_assoc, getK_cons, getK, getK_append, getK_del]; done) | fail) (by rfl) (by first | assumption | (simp; done) | fail) (by rfl) (by simp) ?_; (try simp [hne, hf0, hf3, del, Nat.add_assoc]))
    | (refine CallP.ok1 (ha _ (by first | omega | (simp; done) | (simp; omega) | fail)) (by first | (simp [hne, hf0, hf3, del, Nat.add_assoc, getK_cons, getK, getK_append, getK_del]; done) | fail) (by rfl) (by first | assumption | (simp; done) | fail) (by rfl) (by simp) ?_; (try simp [hne, hf0, hf3, del, Nat.add_assoc]))
    | (refine CallP.ok1 (hw1 _ (by first | omega | (simp; done) | (simp; omega) | fail)) (by first | (simp [hne, hf0, hf3, del, Nat.add_assoc, getK_cons, getK, getK_append, getK_del]; done) | fail) (by rfl) (by first | assumption | (simp; done) | fail) (by rfl) (by simp) ?_; (try simp [hne, hf0, hf3, del, Nat.add_assoc]))
    | (refine CallP.pan1 (hb _ (by first | omega | (simp; done) | (simp; omega) | fail)) (by first | (simp [hne, hf0, hf3, del, Nat.add_assoc, getK_cons, getK, getK_append, getK_del]; done) | fail) (by rfl) (by first | assumption | (simp; done) | fail) (by rfl) (by simp) ?_; rintro ob' ⟨q', rfl⟩; refine ⟨_, Wk.refl _, ?_⟩)
    | (refine CallP_frzV (by first | rfl | fail) ?_; simp [hne, hf0, hf3, del, Nat.add_assoc, frzN, frz1, frz_env, frz_obs, St.frz, St.frzS, frzS, fv, fzVec, fzMap, fzBox, frzObS, frz_entD, frz_rowsD, del, frz, frzOb])
    | fail)
        (refine hpan _ _ ⟨{ n := _, env := [], obs := [(i, pOb l q')], next := nx }, (Wk.cut rfl (by simp [hn]) (by simp [wkO, getK_cons, getK, getK_append, getK_del, Ob.under, D.under, under_rowsD, under_entD, hi, hne, getK_append, getK_del, getK_cons, getK]) (by simp [wkU, keepE, getK_cons, getK, D.under, hi, hne, getK_append, getK_del, getK_cons, getK]) (by simp [wkE, keepE, getK_cons, getK, hi, hne, getK_append, getK_del, getK_cons, getK])), by simp [hn], ?_⟩; try simp)
        exact PPost.at_stop (by simp [PR.bind, *])
      | ok v2 q2 =>
        have hb := fun nx' h => exp_ok (hb nx' h) hr2
        obtain ⟨g2a, g2b⟩ := (parse_le hl f).1 _ _ _ _ hr2 g1b
        have hw2 := fun nx' (h : nx ≤ nx') => want1 hl [101, 108, 115, 101] (q := q2) (i := i) (nx := nx') (by omega) g2b
        cases hr3 : wantP l q2 [[101, 108, 115, 101]] with
        | stop pos e =>
          simp only [hr3] at hw2
          (refine RetX.of_bodyW Tryz.func247 rfl (by simp) fun Γ hn hpan => ?_); simp only [entry, List.zipIdx_cons, List.zipIdx_nil, List.map_cons, List.map_nil, Nat.zero_add, Tryz.ntmps247]
          repeat' (first
    | (refine H_cons ?_; simp [hne, hf0, hf3, del, Nat.add_assoc])
    | (refine H_nil ?_; simp [hne, hf0, hf3, del, Nat.add_assoc])
    | (refine V_sseq ?_; simp [hne, hf0, hf3, del, Nat.add_assoc])
    | (refine V_scond ?_; simp [hne, hf0, hf3, del, Nat.add_assoc])
    | (refine CallP.ok1 (hh1 _ (by first | omega | (simp; done) | (simp; omega) | fail)) (by first | (simp [hne, hf0, hf3, del, Nat.add_assoc, getK_cons, getK, getK_append, getK_del]; done) | fail) (by rfl) (by first | assumption | (simp; done) | fail) (by rfl) (by simp) ?_; (try simp [hne, hf0, hf3, del, Nat.add_assoc]))
    | (refine CallP.ok1 (ha _ (by first | omega | (simp; done) | (simp; omega) | fail)) (by first | (simp [hne, hf0, hf3, del, Nat.add_assoc, getK_cons, getK, getK_append, getK_del]; done) | fail) (by rfl) (by first | assumption | (simp; done) | fail) (by rfl) (by simp) ?_; (try simp [hne, hf0, hf3, del, Nat.add_assoc]))
    | (refine CallP.ok1 (hw1 _ (by first | omega | (simp; done) | (simp; omega) | fail)) (by first | (simp [hne, hf0, hf3, del, Nat.add_assoc, getK_cons, getK, getK_append, getK_del]; done) | fail) (by rfl) (by first | assumption | (simp; done) | fail) (by rfl) (by simp) ?_; (try simp [hne, hf0, hf3, del, Nat.add_assoc]))
    | (refine CallP.ok1 (hb _ (by first | omega | (simp; done) | (simp; omega) | fail)) (by first | (simp [hne, hf0, hf3, del, Nat.add_assoc, getK_cons, getK, getK_append, getK_del]; done) | fail) (by rfl) (by first | assumption | (simp; done) | fail) (by rfl) (by simp) ?_; (try simp [hne, hf0, hf3, del, Nat.add_assoc]))
    | (refine CallP.pan1 (hw2 _ (by first | omega | (simp; done) | (simp; omega) | fail)) (by first | (simp [hne, hf0, hf3, del, Nat.add_assoc, getK_cons, getK, getK_append, getK_del]; done) | fail) (by rfl) (by first | assumption | (simp; done) | fail) (by rfl) (by simp) ?_; rintro ob' ⟨q', rfl⟩; refine ⟨_, Wk.refl _, ?_⟩)
    | (refine CallP_frzV (by first | rfl | fail) ?_; simp [hne, hf0, hf3, del, Nat.add_assoc, frzN, frz1, frz_env, frz_obs, St.frz, St.frzS, frzS, fv, fzVec, fzMap, fzBox, frzObS, frz_entD, frz_rowsD, del, frz, frzOb])
    | fail)
          (refine hpan _ _ ⟨{ n := _, env := [], obs := [(i, pOb l q')], next := nx }, (Wk.cut rfl (by simp [hn]) (by simp [wkO, getK_cons, getK, getK_append, getK_del, Ob.under, D.under, under_rowsD, under_entD, hi, hne, getK_append, getK_del, getK_cons, getK]) (by simp [wkU, keepE, getK_cons, getK, D.under, hi, hne, getK_append, getK_del, getK_cons, getK]) (by simp [wkE, keepE, getK_cons, getK, hi, hne, getK_append, getK_del, getK_cons, getK])), by simp [hn], ?_⟩; try simp)
          exact PPost.at_stop (by simp [PR.bind, *])
        | ok v3 q3 =>
          simp only [hr3] at hw2
          obtain ⟨g3a, g3b⟩ := wantP_le hl _ hr3 g2b
          have hc := fun nx' (h : nx ≤ nx') => hE q3 0 i nx' (by omega) g3b (by omega) (by omega) (by omega)
          cases hr4 : expP l f q3 0 with
          | stop pos e =>
            simp only [hr4] at hc
            (refine RetX.of_bodyW Tryz.func247 rfl (by simp) fun Γ hn hpan => ?_); simp only [entry, List.zipIdx_cons, List.zipIdx_nil, List.map_cons, List.map_nil, Nat.zero_add, Tryz.ntmps247]
            repeat' (first
    | (refine HD4_pan1 (fun nx' h' => hc nx' (by simp at h'; omega)) (by first | (simp [hne, hf0, hf3, del, Nat.add_assoc, getK_cons, getK, getK_append, getK_del, getK_setOb, applyW]; done) | fail) (by rfl) (by first | assumption | simp) (by rfl) (by simp) ?_ ?_; rintro env' ob' n' hn' ⟨q', rfl⟩; refine ⟨_, Wk.refl _, ?_⟩)
    | (refine HD4_skipS rfl (by simp) ?_; simp)
    | (refine H_cons ?_; simp [hne, hf0, hf3, del, Nat.add_assoc])
    | (refine HD4_val rfl ?_; simp [hne, hf0, hf3, del, Nat.add_assoc])
    | (refine H_nil ?_; simp [hne, hf0, hf3, del, Nat.add_assoc])
    | (refine V_sseq ?_; simp [hne, hf0, hf3, del, Nat.add_assoc])
    | (refine V_scond ?_; simp [hne, hf0, hf3, del, Nat.add_assoc])
    | (refine HD4_nilS (hC _ (okP4_ren [i] nx (by simp <;> omega) (by simp <;> omega) (by apply Exists.intro; apply And.intro; (focus (repeat' (first | exact KF.nil | exact KL.nil | apply KF.cons | apply KL.cons 0 rfl | apply KL.cons 1 rfl | apply KL.cons 2 rfl | apply KL.cons 3 rfl | apply KL.cons 4 rfl | apply KL.cons 5 rfl | apply KL.cons 6 rfl | apply KL.cons 7 rfl | apply KL.cons 8 rfl | apply KL.cons 9 rfl))); kernel_rfl))) rfl; done)
    | (refine V_drawX rfl (by kernel_rfl) (by first | (simp [hn]; done) | (simp [hn]; omega) | fail) fun C k hC hk => ?_; simp [hne, hf0, hf3, del, Nat.add_assoc])
    | (refine CallP.ok1 (hh1 _ (by first | omega | (simp; done) | (simp; omega) | fail)) (by first | (simp [hne, hf0, hf3, del, Nat.add_assoc, getK_cons, getK, getK_append, getK_del]; done) | fail) (by rfl) (by first | assumption | (simp; done) | fail) (by rfl) (by simp) ?_; (try simp [hne, hf0, hf3, del, Nat.add_assoc]))
    | (refine CallP.ok1 (ha _ (by first | omega | (simp; done) | (simp; omega) | fail)) (by first | (simp [hne, hf0, hf3, del, Nat.add_assoc, getK_cons, getK, getK_append, getK_del]; done) | fail) (by rfl) (by first | assumption | (simp; done) | fail) (by rfl) (by simp) ?_; (try simp [hne, hf0, hf3, del, Nat.add_assoc]))
    | (refine CallP.ok1 (hw1 _ (by first | omega | (simp; done) | (simp; omega) | fail)) (by first | (simp [hne, hf0, hf3, del, Nat.add_assoc, getK_cons, getK, getK_append, getK_del]; done) | fail) (by rfl) (by first | assumption | (simp; done) | fail) (by rfl) (by simp) ?_; (try simp [hne, hf0, hf3, del, Nat.add_assoc]))
    | (refine CallP.ok1 (hb _ (by first | omega | (simp; done) | (simp; omega) | fail)) (by first | (simp [hne, hf0, hf3, del, Nat.add_assoc, getK_cons, getK, getK_append, getK_del]; done) | fail) (by rfl) (by first | assumption | (simp; done) | fail) (by rfl) (by simp) ?_; (try simp [hne, hf0, hf3, del, Nat.add_assoc]))
    | (refine CallP.ok1 (hw2 _ (by first | omega | (simp; done) | (simp; omega) | fail)) (by first | (simp [hne, hf0, hf3, del, Nat.add_assoc, getK_cons, getK, getK_append, getK_del]; done) | fail) (by rfl) (by first | assumption | (simp; done) | fail) (by rfl) (by simp) ?_; (try simp [hne, hf0, hf3, del, Nat.add_assoc]))
    | (refine CallP_frzV (by first | rfl | fail) ?_; simp [hne, hf0, hf3, del, Nat.add_assoc, frzN, frz1, frz_env, frz_obs, St.frz, St.frzS, frzS, fv, fzVec, fzMap, fzBox, frzObS, frz_entD, frz_rowsD, del, frz, frzOb])
    | fail)
            (refine hpan _ _ ⟨{ n := _, env := [], obs := [(i, pOb l q')], next := nx }, (Wk.cut rfl (by simp [hn]) (by simp [wkO, getK_cons, getK, getK_append, getK_del, Ob.under, D.under, under_rowsD, under_entD, hi, hne, getK_append, getK_del, getK_cons, getK]) (by simp [wkU, keepE, getK_cons, getK, D.under, hi, hne, getK_append, getK_del, getK_cons, getK]) (by simp [wkE, keepE, getK_cons, getK, hi, hne, getK_append, getK_del, getK_cons, getK])), by simp [hn], ?_⟩; try simp)
            exact PPost.at_stop (by simp [PR.bind, *])
          | ok v4 q4 =>
            have hc := fun nx' h => exp_ok (hc nx' h) hr4
            obtain ⟨g4a, g4b⟩ := (parse_le hl f).1 _ _ _ _ hr4 g3b
            (refine RetX.of_bodyW Tryz.func247 rfl (by simp) fun Γ hn hpan => ?_); simp only [entry, List.zipIdx_cons, List.zipIdx_nil, List.map_cons, List.map_nil, Nat.zero_add, Tryz.ntmps247]
            repeat' (first
    | (refine HD4_ok1 (fun nx' h' => hc nx' (by simp at h'; omega)) (by first | (simp [hne, hf0, hf3, del, Nat.add_assoc, getK_cons, getK, getK_append, getK_del, getK_setOb, applyW]; done) | fail) (by rfl) (by first | assumption | simp) (by rfl) (by simp [D.under, Ob.under]) (by simp) ?_; (try simp [hne, hf0, hf3, del, Nat.add_assoc]))
    | (refine H_cons ?_; simp [hne, hf0, hf3, del, Nat.add_assoc])
    | (refine HD4_val rfl ?_; simp [hne, hf0, hf3, del, Nat.add_assoc])
    | (refine HD4_chg rfl ?_; simp [hne, hf0, hf3, del, Nat.add_assoc])
    | (refine H_nil ?_; simp [hne, hf0, hf3, del, Nat.add_assoc])
    | (refine V_sseq ?_; simp [hne, hf0, hf3, del, Nat.add_assoc])
    | (refine V_scond ?_; simp [hne, hf0, hf3, del, Nat.add_assoc])
    | (refine HD4_nil (hC _ (okP4_ren [i] nx (by simp <;> omega) (by simp <;> omega) (by apply Exists.intro; apply And.intro; (focus (repeat' (first | exact KF.nil | exact KL.nil | apply KF.cons | apply KL.cons 0 rfl | apply KL.cons 1 rfl | apply KL.cons 2 rfl | apply KL.cons 3 rfl | apply KL.cons 4 rfl | apply KL.cons 5 rfl | apply KL.cons 6 rfl | apply KL.cons 7 rfl | apply KL.cons 8 rfl | apply KL.cons 9 rfl))); kernel_rfl))) (hk _ ?_); clear hC hk C k; simp only [RunK])
    | (refine V_drawX rfl (by kernel_rfl) (by first | (simp [hn]; done) | (simp [hn]; omega) | fail) fun C k hC hk => ?_; simp [hne, hf0, hf3, del, Nat.add_assoc])
    | (refine V_ret ?_; simp only [RunK])
    | (refine CallP.ok1 (hh1 _ (by first | omega | (simp; done) | (simp; omega) | fail)) (by first | (simp [hne, hf0, hf3, del, Nat.add_assoc, getK_cons, getK, getK_append, getK_del]; done) | fail) (by rfl) (by first | assumption | (simp; done) | fail) (by rfl) (by simp) ?_; (try simp [hne, hf0, hf3, del, Nat.add_assoc]))
    | (refine CallP.ok1 (ha _ (by first | omega | (simp; done) | (simp; omega) | fail)) (by first | (simp [hne, hf0, hf3, del, Nat.add_assoc, getK_cons, getK, getK_append, getK_del]; done) | fail) (by rfl) (by first | assumption | (simp; done) | fail) (by rfl) (by simp) ?_; (try simp [hne, hf0, hf3, del, Nat.add_assoc]))
    | (refine CallP.ok1 (hw1 _ (by first | omega | (simp; done) | (simp; omega) | fail)) (by first | (simp [hne, hf0, hf3, del, Nat.add_assoc, getK_cons, getK, getK_append, getK_del]; done) | fail) (by rfl) (by first | assumption | (simp; done) | fail) (by rfl) (by simp) ?_; (try simp [hne, hf0, hf3, del, Nat.add_assoc]))
    | (refine CallP.ok1 (hb _ (by first | omega | (simp; done) | (simp; omega) | fail)) (by first | (simp [hne, hf0, hf3, del, Nat.add_assoc, getK_cons, getK, getK_append, getK_del]; done) | fail) (by rfl) (by first | assumption | (simp; done) | fail) (by rfl) (by simp) ?_; (try simp [hne, hf0, hf3, del, Nat.add_assoc]))
    | (refine CallP.ok1 (hw2 _ (by first | omega | (simp; done) | (simp; omega) | fail)) (by first | (simp [hne, hf0, hf3, del, Nat.add_assoc, getK_cons, getK, getK_append, getK_del]; done) | fail) (by rfl) (by first | assumption | (simp; done) | fail) (by rfl) (by simp) ?_; (try simp [hne, hf0, hf3, del, Nat.add_assoc]))
    | (refine CallP_frzV (by first | rfl | fail) ?_; simp [hne, hf0, hf3, del, Nat.add_assoc, frzN, frz1, frz_env, frz_obs, St.frz, St.frzS, frzS, fv, fzVec, fzMap, fzBox, frzObS, frz_entD, frz_rowsD, del, frz, frzOb])
    | fail)
            (refine EndW.frzN 1 ?_; simp [frzN, frz1, frz_env, frz_obs, St.frz, St.frzS, frzS, fv, fzVec, fzMap, fzBox, frzObS, frz_entD, frz_rowsD, del, frz, frzOb, hne, Nat.add_assoc])
            refine EndW.norm ?_
            simp [St.norm, normOb, normD, normU, norm1, hne, Nat.add_assoc]
            (refine EndW.here ?_; (first | (refine EndOK.fin (.inr rfl) ?_) | (refine EndOK.fin (.inl rfl) ?_)); simp [resD, oneOrTup, Tryz.results247, hne, hi]; refine FinOK.cut [(i, pOb l q4)] (nx) (by simp [getK_cons, getK, getK_append, getK_del, Ob.under, D.under, under_rowsD, under_entD, hne, hi] <;> omega) (by simp [D.under]) (by simp [hn]) ?_; try simp)
            exact PPost.at_ok (by simp [PR.bind, *]; rfl) (by simp [Exp.row_eq, Exp.op, Exp.n, Exp.unit, Exp.s, Exp.args]) rfl
theorem prefix_not0 {l : List Tok} (hl : TokOK l) {f p : Nat} {form : Int} (hE : ExpOK l f) (hp : p < l.length) (hf : 4 * (l.length - p) + 1 ≤ f)
    (hf0 : form = 0) (hf3 : form ≤ 3) (h1 : isB l p [105, 102] = false) (h2 : isB l p [110, 111, 116] = true) {i nx : Nat} (hi : i < nx) :
    RetX Tryz.prog 247 [.ptr i 0, intD form] [(i, pOb l p)] nx (PPost l i nx pairD (prefixP l (f + 1) p form)) := by
  have hne := ne_facts hi
  have hll := hl.len
  rw [prefixP]
  have hh1 := fun nx' (h : nx ≤ nx') => has_ret l p [105, 102] i nx' (by omega) hp hl.len
  rw [h1] at hh1
  simp only [if_true, Bool.false_eq_true, if_false] at hh1
  have hp2 := isB_lt hl h2
  have hh2 := fun nx' (h : nx ≤ nx') => has_ret l p [110, 111, 116] i nx' (by omega) hp hl.len
  rw [h2] at hh2
  simp only [if_true, Bool.false_eq_true, if_false] at hh2
  rw [if_neg (by simp [*]), if_pos ⟨hf3, h2⟩]
  have ha := fun nx' (h : nx ≤ nx') => hE (p + 1) 3 i nx' (by omega) hp2 (by omega) (by omega) (by omega)
  cases hr0 : expP l f (p + 1) 3 with
  | stop pos e =>
    simp only [hr0] at ha
    (refine RetX.of_bodyW Tryz.func247 rfl (by simp) fun Γ hn hpan => ?_); simp only [entry, List.zipIdx_cons, List.zipIdx_nil, List.map_cons, List.map_nil, Nat.zero_add, Tryz.ntmps247]
    repeat' (first
    | (refine H_cons ?_; simp [hne, hf0, hf3, del, Nat.add_assoc])
    | (refine H_nil ?_; simp [hne, hf0, hf3, del, Nat.add_assoc])
    | (refine V_sseq ?_; simp [hne, hf0, hf3, del, Nat.add_assoc])
    | (refine V_scond ?_; simp [hne, hf0, hf3, del, Nat.add_assoc])
    | (refine V_skip ?_; simp only [RunK])
    | (refine CallP.ok1 (hh1 _ (by first | omega | (simp; done) | (simp; omega) | fail)) (by first | (simp [hne, hf0, hf3, del, Nat.add_assoc, getK_cons, getK, getK_append, getK_del]; done) | fail) (by rfl) (by first | assumption | (simp; done) | fail) (by rfl) (by simp) ?_; (try simp [hne, hf0, hf3, del, Nat.add_assoc]))
    | (refine CallP.ok1 (hh2 _ (by first | omega | (simp; done) | (simp; omega) | fail)) (by first | (simp [hne, hf0, hf3, del, Nat.add_assoc, getK_cons, getK, getK_append, getK_del]; done) | fail) (by rfl) (by first | assumption | (simp; done) | fail) (by rfl) (by simp) ?_; (try simp [hne, hf0, hf3, del, Nat.add_assoc]))
    | (refine CallP.pan1 (ha _ (by first | omega | (simp; done) | (simp; omega) | fail)) (by first | (simp [hne, hf0, hf3, del, Nat.add_assoc, getK_cons, getK, getK_append, getK_del]; done) | fail) (by rfl) (by first | assumption | (simp; done) | fail) (by rfl) (by simp) ?_; rintro ob' ⟨q', rfl⟩; refine ⟨_, Wk.refl _, ?_⟩)
    | fail)
    (refine hpan _ _ ⟨{ n := _, env := [], obs := [(i, pOb l q')], next := nx }, (Wk.cut rfl (by simp [hn]) (by simp [wkO, getK_cons, getK, getK_append, getK_del, Ob.under, D.under, under_rowsD, under_entD, hi, hne, getK_append, getK_del, getK_cons, getK]) (by simp [wkU, keepE, getK_cons, getK, D.under, hi, hne, getK_append, getK_del, getK_cons, getK]) (by simp [wkE, keepE, getK_cons, getK, hi, hne, getK_append, getK_del, getK_cons, getK])), by simp [hn], ?_⟩; try simp)
    exact PPost.at_stop (by simp [PR.bind, *])
  | ok v0 q0 =>
    have ha := fun nx' h => exp_ok (ha nx' h) hr0
    (refine RetX.of_bodyW Tryz.func247 rfl (by simp) fun Γ hn hpan => ?_); simp only [entry, List.zipIdx_cons, List.zipIdx_nil, List.map_cons, List.map_nil, Nat.zero_add, Tryz.ntmps247]
    repeat' (first
    | (refine H_cons ?_; simp [hne, hf0, hf3, del, Nat.add_assoc])
    | (refine H_nil ?_; simp [hne, hf0, hf3, del, Nat.add_assoc])
    | (refine V_sseq ?_; simp [hne, hf0, hf3, del, Nat.add_assoc])
    | (refine V_scond ?_; simp [hne, hf0, hf3, del, Nat.add_assoc])
    | (refine V_ret ?_; simp only [RunK])
    | (refine V_skip ?_; simp only [RunK])
    | (refine CallP.ok1 (hh1 _ (by first | omega | (simp; done) | (simp; omega) | fail)) (by first | (simp [hne, hf0, hf3, del, Nat.add_assoc, getK_cons, getK, getK_append, getK_del]; done) | fail) (by rfl) (by first | assumption | (simp; done) | fail) (by rfl) (by simp) ?_; (try simp [hne, hf0, hf3, del, Nat.add_assoc]))
    | (refine CallP.ok1 (hh2 _ (by first | omega | (simp; done) | (simp; omega) | fail)) (by first | (simp [hne, hf0, hf3, del, Nat.add_assoc, getK_cons, getK, getK_append, getK_del]; done) | fail) (by rfl) (by first | assumption | (simp; done) | fail) (by rfl) (by simp) ?_; (try simp [hne, hf0, hf3, del, Nat.add_assoc]))
    | (refine CallP.ok1 (ha _ (by first | omega | (simp; done) | (simp; omega) | fail)) (by first | (simp [hne, hf0, hf3, del, Nat.add_assoc, getK_cons, getK, getK_append, getK_del]; done) | fail) (by rfl) (by first | assumption | (simp; done) | fail) (by rfl) (by simp) ?_; (try simp [hne, hf0, hf3, del, Nat.add_assoc]))
    | fail)
    (refine EndW.frzN 1 ?_; simp [frzN, frz1, frz_env, frz_obs, St.frz, St.frzS, frzS, fv, fzVec, fzMap, fzBox, frzObS, frz_entD, frz_rowsD, del, frz, frzOb, hne, Nat.add_assoc])
    refine EndW.norm ?_
    simp [St.norm, normOb, normD, normU, norm1, hne, Nat.add_assoc]
    (refine EndW.here ?_; (first | (refine EndOK.fin (.inr rfl) ?_) | (refine EndOK.fin (.inl rfl) ?_)); simp [resD, oneOrTup, Tryz.results247, hne, hi]; refine FinOK.cut [(i, pOb l q0)] (nx) (by simp [getK_cons, getK, getK_append, getK_del, Ob.under, D.under, under_rowsD, under_entD, hne, hi] <;> omega) (by simp [D.under]) (by simp [hn]) ?_; try simp)
    exact PPost.at_ok (by simp [PR.bind, *]; rfl) (by simp [Exp.row_eq, Exp.op, Exp.n, Exp.unit, Exp.s, Exp.args]) rfl
theorem prefix_not1 {l : List Tok} (hl : TokOK l) {f p : Nat} {form : Int} (hE : ExpOK l f) (hp : p < l.length) (hf : 4 * (l.length - p) + 1 ≤ f)
    (hf0 : ¬ form = 0) (hf3 : form ≤ 3) (h2 : isB l p [110, 111, 116] = true) {i nx : Nat} (hi : i < nx) :
    RetX Tryz.prog 247 [.ptr i 0, intD form] [(i, pOb l p)] nx (PPost l i nx pairD (prefixP l (f + 1) p form)) := by
  have hne := ne_facts hi
  have hll := hl.len
  rw [prefixP]
  have hp2 := isB_lt hl h2
  have hh2 := fun nx' (h : nx ≤ nx') => has_ret l p [110, 111, 116] i nx' (by omega) hp hl.len
  rw [h2] at hh2
  simp only [if_true, Bool.false_eq_true, if_false] at hh2
  rw [if_neg (by simp [*]), if_pos ⟨hf3, h2⟩]
  have ha := fun nx' (h : nx ≤ nx') => hE (p + 1) 3 i nx' (by omega) hp2 (by omega) (by omega) (by omega)
  cases hr0 : expP l f (p + 1) 3 with
  | stop pos e =>
    simp only [hr0] at ha
    (refine RetX.of_bodyW Tryz.func247 rfl (by simp) fun Γ hn hpan => ?_); simp only [entry, List.zipIdx_cons, List.zipIdx_nil, List.map_cons, List.map_nil, Nat.zero_add, Tryz.ntmps247]
    repeat' (first
    | (refine H_cons ?_; simp [hne, hf0, hf3, del, Nat.add_assoc])
    | (refine H_nil ?_; simp [hne, hf0, hf3, del, Nat.add_assoc])
    | (refine V_sseq ?_; simp [hne, hf0, hf3, del, Nat.add_assoc])
    | (refine V_scond ?_; simp [hne, hf0, hf3, del, Nat.add_assoc])
    | (refine V_skip ?_; simp only [RunK])
    | (refine CallP.ok1 (hh2 _ (by first | omega | (simp; done) | (simp; omega) | fail)) (by first | (simp [hne, hf0, hf3, del, Nat.add_assoc, getK_cons, getK, getK_append, getK_del]; done) | fail) (by rfl) (by first | assumption | (simp; done) | fail) (by rfl) (by simp) ?_; (try simp [hne, hf0, hf3, del, Nat.add_assoc]))
    | (refine CallP.pan1 (ha _ (by first | omega | (simp; done) | (simp; omega) | fail)) (by first | (simp [hne, hf0, hf3, del, Nat.add_assoc, getK_cons, getK, getK_append, getK_del]; done) | fail) (by rfl) (by first | assumption | (simp; done) | fail) (by rfl) (by simp) ?_; rintro ob' ⟨q', rfl⟩; refine ⟨_, Wk.refl _, ?_⟩)
    | fail)
    (refine hpan _ _ ⟨{ n := _, env := [], obs := [(i, pOb l q')], next := nx }, (Wk.cut rfl (by simp [hn]) (by simp [wkO, getK_cons, getK, getK_append, getK_del, Ob.under, D.under, under_rowsD, under_entD, hi, hne, getK_append, getK_del, getK_cons, getK]) (by simp [wkU, keepE, getK_cons, getK, D.under, hi, hne, getK_append, getK_del, getK_cons, getK]) (by simp [wkE, keepE, getK_cons, getK, hi, hne, getK_append, getK_del, getK_cons, getK])), by simp [hn], ?_⟩; try simp)
    exact PPost.at_stop (by simp [PR.bind, *])
  | ok v0 q0 =>
    have ha := fun nx' h => exp_ok (ha nx' h) hr0
    (refine RetX.of_bodyW Tryz.func247 rfl (by simp) fun Γ hn hpan => ?_); simp only [entry, List.zipIdx_cons, List.zipIdx_nil, List.map_cons, List.map_nil, Nat.zero_add, Tryz.ntmps247]
    repeat' (first
    | (refine H_cons ?_; simp [hne, hf0, hf3, del, Nat.add_assoc])
    | (refine H_nil ?_; simp [hne, hf0, hf3, del, Nat.add_assoc])
    | (refine V_sseq ?_; simp [hne, hf0, hf3, del, Nat.add_assoc])
    | (refine V_scond ?_; simp [hne, hf0, hf3, del, Nat.add_assoc])
    | (refine V_ret ?_; simp only [RunK])
    | (refine V_skip ?_; simp only [RunK])
    | (refine CallP.ok1 (hh2 _ (by first | omega | (simp; done) | (simp; omega) | fail)) (by first | (simp [hne, hf0, hf3, del, Nat.add_assoc, getK_cons, getK, getK_append, getK_del]; done) | fail) (by rfl) (by first | assumption | (simp; done) | fail) (by rfl) (by simp) ?_; (try simp [hne, hf0, hf3, del, Nat.add_assoc]))
    | (refine CallP.ok1 (ha _ (by first | omega | (simp; done) | (simp; omega) | fail)) (by first | (simp [hne, hf0, hf3, del, Nat.add_assoc, getK_cons, getK, getK_append, getK_del]; done) | fail) (by rfl) (by first | assumption | (simp; done) | fail) (by rfl) (by simp) ?_; (try simp [hne, hf0, hf3, del, Nat.add_assoc]))
    | fail)
    (refine EndW.frzN 1 ?_; simp [frzN, frz1, frz_env, frz_obs, St.frz, St.frzS, frzS, fv, fzVec, fzMap, fzBox, frzObS, frz_entD, frz_rowsD, del, frz, frzOb, hne, Nat.add_assoc])
    refine EndW.norm ?_
    simp [St.norm, normOb, normD, normU, norm1, hne, Nat.add_assoc]
    (refine EndW.here ?_; (first | (refine EndOK.fin (.inr rfl) ?_) | (refine EndOK.fin (.inl rfl) ?_)); simp [resD, oneOrTup, Tryz.results247, hne, hi]; refine FinOK.cut [(i, pOb l q0)] (nx) (by simp [getK_cons, getK, getK_append, getK_del, Ob.under, D.under, under_rowsD, under_entD, hne, hi] <;> omega) (by simp [D.under]) (by simp [hn]) ?_; try simp)
    exact PPost.at_ok (by simp [PR.bind, *]; rfl) (by simp [Exp.row_eq, Exp.op, Exp.n, Exp.unit, Exp.s, Exp.args]) rfl
theorem prefix_prim0 {l : List Tok} (hl : TokOK l) {f p : Nat} {form : Int} (hP : PrimOK l f) (hp : p < l.length) (hf : 4 * (l.length - p) + 1 ≤ f)
    (hf0 : form = 0) (hf3 : form ≤ 3) (h1 : isB l p [105, 102] = false) (h2 : isB l p [110, 111, 116] = false) {i nx : Nat} (hi : i < nx) :
    RetX Tryz.prog 247 [.ptr i 0, intD form] [(i, pOb l p)] nx (PPost l i nx pairD (prefixP l (f + 1) p form)) := by
  have hne := ne_facts hi
  have hll := hl.len
  rw [prefixP]
  have hh1 := fun nx' (h : nx ≤ nx') => has_ret l p [105, 102] i nx' (by omega) hp hl.len
  rw [h1] at hh1
  simp only [if_true, Bool.false_eq_true, if_false] at hh1
  have hh2 := fun nx' (h : nx ≤ nx') => has_ret l p [110, 111, 116] i nx' (by omega) hp hl.len
  rw [h2] at hh2
  simp only [if_true, Bool.false_eq_true, if_false] at hh2
  rw [if_neg (by simp [*]), if_neg (by simp [*])]
  have ha := fun nx' (h : nx ≤ nx') => hP p i nx' (by omega) hp (by omega)
  cases hr0 : primaryP l f p with
  | stop pos e =>
    simp only [hr0] at ha
    (refine RetX.of_bodyW Tryz.func247 rfl (by simp) fun Γ hn hpan => ?_); simp only [entry, List.zipIdx_cons, List.zipIdx_nil, List.map_cons, List.map_nil, Nat.zero_add, Tryz.ntmps247]
    repeat' (first
    | (refine H_cons ?_; simp [hne, hf0, hf3, del, Nat.add_assoc])
    | (refine H_nil ?_; simp [hne, hf0, hf3, del, Nat.add_assoc])
    | (refine V_sseq ?_; simp [hne, hf0, hf3, del, Nat.add_assoc])
    | (refine V_scond ?_; simp [hne, hf0, hf3, del, Nat.add_assoc])
    | (refine V_skip ?_; simp only [RunK])
    | (refine CallP.ok1 (hh1 _ (by first | omega | (simp; done) | (simp; omega) | fail)) (by first | (simp [hne, hf0, hf3, del, Nat.add_assoc, getK_cons, getK, getK_append, getK_del]; done) | fail) (by rfl) (by first | assumption | (simp; done) | fail) (by rfl) (by simp) ?_; (try simp [hne, hf0, hf3, del, Nat.add_assoc]))
    | (refine CallP.ok1 (hh2 _ (by first | omega | (simp; done) | (simp; omega) | fail)) (by first | (simp [hne, hf0, hf3, del, Nat.add_assoc, getK_cons, getK, getK_append, getK_del]; done) | fail) (by rfl) (by first | assumption | (simp; done) | fail) (by rfl) (by simp) ?_; (try simp [hne, hf0, hf3, del, Nat.add_assoc]))
    | (refine CallP.pan1 (ha _ (by first | omega | (simp; done) | (simp; omega) | fail)) (by first | (simp [hne, hf0, hf3, del, Nat.add_assoc, getK_cons, getK, getK_append, getK_del]; done) | fail) (by rfl) (by first | assumption | (simp; done) | fail) (by rfl) (by simp) ?_; rintro ob' ⟨q', rfl⟩; refine ⟨_, Wk.refl _, ?_⟩)
    | fail)
    (refine hpan _ _ ⟨{ n := _, env := [], obs := [(i, pOb l q')], next := nx }, (Wk.cut rfl (by simp [hn]) (by simp [wkO, getK_cons, getK, getK_append, getK_del, Ob.under, D.under, under_rowsD, under_entD, hi, hne, getK_append, getK_del, getK_cons, getK]) (by simp [wkU, keepE, getK_cons, getK, D.under, hi, hne, getK_append, getK_del, getK_cons, getK]) (by simp [wkE, keepE, getK_cons, getK, hi, hne, getK_append, getK_del, getK_cons, getK])), by simp [hn], ?_⟩; try simp)
    exact PPost.at_stop (by simp [PR.bind, *])
  | ok v0 q0 =>
    have ha := fun nx' h => exp_ok (ha nx' h) hr0
    (refine RetX.of_bodyW Tryz.func247 rfl (by simp) fun Γ hn hpan => ?_); simp only [entry, List.zipIdx_cons, List.zipIdx_nil, List.map_cons, List.map_nil, Nat.zero_add, Tryz.ntmps247]
    repeat' (first
    | (refine H_cons ?_; simp [hne, hf0, hf3, del, Nat.add_assoc])
    | (refine H_nil ?_; simp [hne, hf0, hf3, del, Nat.add_assoc])
    | (refine V_sseq ?_; simp [hne, hf0, hf3, del, Nat.add_assoc])
    | (refine V_scond ?_; simp [hne, hf0, hf3, del, Nat.add_assoc])
    | (refine V_ret ?_; simp only [RunK])
    | (refine V_skip ?_; simp only [RunK])
    | (refine CallP.ok1 (hh1 _ (by first | omega | (simp; done) | (simp; omega) | fail)) (by first | (simp [hne, hf0, hf3, del, Nat.add_assoc, getK_cons, getK, getK_append, getK_del]; done) | fail) (by rfl) (by first | assumption | (simp; done) | fail) (by rfl) (by simp) ?_; (try simp [hne, hf0, hf3, del, Nat.add_assoc]))
    | (refine CallP.ok1 (hh2 _ (by first | omega | (simp; done) | (simp; omega) | fail)) (by first | (simp [hne, hf0, hf3, del, Nat.add_assoc, getK_cons, getK, getK_append, getK_del]; done) | fail) (by rfl) (by first | assumption | (simp; done) | fail) (by rfl) (by simp) ?_; (try simp [hne, hf0, hf3, del, Nat.add_assoc]))
    | (refine CallP.ok1 (ha _ (by first | omega | (simp; done) | (simp; omega) | fail)) (by first | (simp [hne, hf0, hf3, del, Nat.add_assoc, getK_cons, getK, getK_append, getK_del]; done) | fail) (by rfl) (by first | assumption | (simp; done) | fail) (by rfl) (by simp) ?_; (try simp [hne, hf0, hf3, del, Nat.add_assoc]))
    | fail)
    refine EndW.norm ?_
    simp [St.norm, normOb, normD, normU, norm1, hne, Nat.add_assoc]
    (refine EndW.here ?_; (first | (refine EndOK.fin (.inr rfl) ?_) | (refine EndOK.fin (.inl rfl) ?_)); simp [resD, oneOrTup, Tryz.results247, hne, hi]; refine FinOK.cut [(i, pOb l q0)] (nx) (by simp [getK_cons, getK, getK_append, getK_del, Ob.under, D.under, under_rowsD, under_entD, hne, hi] <;> omega) (by simp [D.under]) (by simp [hn]) ?_; try simp)
    exact PPost.at_ok (by simp [PR.bind, *]; rfl) (by simp [Exp.row_eq, Exp.op, Exp.n, Exp.unit, Exp.s, Exp.args]) rfl
theorem prefix_prim1 {l : List Tok} (hl : TokOK l) {f p : Nat} {form : Int} (hP : PrimOK l f) (hp : p < l.length) (hf : 4 * (l.length - p) + 1 ≤ f)
    (hf0 : ¬ form = 0) (hf3 : form ≤ 3) (h2 : isB l p [110, 111, 116] = false) {i nx : Nat} (hi : i < nx) :
    RetX Tryz.prog 247 [.ptr i 0, intD form] [(i, pOb l p)] nx (PPost l i nx pairD (prefixP l (f + 1) p form)) := by
  have hne := ne_facts hi
  have hll := hl.len
  rw [prefixP]
  have hh2 := fun nx' (h : nx ≤ nx') => has_ret l p [110, 111, 116] i nx' (by omega) hp hl.len
  rw [h2] at hh2
  simp only [if_true, Bool.false_eq_true, if_false] at hh2
  rw [if_neg (by simp [*]), if_neg (by simp [*])]
  have ha := fun nx' (h : nx ≤ nx') => hP p i nx' (by omega) hp (by omega)
  cases hr0 : primaryP l f p with
  | stop pos e =>
    simp only [hr0] at ha
    (refine RetX.of_bodyW Tryz.func247 rfl (by simp) fun Γ hn hpan => ?_); simp only [entry, List.zipIdx_cons, List.zipIdx_nil, List.map_cons, List.map_nil, Nat.zero_add, Tryz.ntmps247]
    repeat' (first
    | (refine H_cons ?_; simp [hne, hf0, hf3, del, Nat.add_assoc])
    | (refine H_nil ?_; simp [hne, hf0, hf3, del, Nat.add_assoc])
    | (refine V_sseq ?_; simp [hne, hf0, hf3, del, Nat.add_assoc])
    | (refine V_scond ?_; simp [hne, hf0, hf3, del, Nat.add_assoc])
    | (refine V_skip ?_; simp only [RunK])
    | (refine CallP.ok1 (hh2 _ (by first | omega | (simp; done) | (simp; omega) | fail)) (by first | (simp [hne, hf0, hf3, del, Nat.add_assoc, getK_cons, getK, getK_append, getK_del]; done) | fail) (by rfl) (by first | assumption | (simp; done) | fail) (by rfl) (by simp) ?_; (try simp [hne, hf0, hf3, del, Nat.add_assoc]))
    | (refine CallP.pan1 (ha _ (by first | omega | (simp; done) | (simp; omega) | fail)) (by first | (simp [hne, hf0, hf3, del, Nat.add_assoc, getK_cons, getK, getK_append, getK_del]; done) | fail) (by rfl) (by first | assumption | (simp; done) | fail) (by rfl) (by simp) ?_; rintro ob' ⟨q', rfl⟩; refine ⟨_, Wk.refl _, ?_⟩)
    | fail)
    (refine hpan _ _ ⟨{ n := _, env := [], obs := [(i, pOb l q')], next := nx }, (Wk.cut rfl (by simp [hn]) (by simp [wkO, getK_cons, getK, getK_append, getK_del, Ob.under, D.under, under_rowsD, under_entD, hi, hne, getK_append, getK_del, getK_cons, getK]) (by simp [wkU, keepE, getK_cons, getK, D.under, hi, hne, getK_append, getK_del, getK_cons, getK]) (by simp [wkE, keepE, getK_cons, getK, hi, hne, getK_append, getK_del, getK_cons, getK])), by simp [hn], ?_⟩; try simp)
    exact PPost.at_stop (by simp [PR.bind, *])
  | ok v0 q0 =>
    have ha := fun nx' h => exp_ok (ha nx' h) hr0
    (refine RetX.of_bodyW Tryz.func247 rfl (by simp) fun Γ hn hpan => ?_); simp only [entry, List.zipIdx_cons, List.zipIdx_nil, List.map_cons, List.map_nil, Nat.zero_add, Tryz.ntmps247]
    repeat' (first
    | (refine H_cons ?_; simp [hne, hf0, hf3, del, Nat.add_assoc])
    | (refine H_nil ?_; simp [hne, hf0, hf3, del, Nat.add_assoc])
    | (refine V_sseq ?_; simp [hne, hf0, hf3, del, Nat.add_assoc])
    | (refine V_scond ?_; simp [hne, hf0, hf3, del, Nat.add_assoc])
    | (refine V_ret ?_; simp only [RunK])
    | (refine V_skip ?_; simp only [RunK])
    | (refine CallP.ok1 (hh2 _ (by first | omega | (simp; done) | (simp; omega) | fail)) (by first | (simp [hne, hf0, hf3, del, Nat.add_assoc, getK_cons, getK, getK_append, getK_del]; done) | fail) (by rfl) (by first | assumption | (simp; done) | fail) (by rfl) (by simp) ?_; (try simp [hne, hf0, hf3, del, Nat.add_assoc]))
    | (refine CallP.ok1 (ha _ (by first | omega | (simp; done) | (simp; omega) | fail)) (by first | (simp [hne, hf0, hf3, del, Nat.add_assoc, getK_cons, getK, getK_append, getK_del]; done) | fail) (by rfl) (by first | assumption | (simp; done) | fail) (by rfl) (by simp) ?_; (try simp [hne, hf0, hf3, del, Nat.add_assoc]))
    | fail)
    refine EndW.norm ?_
    simp [St.norm, normOb, normD, normU, norm1, hne, Nat.add_assoc]
    (refine EndW.here ?_; (first | (refine EndOK.fin (.inr rfl) ?_) | (refine EndOK.fin (.inl rfl) ?_)); simp [resD, oneOrTup, Tryz.results247, hne, hi]; refine FinOK.cut [(i, pOb l q0)] (nx) (by simp [getK_cons, getK, getK_append, getK_del, Ob.under, D.under, under_rowsD, under_entD, hne, hi] <;> omega) (by simp [D.under]) (by simp [hn]) ?_; try simp)
    exact PPost.at_ok (by simp [PR.bind, *]; rfl) (by simp [Exp.row_eq, Exp.op, Exp.n, Exp.unit, Exp.s, Exp.args]) rfl
theorem prefix_prim2 {l : List Tok} (hl : TokOK l) {f p : Nat} {form : Int} (hP : PrimOK l f) (hp : p < l.length) (hf : 4 * (l.length - p) + 1 ≤ f)
    (hf0 : ¬ form = 0) (hf3 : ¬ form ≤ 3) {i nx : Nat} (hi : i < nx) :
    RetX Tryz.prog 247 [.ptr i 0, intD form] [(i, pOb l p)] nx (PPost l i nx pairD (prefixP l (f + 1) p form)) := by
  have hne := ne_facts hi
  have hll := hl.len
  rw [prefixP]
  rw [if_neg (by simp [*]), if_neg (by simp [*])]
  have ha := fun nx' (h : nx ≤ nx') => hP p i nx' (by omega) hp (by omega)
  cases hr0 : primaryP l f p with
  | stop pos e =>
    simp only [hr0] at ha
    (refine RetX.of_bodyW Tryz.func247 rfl (by simp) fun Γ hn hpan => ?_); simp only [entry, List.zipIdx_cons, List.zipIdx_nil, List.map_cons, List.map_nil, Nat.zero_add, Tryz.ntmps247]
    repeat' (first
    | (refine H_cons ?_; simp [hne, hf0, hf3, del, Nat.add_assoc])
    | (refine H_nil ?_; simp [hne, hf0, hf3, del, Nat.add_assoc])
    | (refine V_sseq ?_; simp [hne, hf0, hf3, del, Nat.add_assoc])
    | (refine V_scond ?_; simp [hne, hf0, hf3, del, Nat.add_assoc])
    | (refine V_skip ?_; simp only [RunK])
    | (refine CallP.pan1 (ha _ (by first | omega | (simp; done) | (simp; omega) | fail)) (by first | (simp [hne, hf0, hf3, del, Nat.add_assoc, getK_cons, getK, getK_append, getK_del]; done) | fail) (by rfl) (by first | assumption | (simp; done) | fail) (by rfl) (by simp) ?_; rintro ob' ⟨q', rfl⟩; refine ⟨_, Wk.refl _, ?_⟩)
    | fail)
    (refine hpan _ _ ⟨{ n := _, env := [], obs := [(i, pOb l q')], next := nx }, (Wk.cut rfl (by simp [hn]) (by simp [wkO, getK_cons, getK, getK_append, getK_del, Ob.under, D.under, under_rowsD, under_entD, hi, hne, getK_append, getK_del, getK_cons, getK]) (by simp [wkU, keepE, getK_cons, getK, D.under, hi, hne, getK_append, getK_del, getK_cons, getK]) (by simp [wkE, keepE, getK_cons, getK, hi, hne, getK_append, getK_del, getK_cons, getK])), by simp [hn], ?_⟩; try simp)
    exact PPost.at_stop (by simp [PR.bind, *])
  | ok v0 q0 =>
    have ha := fun nx' h => exp_ok (ha nx' h) hr0
    (refine RetX.of_bodyW Tryz.func247 rfl (by simp) fun Γ hn hpan => ?_); simp only [entry, List.zipIdx_cons, List.zipIdx_nil, List.map_cons, List.map_nil, Nat.zero_add, Tryz.ntmps247]
    repeat' (first
    | (refine H_cons ?_; simp [hne, hf0, hf3, del, Nat.add_assoc])
    | (refine H_nil ?_; simp [hne, hf0, hf3, del, Nat.add_assoc])
    | (refine V_sseq ?_; simp [hne, hf0, hf3, del, Nat.add_assoc])
    | (refine V_scond ?_; simp [hne, hf0, hf3, del, Nat.add_assoc])
    | (refine V_ret ?_; simp only [RunK])
    | (refine V_skip ?_; simp only [RunK])
    | (refine CallP.ok1 (ha _ (by first | omega | (simp; done) | (simp; omega) | fail)) (by first | (simp [hne, hf0, hf3, del, Nat.add_assoc, getK_cons, getK, getK_append, getK_del]; done) | fail) (by rfl) (by first | assumption | (simp; done) | fail) (by rfl) (by simp) ?_; (try simp [hne, hf0, hf3, del, Nat.add_assoc]))
    | fail)
    refine EndW.norm ?_
    simp [St.norm, normOb, normD, normU, norm1, hne, Nat.add_assoc]
    (refine EndW.here ?_; (first | (refine EndOK.fin (.inr rfl) ?_) | (refine EndOK.fin (.inl rfl) ?_)); simp [resD, oneOrTup, Tryz.results247, hne, hi]; refine FinOK.cut [(i, pOb l q0)] (nx) (by simp [getK_cons, getK, getK_append, getK_del, Ob.under, D.under, under_rowsD, under_entD, hne, hi] <;> omega) (by simp [D.under]) (by simp [hn]) ?_; try simp)
    exact PPost.at_ok (by simp [PR.bind, *]; rfl) (by simp [Exp.row_eq, Exp.op, Exp.n, Exp.unit, Exp.s, Exp.args]) rfl
theorem prefix_step {l : List Tok} (hl : TokOK l) {f : Nat} (hE : ExpOK l f) (hP : PrimOK l f) : PreOK l (f + 1) := by
  intro p form i nx hi hp hf hm0 hm7
  have hf' : 4 * (l.length - p) + 1 ≤ f := by omega
  by_cases hf0 : form = 0
  · have hf3 : form ≤ 3 := by omega
    cases h1 : isB l p [105, 102] with
    | true => exact prefix_if hl hE hp hf' hf0 h1 hi
    | false =>
      cases h2 : isB l p [110, 111, 116] with
      | true => exact prefix_not0 hl hE hp hf' hf0 hf3 h1 h2 hi
      | false => exact prefix_prim0 hl hP hp hf' hf0 hf3 h1 h2 hi
  · by_cases hf3 : form ≤ 3
    · cases h2 : isB l p [110, 111, 116] with
      | true => exact prefix_not1 hl hE hp hf' hf0 hf3 h2 hi
      | false => exact prefix_prim1 hl hP hp hf' hf0 hf3 h2 hi
    · exact prefix_prim2 hl hP hp hf' hf0 hf3 hi

theorem pre_ok {l : List Tok} {F : FuncId} {r : PR (Exp × Int)} {e : Exp × Int} {q i nx : Nat} {ds : List D} {obs : List (Nat × Ob)} (h : RetX Tryz.prog F ds obs nx (PPost l i nx pairD r)) (hr : r = .ok e q) :
    RetX Tryz.prog F ds obs nx fun r o n => r = .val (.tup [.u (.agg [.int .i64 e.1.op, .int .i64 e.1.n, .int .i64 e.1.unit, .str e.1.s, .sl (e.1.args.map Exp.row)]), .u (.int .i64 e.2)]) ∧ o = [(i, pOb l q)] ∧ n = nx := by
  subst hr
  rw [← Exp.row_eq]
  exact h
abbrev expOb (e : Exp) : Ob := .box [.u (.int .i64 e.op), .u (.int .i64 e.n), .u (.int .i64 e.unit), .u (.str e.s), .u (.sl (e.args.map Exp.row))]
theorem exp_step {l : List Tok} (hl : TokOK l) {f : Nat} (hE : ∀ g, g < f → ExpOK l g) (hP : PreOK l f) : ExpOK l (f + 1) := by
  intro p form i nx hi hp hf hm0 hm7
  have hne := ne_facts hi
  have hll := hl.len
  rw [expP]
  have ha := fun nx' (h : nx ≤ nx') => hP p form i nx' (by omega) hp (by omega) hm0 hm7
  have hop := operators_fun
  cases hr0 : prefixP l f p form with
  | stop pos e =>
    simp only [hr0] at ha
    (refine RetX.of_bodyW Tryz.func203 rfl (by simp) fun Γ hn hpan => ?_); simp only [entry, List.zipIdx_cons, List.zipIdx_nil, List.map_cons, List.map_nil, Nat.zero_add, Tryz.ntmps203]
    repeat' (first
    | (refine H_cons ?_; simp [hne, del, Nat.add_assoc])
    | (refine H_nil ?_; simp [hne, del, Nat.add_assoc])
    | (refine V_sseq ?_; simp [hne, del, Nat.add_assoc])
    | (refine CallP.pan1 (ha _ (by first | omega | (simp; done) | (simp; omega) | fail)) (by first | (simp [hne, del, Nat.add_assoc, getK_cons, getK, getK_append, getK_del]; done) | fail) (by rfl) (by first | assumption | (simp; done) | fail) (by rfl) (by simp) ?_; rintro ob' ⟨q', rfl⟩; refine ⟨_, Wk.refl _, ?_⟩)
    | fail)
    (refine hpan _ _ ⟨{ n := _, env := [], obs := [(i, pOb l q')], next := nx }, (Wk.cut rfl (by simp [hn]) (by simp [wkO, getK_cons, getK, getK_append, getK_del, Ob.under, D.under, under_rowsD, under_entD, hi, hne, getK_append, getK_del, getK_cons, getK]) (by simp [wkU, keepE, getK_cons, getK, D.under, hi, hne, getK_append, getK_del, getK_cons, getK]) (by simp [wkE, keepE, getK_cons, getK, hi, hne, getK_append, getK_del, getK_cons, getK])), by simp [hn], ?_⟩; try simp)
    exact PPost.at_stop (by simp [PR.bind, *])
  | ok v0 q0 =>
    have ha := fun nx' h => pre_ok (ha nx' h) hr0
    obtain ⟨g0a, g0b⟩ := (parse_le hl f).2.2.1 _ _ _ _ hr0 hp
    generalize hR : (PR.ok v0 q0).bind (fun e q => loopP l f form e.1 e.2 q) = R
    have hR' : R = loopP l f form v0.1 v0.2 q0 := hR.symm
    (refine RetX.of_bodyW Tryz.func203 rfl (by simp) fun Γ hn hpan => ?_); simp only [entry, List.zipIdx_cons, List.zipIdx_nil, List.map_cons, List.map_nil, Nat.zero_add, Tryz.ntmps203]
    repeat' (first
    | (refine H_cons ?_; simp [hne, del, Nat.add_assoc])
    | (refine H_nil ?_; simp [hne, del, Nat.add_assoc])
    | (refine V_sseq ?_; simp [hne, del, Nat.add_assoc])
    | (refine V_sblock ?_; simp [hne, del, Nat.add_assoc])
    | (refine CallP.ok1 (ha _ (by first | omega | (simp; done) | (simp; omega) | fail)) (by first | (simp [hne, del, Nat.add_assoc, getK_cons, getK, getK_append, getK_del]; done) | fail) (by rfl) (by first | assumption | (simp; done) | fail) (by rfl) (by simp) ?_; (try simp [hne, del, Nat.add_assoc]))
    | fail)
    refine V_loopO (α := { x : Exp × Int × Nat × Nat // x.2.2.1 < l.length ∧ 4 * (l.length - x.2.2.1) + 2 ≤ x.2.2.2 ∧ x.2.2.2 ≤ f ∧ R = loopP l x.2.2.2 form x.1 x.2.1 x.2.2.1 }) [0, 1, 2, 4, 5] (fun x => [(6, .u (.int .i64 x.1.2.1))])
      (fun x => [(nx + 2, expOb x.1.1), (nx + 1, .box [.u (.int .i64 0), .u (.int .i64 0), .u (.int .i64 0), .u (.str []), .u .nil]), (nx, .box [.ptr i 0]), (i, pOb l x.1.2.2.1)]) (nx + 3) (fun x => x.1.2.2.2) ⟨(v0.1, v0.2, q0, f), g0b, (by show 4 * (l.length - q0) + 2 ≤ f; omega), (by show f ≤ f; omega), hR'⟩ ?_ ?_
    · have hi3 : i < nx + 3 := by omega
      exact (Wk.cut rfl (by simp [hn, St.lp]) (by simp [wkO, St.lp, getK_cons, getK, Ob.under, D.under, under_rowsD, under_entD, hi, hi3, hne]) (by simp [wkU, St.lp, keepE, getK_cons, getK, D.under, hi, hi3, hne]) (by simp [wkE, St.lp, keepE, getK_cons, getK, hi, hi3, hne] <;> (try (intros; simp_all; done)) <;> (try (intros; omega)) <;> (try grind)))
    rintro ⟨⟨e, own, q, g⟩, h1, h2, h2b, h3⟩
    simp only at h1 h2 h2b h3
    simp [St.lp, St.only, keepE, getK_cons, getK]
    obtain ⟨g, rfl⟩ : ∃ g', g = g' + 1 := ⟨g - 1, by omega⟩
    rw [loopP] at h3
    have hix := indexO_ret l q h1 hl.len
    cases hx : oprAt l q with
    | none =>
      rw [(idxP_find oprs 0).1 hx] at hix
      rw [hx] at h3
      repeat' (first
    | (refine H_cons ?_; simp [hne, del, Nat.add_assoc])
    | (refine H_nil ?_; simp [hne, del, Nat.add_assoc])
    | (refine V_sseq ?_; simp [hne, del, Nat.add_assoc])
    | (refine V_scond ?_; simp [hne, del, Nat.add_assoc])
    | (refine V_sblock ?_; simp [hne, del, Nat.add_assoc])
    | (refine V_ret ?_; simp only [RunK])
    | (refine CallP.fun_ (hop) (by first | rfl | fail) (by first | assumption | (simp; done) | fail) (by first | (simp [hne, del, Nat.add_assoc]; done) | (simp [hne, del, Nat.add_assoc]; rfl) | fail) (by first | (simp; done) | fail) (fun d hd => ?_); subst hd; (try simp [hne, del, Nat.add_assoc]))
    | (refine CallP.fun_ (hix) (by first | rfl | fail) (by first | assumption | (simp; done) | fail) (by first | (simp [hne, del, Nat.add_assoc]; done) | (simp [hne, del, Nat.add_assoc]; rfl) | fail) (by first | (simp; done) | fail) (fun d hd => ?_); subst hd; (try simp [hne, del, Nat.add_assoc]))
    | fail)
      refine EndW.norm ?_
      simp [St.norm, normOb, normD, normU, norm1, hne, Nat.add_assoc]
      (refine EndW.here ?_; (first | (refine EndOK.fin (.inr rfl) ?_) | (refine EndOK.fin (.inl rfl) ?_)); simp [resD, oneOrTup, Tryz.results203, hne, hi]; refine FinOK.cut [(i, pOb l q)] (nx) (by simp [getK_cons, getK, getK_append, getK_del, Ob.under, D.under, under_rowsD, under_entD, hne, hi] <;> omega) (by simp [D.under]) (by simp [hn]) ?_; try simp)
      exact PPost.at_ok h3 (by simp [Exp.row_eq]) rfl
    | some x =>
      obtain ⟨k, hk1, hk2⟩ := (idxP_find oprs 0).2 x hx
      rw [hk2] at hix
      rw [hx] at h3
      simp only at h3
      have hqb := isB_lt hl (by have := List.find?_some (p := fun o : Opr => isB l q o.text) hx; exact this)
      have hk0 : ¬ ((k : Int) < 0) := by omega
      have hkl : k < 8 := (List.getElem?_eq_some_iff.1 hk1).1
      rw [show (0 : Int) + k = (k : Int) by omega] at hix
      have hfm : 0 ≤ x.form ∧ x.form ≤ 6 := by
        have := List.mem_of_getElem? hk1
        simp only [oprs, List.mem_cons, List.not_mem_nil, or_false] at this
        rcases this with rfl | rfl | rfl | rfl | rfl | rfl | rfl | rfl <;> decide
      obtain ⟨hf0, hf6⟩ := hfm
      generalize hL : oprs = L at hop hix hk1
      by_cases c1 : x.form < form
      · rw [if_pos (Or.inl c1)] at h3
        repeat' (first
    | (refine H_cons ?_; simp [hne, del, Nat.add_assoc, hk0, hk1, c1])
    | (refine H_nil ?_; simp [hne, del, Nat.add_assoc, hk0, hk1, c1])
    | (refine V_sseq ?_; simp [hne, del, Nat.add_assoc, hk0, hk1, c1])
    | (refine V_scond ?_; simp [hne, del, Nat.add_assoc, hk0, hk1, c1])
    | (refine V_sblock ?_; simp [hne, del, Nat.add_assoc, hk0, hk1, c1])
    | (refine V_ret ?_; simp only [RunK])
    | (refine V_skip ?_; simp only [RunK])
    | (refine CallP.fun_ (hop) (by first | rfl | fail) (by first | assumption | (simp; done) | fail) (by first | (simp [hne, del, Nat.add_assoc, hk0, hk1, c1]; done) | (simp [hne, del, Nat.add_assoc, hk0, hk1, c1]; rfl) | fail) (by first | (simp; done) | fail) (fun d hd => ?_); subst hd; (try simp [hne, del, Nat.add_assoc, hk0, hk1, c1]))
    | (refine CallP.fun_ (hix) (by first | rfl | fail) (by first | assumption | (simp; done) | fail) (by first | (simp [hne, del, Nat.add_assoc, hk0, hk1, c1]; done) | (simp [hne, del, Nat.add_assoc, hk0, hk1, c1]; rfl) | fail) (by first | (simp; done) | fail) (fun d hd => ?_); subst hd; (try simp [hne, del, Nat.add_assoc, hk0, hk1, c1]))
    | fail)
        refine EndW.norm ?_
        simp [St.norm, normOb, normD, normU, norm1, hne, Nat.add_assoc]
        (refine EndW.here ?_; (first | (refine EndOK.fin (.inr rfl) ?_) | (refine EndOK.fin (.inl rfl) ?_)); simp [resD, oneOrTup, Tryz.results203, hne, hi]; refine FinOK.cut [(i, pOb l q)] (nx) (by simp [getK_cons, getK, getK_append, getK_del, Ob.under, D.under, under_rowsD, under_entD, hne, hi] <;> omega) (by simp [D.under]) (by simp [hn]) ?_; try simp)
        exact PPost.at_ok h3 (by simp [Exp.row_eq]) rfl
      · by_cases c2 : own < x.form
        · rw [if_pos (Or.inr (Or.inl c2))] at h3
          repeat' (first
    | (refine H_cons ?_; simp [hne, del, Nat.add_assoc, hk0, hk1, c1, c2])
    | (refine H_nil ?_; simp [hne, del, Nat.add_assoc, hk0, hk1, c1, c2])
    | (refine V_sseq ?_; simp [hne, del, Nat.add_assoc, hk0, hk1, c1, c2])
    | (refine V_scond ?_; simp [hne, del, Nat.add_assoc, hk0, hk1, c1, c2])
    | (refine V_sblock ?_; simp [hne, del, Nat.add_assoc, hk0, hk1, c1, c2])
    | (refine V_ret ?_; simp only [RunK])
    | (refine V_skip ?_; simp only [RunK])
    | (refine CallP.fun_ (hop) (by first | rfl | fail) (by first | assumption | (simp; done) | fail) (by first | (simp [hne, del, Nat.add_assoc, hk0, hk1, c1, c2]; done) | (simp [hne, del, Nat.add_assoc, hk0, hk1, c1, c2]; rfl) | fail) (by first | (simp; done) | fail) (fun d hd => ?_); subst hd; (try simp [hne, del, Nat.add_assoc, hk0, hk1, c1, c2]))
    | (refine CallP.fun_ (hix) (by first | rfl | fail) (by first | assumption | (simp; done) | fail) (by first | (simp [hne, del, Nat.add_assoc, hk0, hk1, c1, c2]; done) | (simp [hne, del, Nat.add_assoc, hk0, hk1, c1, c2]; rfl) | fail) (by first | (simp; done) | fail) (fun d hd => ?_); subst hd; (try simp [hne, del, Nat.add_assoc, hk0, hk1, c1, c2]))
    | fail)
          refine EndW.norm ?_
          simp [St.norm, normOb, normD, normU, norm1, hne, Nat.add_assoc]
          (refine EndW.here ?_; (first | (refine EndOK.fin (.inr rfl) ?_) | (refine EndOK.fin (.inl rfl) ?_)); simp [resD, oneOrTup, Tryz.results203, hne, hi]; refine FinOK.cut [(i, pOb l q)] (nx) (by simp [getK_cons, getK, getK_append, getK_del, Ob.under, D.under, under_rowsD, under_entD, hne, hi] <;> omega) (by simp [D.under]) (by simp [hn]) ?_; try simp)
          exact PPost.at_ok h3 (by simp [Exp.row_eq]) rfl
        · by_cases c3 : own = 4 ∧ x.form = 4
          · rw [if_pos (Or.inr (Or.inr c3))] at h3
            obtain ⟨c4, c5⟩ := c3
            repeat' (first
    | (refine H_cons ?_; simp [hne, del, Nat.add_assoc, hk0, hk1, c1, c2, c4, c5])
    | (refine H_nil ?_; simp [hne, del, Nat.add_assoc, hk0, hk1, c1, c2, c4, c5])
    | (refine V_sseq ?_; simp [hne, del, Nat.add_assoc, hk0, hk1, c1, c2, c4, c5])
    | (refine V_scond ?_; simp [hne, del, Nat.add_assoc, hk0, hk1, c1, c2, c4, c5])
    | (refine V_sblock ?_; simp [hne, del, Nat.add_assoc, hk0, hk1, c1, c2, c4, c5])
    | (refine V_ret ?_; simp only [RunK])
    | (refine V_skip ?_; simp only [RunK])
    | (refine ⟨?_, by omega⟩)
    | (intro hc <;> (try (exfalso; omega)))
    | (refine CallP.fun_ (hop) (by first | rfl | fail) (by first | assumption | (simp; done) | fail) (by first | (simp [hne, del, Nat.add_assoc, hk0, hk1, c1, c2, c4, c5]; done) | (simp [hne, del, Nat.add_assoc, hk0, hk1, c1, c2, c4, c5]; rfl) | fail) (by first | (simp; done) | fail) (fun d hd => ?_); subst hd; (try simp [hne, del, Nat.add_assoc, hk0, hk1, c1, c2, c4, c5]))
    | (refine CallP.fun_ (hix) (by first | rfl | fail) (by first | assumption | (simp; done) | fail) (by first | (simp [hne, del, Nat.add_assoc, hk0, hk1, c1, c2, c4, c5]; done) | (simp [hne, del, Nat.add_assoc, hk0, hk1, c1, c2, c4, c5]; rfl) | fail) (by first | (simp; done) | fail) (fun d hd => ?_); subst hd; (try simp [hne, del, Nat.add_assoc, hk0, hk1, c1, c2, c4, c5]))
    | fail)
            refine EndW.norm ?_
            simp [St.norm, normOb, normD, normU, norm1, hne, Nat.add_assoc]
            (refine EndW.here ?_; (first | (refine EndOK.fin (.inr rfl) ?_) | (refine EndOK.fin (.inl rfl) ?_)); simp [resD, oneOrTup, Tryz.results203, hne, hi]; refine FinOK.cut [(i, pOb l q)] (nx) (by simp [getK_cons, getK, getK_append, getK_del, Ob.under, D.under, under_rowsD, under_entD, hne, hi] <;> omega) (by simp [D.under]) (by simp [hn]) ?_; try simp)
            exact PPost.at_ok h3 (by simp [Exp.row_eq]) rfl
          · rw [if_neg (by rintro (h | h | h) <;> contradiction)] at h3
            have hb := fun nx' (h : nx ≤ nx') => hE g (by omega) (q + 1) (x.form + 1) i nx' (by omega) hqb (by omega) (by omega) (by omega)
            cases hr1 : expP l g (q + 1) (x.form + 1) with
            | stop pos err =>
              simp only [hr1] at hb
              rw [hr1] at h3
              by_cases c4 : own = 4
              · have c5 : ¬ x.form = 4 := fun h => c3 ⟨c4, h⟩
                repeat' (first
    | (refine HD4_pan1 (fun nx' h' => hb nx' (by simp at h'; omega)) (by first | (simp [hne, del, Nat.add_assoc, hk0, hk1, c1, c2, c4, c5, getK_cons, getK, getK_append, getK_del, getK_setOb, applyW]; done) | fail) (by rfl) (by first | assumption | simp) (by rfl) (by simp) ?_ ?_; rintro env' ob' n' hn' ⟨q', rfl⟩; refine ⟨_, Wk.refl _, ?_⟩)
    | (refine HD4_skipS rfl (by simp) ?_; simp)
    | (refine H_cons ?_; simp [hne, del, Nat.add_assoc, hk0, hk1, c1, c2, c4, c5])
    | (refine HD4_val rfl ?_; simp [hne, del, Nat.add_assoc, hk0, hk1, c1, c2, c4, c5])
    | (refine H_nil ?_; simp [hne, del, Nat.add_assoc, hk0, hk1, c1, c2, c4, c5])
    | (refine ⟨by omega, ?_⟩)
    | (refine V_sseq ?_; simp [hne, del, Nat.add_assoc, hk0, hk1, c1, c2, c4, c5])
    | (refine V_scond ?_; simp [hne, del, Nat.add_assoc, hk0, hk1, c1, c2, c4, c5])
    | (refine HD4_nilS (hC _ (okP4_ren [i] nx (by simp <;> omega) (by simp <;> omega) (by apply Exists.intro; apply And.intro; (focus (repeat' (first | exact KF.nil | exact KL.nil | apply KF.cons | apply KL.cons 0 rfl | apply KL.cons 1 rfl | apply KL.cons 2 rfl | apply KL.cons 3 rfl | apply KL.cons 4 rfl | apply KL.cons 5 rfl | apply KL.cons 6 rfl | apply KL.cons 7 rfl | apply KL.cons 8 rfl | apply KL.cons 9 rfl))); kernel_rfl))) rfl; done)
    | (refine V_drawX rfl (by kernel_rfl) (by first | (simp [hn]; done) | (simp [hn]; omega) | fail) fun C k hC hk => ?_; simp [hne, del, Nat.add_assoc, hk0, hk1, c1, c2, c4, c5])
    | (refine V_sblock ?_; simp [hne, del, Nat.add_assoc, hk0, hk1, c1, c2, c4, c5])
    | (refine V_skip ?_; simp only [RunK])
    | (refine ⟨?_, by omega⟩)
    | (intro hc <;> (try (exfalso; omega)))
    | (refine CallP.fun_ (hop) (by first | rfl | fail) (by first | assumption | (simp; done) | fail) (by first | (simp [hne, del, Nat.add_assoc, hk0, hk1, c1, c2, c4, c5]; done) | (simp [hne, del, Nat.add_assoc, hk0, hk1, c1, c2, c4, c5]; rfl) | fail) (by first | (simp; done) | fail) (fun d hd => ?_); subst hd; (try simp [hne, del, Nat.add_assoc, hk0, hk1, c1, c2, c4, c5]))
    | (refine CallP.fun_ (hix) (by first | rfl | fail) (by first | assumption | (simp; done) | fail) (by first | (simp [hne, del, Nat.add_assoc, hk0, hk1, c1, c2, c4, c5]; done) | (simp [hne, del, Nat.add_assoc, hk0, hk1, c1, c2, c4, c5]; rfl) | fail) (by first | (simp; done) | fail) (fun d hd => ?_); subst hd; (try simp [hne, del, Nat.add_assoc, hk0, hk1, c1, c2, c4, c5]))
    | fail)
                (refine hpan _ _ ⟨{ n := _, env := [], obs := [(i, pOb l q')], next := nx }, (Wk.cut rfl (by simp [hn]) (by simp [wkO, getK_cons, getK, getK_append, getK_del, Ob.under, D.under, under_rowsD, under_entD, hi, hne, getK_append, getK_del, getK_cons, getK]) (by simp [wkU, keepE, getK_cons, getK, D.under, hi, hne, getK_append, getK_del, getK_cons, getK]) (by simp [wkE, keepE, getK_cons, getK, hi, hne, getK_append, getK_del, getK_cons, getK])), by simp [hn], ?_⟩; try simp)
                exact PPost.at_stop h3
              · repeat' (first
    | (refine HD4_pan1 (fun nx' h' => hb nx' (by simp at h'; omega)) (by first | (simp [hne, del, Nat.add_assoc, hk0, hk1, c1, c2, c4, getK_cons, getK, getK_append, getK_del, getK_setOb, applyW]; done) | fail) (by rfl) (by first | assumption | simp) (by rfl) (by simp) ?_ ?_; rintro env' ob' n' hn' ⟨q', rfl⟩; refine ⟨_, Wk.refl _, ?_⟩)
    | (refine HD4_skipS rfl (by simp) ?_; simp)
    | (refine H_cons ?_; simp [hne, del, Nat.add_assoc, hk0, hk1, c1, c2, c4])
    | (refine HD4_val rfl ?_; simp [hne, del, Nat.add_assoc, hk0, hk1, c1, c2, c4])
    | (refine H_nil ?_; simp [hne, del, Nat.add_assoc, hk0, hk1, c1, c2, c4])
    | (refine ⟨by omega, ?_⟩)
    | (refine V_sseq ?_; simp [hne, del, Nat.add_assoc, hk0, hk1, c1, c2, c4])
    | (refine V_scond ?_; simp [hne, del, Nat.add_assoc, hk0, hk1, c1, c2, c4])
    | (refine HD4_nilS (hC _ (okP4_ren [i] nx (by simp <;> omega) (by simp <;> omega) (by apply Exists.intro; apply And.intro; (focus (repeat' (first | exact KF.nil | exact KL.nil | apply KF.cons | apply KL.cons 0 rfl | apply KL.cons 1 rfl | apply KL.cons 2 rfl | apply KL.cons 3 rfl | apply KL.cons 4 rfl | apply KL.cons 5 rfl | apply KL.cons 6 rfl | apply KL.cons 7 rfl | apply KL.cons 8 rfl | apply KL.cons 9 rfl))); kernel_rfl))) rfl; done)
    | (refine V_drawX rfl (by kernel_rfl) (by first | (simp [hn]; done) | (simp [hn]; omega) | fail) fun C k hC hk => ?_; simp [hne, del, Nat.add_assoc, hk0, hk1, c1, c2, c4])
    | (refine V_sblock ?_; simp [hne, del, Nat.add_assoc, hk0, hk1, c1, c2, c4])
    | (refine V_skip ?_; simp only [RunK])
    | (refine CallP.fun_ (hop) (by first | rfl | fail) (by first | assumption | (simp; done) | fail) (by first | (simp [hne, del, Nat.add_assoc, hk0, hk1, c1, c2, c4]; done) | (simp [hne, del, Nat.add_assoc, hk0, hk1, c1, c2, c4]; rfl) | fail) (by first | (simp; done) | fail) (fun d hd => ?_); subst hd; (try simp [hne, del, Nat.add_assoc, hk0, hk1, c1, c2, c4]))
    | (refine CallP.fun_ (hix) (by first | rfl | fail) (by first | assumption | (simp; done) | fail) (by first | (simp [hne, del, Nat.add_assoc, hk0, hk1, c1, c2, c4]; done) | (simp [hne, del, Nat.add_assoc, hk0, hk1, c1, c2, c4]; rfl) | fail) (by first | (simp; done) | fail) (fun d hd => ?_); subst hd; (try simp [hne, del, Nat.add_assoc, hk0, hk1, c1, c2, c4]))
    | fail)
                (refine hpan _ _ ⟨{ n := _, env := [], obs := [(i, pOb l q')], next := nx }, (Wk.cut rfl (by simp [hn]) (by simp [wkO, getK_cons, getK, getK_append, getK_del, Ob.under, D.under, under_rowsD, under_entD, hi, hne, getK_append, getK_del, getK_cons, getK]) (by simp [wkU, keepE, getK_cons, getK, D.under, hi, hne, getK_append, getK_del, getK_cons, getK]) (by simp [wkE, keepE, getK_cons, getK, hi, hne, getK_append, getK_del, getK_cons, getK])), by simp [hn], ?_⟩; try simp)
                exact PPost.at_stop h3
            | ok e2 q2 =>
              have hb := fun nx' h => exp_ok (hb nx' h) hr1
              obtain ⟨g1a, g1b⟩ := (parse_le hl g).1 _ _ _ _ hr1 hqb
              rw [hr1] at h3
              by_cases c4 : own = 4
              · have c5 : ¬ x.form = 4 := fun h => c3 ⟨c4, h⟩
                repeat' (first
    | (refine HD4_ok1 (fun nx' h' => hb nx' (by simp at h'; omega)) (by first | (simp [hne, del, Nat.add_assoc, hk0, hk1, c1, c2, c4, c5, getK_cons, getK, getK_append, getK_del, getK_setOb, applyW]; done) | fail) (by rfl) (by first | assumption | simp) (by rfl) (by simp [D.under, Ob.under]) (by simp) ?_; (try simp [hne, del, Nat.add_assoc, hk0, hk1, c1, c2, c4, c5]))
    | (refine H_cons ?_; simp [hne, del, Nat.add_assoc, hk0, hk1, c1, c2, c4, c5])
    | (refine HD4_val rfl ?_; simp [hne, del, Nat.add_assoc, hk0, hk1, c1, c2, c4, c5])
    | (refine HD4_chg rfl ?_; simp [hne, del, Nat.add_assoc, hk0, hk1, c1, c2, c4, c5])
    | (refine H_nil ?_; simp [hne, del, Nat.add_assoc, hk0, hk1, c1, c2, c4, c5])
    | (refine ⟨by omega, ?_⟩)
    | (refine V_sseq ?_; simp [hne, del, Nat.add_assoc, hk0, hk1, c1, c2, c4, c5])
    | (refine V_scond ?_; simp [hne, del, Nat.add_assoc, hk0, hk1, c1, c2, c4, c5])
    | (refine HD4_nil (hC _ (okP4_ren [i] nx (by simp <;> omega) (by simp <;> omega) (by apply Exists.intro; apply And.intro; (focus (repeat' (first | exact KF.nil | exact KL.nil | apply KF.cons | apply KL.cons 0 rfl | apply KL.cons 1 rfl | apply KL.cons 2 rfl | apply KL.cons 3 rfl | apply KL.cons 4 rfl | apply KL.cons 5 rfl | apply KL.cons 6 rfl | apply KL.cons 7 rfl | apply KL.cons 8 rfl | apply KL.cons 9 rfl))); kernel_rfl))) (hk _ ?_); clear hC hk C k; simp only [RunK])
    | (refine V_drawX rfl (by kernel_rfl) (by first | (simp [hn]; done) | (simp [hn]; omega) | fail) fun C k hC hk => ?_; simp [hne, del, Nat.add_assoc, hk0, hk1, c1, c2, c4, c5])
    | (refine V_sblock ?_; simp [hne, del, Nat.add_assoc, hk0, hk1, c1, c2, c4, c5])
    | (refine V_sregion ?_; simp [hne, del, Nat.add_assoc, hk0, hk1, c1, c2, c4, c5])
    | (refine V_skip ?_; simp only [RunK])
    | (refine ⟨?_, by omega⟩)
    | (intro hc <;> (try (exfalso; omega)))
    | (refine CallP.fun_ (hop) (by first | rfl | fail) (by first | assumption | (simp; done) | fail) (by first | (simp [hne, del, Nat.add_assoc, hk0, hk1, c1, c2, c4, c5]; done) | (simp [hne, del, Nat.add_assoc, hk0, hk1, c1, c2, c4, c5]; rfl) | fail) (by first | (simp; done) | fail) (fun d hd => ?_); subst hd; (try simp [hne, del, Nat.add_assoc, hk0, hk1, c1, c2, c4, c5]))
    | (refine CallP.fun_ (hix) (by first | rfl | fail) (by first | assumption | (simp; done) | fail) (by first | (simp [hne, del, Nat.add_assoc, hk0, hk1, c1, c2, c4, c5]; done) | (simp [hne, del, Nat.add_assoc, hk0, hk1, c1, c2, c4, c5]; rfl) | fail) (by first | (simp; done) | fail) (fun d hd => ?_); subst hd; (try simp [hne, del, Nat.add_assoc, hk0, hk1, c1, c2, c4, c5]))
    | fail)
                have hi3 : i < nx + 3 := by omega
                refine LoopW.next ⟨(.mk x.op 0 0 [] [e, e2], x.form, q2, g), g1b, (by show 4 * (l.length - q2) + 2 ≤ g; omega), (by show g ≤ f; omega), h3⟩ (by show g < g + 1; omega) ?_
                refine Wk.trans (Wk.frzN 1 _) ?_
                simp [hne, Nat.add_assoc, frzN, frz1, frz_env, frz_obs, St.frz, St.frzS, frzS, fv, fzVec, fzMap, fzBox, frzObS, frz_entD, frz_rowsD, del, frz, frzOb]
                exact (Wk.cut rfl (by simp [hn, St.lp]) (by simp [wkO, St.lp, getK_cons, getK, Ob.under, D.under, under_rowsD, under_entD, hi, hi3, hne, Exp.row_eq, Exp.op, Exp.n, Exp.unit, Exp.s, Exp.args]) (by simp [wkU, St.lp, keepE, getK_cons, getK, D.under, hi, hi3, hne, Exp.row_eq, Exp.op, Exp.n, Exp.unit, Exp.s, Exp.args]) (by simp [wkE, St.lp, keepE, getK_cons, getK, hi, hi3, hne, Exp.row_eq, Exp.op, Exp.n, Exp.unit, Exp.s, Exp.args] <;> (try (intros; simp_all; done)) <;> (try (intros; omega)) <;> (try grind)))
              · repeat' (first
    | (refine HD4_ok1 (fun nx' h' => hb nx' (by simp at h'; omega)) (by first | (simp [hne, del, Nat.add_assoc, hk0, hk1, c1, c2, c4, getK_cons, getK, getK_append, getK_del, getK_setOb, applyW]; done) | fail) (by rfl) (by first | assumption | simp) (by rfl) (by simp [D.under, Ob.under]) (by simp) ?_; (try simp [hne, del, Nat.add_assoc, hk0, hk1, c1, c2, c4]))
    | (refine H_cons ?_; simp [hne, del, Nat.add_assoc, hk0, hk1, c1, c2, c4])
    | (refine HD4_val rfl ?_; simp [hne, del, Nat.add_assoc, hk0, hk1, c1, c2, c4])
    | (refine HD4_chg rfl ?_; simp [hne, del, Nat.add_assoc, hk0, hk1, c1, c2, c4])
    | (refine H_nil ?_; simp [hne, del, Nat.add_assoc, hk0, hk1, c1, c2, c4])
    | (refine ⟨by omega, ?_⟩)
    | (refine V_sseq ?_; simp [hne, del, Nat.add_assoc, hk0, hk1, c1, c2, c4])
    | (refine V_scond ?_; simp [hne, del, Nat.add_assoc, hk0, hk1, c1, c2, c4])
    | (refine HD4_nil (hC _ (okP4_ren [i] nx (by simp <;> omega) (by simp <;> omega) (by apply Exists.intro; apply And.intro; (focus (repeat' (first | exact KF.nil | exact KL.nil | apply KF.cons | apply KL.cons 0 rfl | apply KL.cons 1 rfl | apply KL.cons 2 rfl | apply KL.cons 3 rfl | apply KL.cons 4 rfl | apply KL.cons 5 rfl | apply KL.cons 6 rfl | apply KL.cons 7 rfl | apply KL.cons 8 rfl | apply KL.cons 9 rfl))); kernel_rfl))) (hk _ ?_); clear hC hk C k; simp only [RunK])
    | (refine V_drawX rfl (by kernel_rfl) (by first | (simp [hn]; done) | (simp [hn]; omega) | fail) fun C k hC hk => ?_; simp [hne, del, Nat.add_assoc, hk0, hk1, c1, c2, c4])
    | (refine V_sblock ?_; simp [hne, del, Nat.add_assoc, hk0, hk1, c1, c2, c4])
    | (refine V_sregion ?_; simp [hne, del, Nat.add_assoc, hk0, hk1, c1, c2, c4])
    | (refine V_skip ?_; simp only [RunK])
    | (refine CallP.fun_ (hop) (by first | rfl | fail) (by first | assumption | (simp; done) | fail) (by first | (simp [hne, del, Nat.add_assoc, hk0, hk1, c1, c2, c4]; done) | (simp [hne, del, Nat.add_assoc, hk0, hk1, c1, c2, c4]; rfl) | fail) (by first | (simp; done) | fail) (fun d hd => ?_); subst hd; (try simp [hne, del, Nat.add_assoc, hk0, hk1, c1, c2, c4]))
    | (refine CallP.fun_ (hix) (by first | rfl | fail) (by first | assumption | (simp; done) | fail) (by first | (simp [hne, del, Nat.add_assoc, hk0, hk1, c1, c2, c4]; done) | (simp [hne, del, Nat.add_assoc, hk0, hk1, c1, c2, c4]; rfl) | fail) (by first | (simp; done) | fail) (fun d hd => ?_); subst hd; (try simp [hne, del, Nat.add_assoc, hk0, hk1, c1, c2, c4]))
    | fail)
                have hi3 : i < nx + 3 := by omega
                refine LoopW.next ⟨(.mk x.op 0 0 [] [e, e2], x.form, q2, g), g1b, (by show 4 * (l.length - q2) + 2 ≤ g; omega), (by show g ≤ f; omega), h3⟩ (by show g < g + 1; omega) ?_
                refine Wk.trans (Wk.frzN 1 _) ?_
                simp [hne, Nat.add_assoc, frzN, frz1, frz_env, frz_obs, St.frz, St.frzS, frzS, fv, fzVec, fzMap, fzBox, frzObS, frz_entD, frz_rowsD, del, frz, frzOb]
                exact (Wk.cut rfl (by simp [hn, St.lp]) (by simp [wkO, St.lp, getK_cons, getK, Ob.under, D.under, under_rowsD, under_entD, hi, hi3, hne, Exp.row_eq, Exp.op, Exp.n, Exp.unit, Exp.s, Exp.args]) (by simp [wkU, St.lp, keepE, getK_cons, getK, D.under, hi, hi3, hne, Exp.row_eq, Exp.op, Exp.n, Exp.unit, Exp.s, Exp.args]) (by simp [wkE, St.lp, keepE, getK_cons, getK, hi, hi3, hne, Exp.row_eq, Exp.op, Exp.n, Exp.unit, Exp.s, Exp.args] <;> (try (intros; simp_all; done)) <;> (try (intros; omega)) <;> (try grind)))

theorem open_ok (s : List UInt8) (l : List Tok) (nx : Nat) (h : lexL s = .ok l) :
    RetX Tryz.prog 61 [.u (.str s)] [] nx (fun r o n => r = .val (.tup [.ptr nx 0, .u (.int .i64 0), .u (.int .i64 0)]) ∧ o = [(nx, pOb l 0)] ∧ n = nx + 1) := by
  have h1 := lex_fun s
  rw [h] at h1
  simp only [lexOut] at h1
  (refine RetX.of_bodyW Tryz.func61 rfl (by simp) fun Γ hn hpan => ?_); simp only [entry, List.zipIdx_cons, List.zipIdx_nil, List.map_cons, List.map_nil, Nat.zero_add, Tryz.ntmps61]
  repeat' (first
    | (refine H_cons ?_; simp)
    | (refine H_nil ?_; simp)
    | (refine V_sseq ?_; simp)
    | (refine V_ret ?_; simp only [RunK])
    | (refine CallP.fun_ (h1) (by first | rfl | fail) (by first | assumption | (simp; done) | fail) (by first | (simp; done) | (simp; rfl) | fail) (by first | (simp; done) | fail) (fun d hd => ?_); subst hd; (try simp))
    | fail)
  (refine EndW.here ?_; (first | (refine EndOK.fin (.inr rfl) ?_) | (refine EndOK.fin (.inl rfl) ?_)); simp [resD, oneOrTup, Tryz.results61]; refine FinOK.here (by simp) ?_; try simp)
theorem open_err (s : List UInt8) (p : Nat) (e : Int) (nx : Nat) (h : lexL s = .error (p, e)) :
    RetX Tryz.prog 61 [.u (.str s)] [] nx (fun r o n => r = .val (.tup [.ptr nx 0, .u (.int .i64 p), .u (.int .i64 e)]) ∧ o = [(nx, pOb [] 0)] ∧ n = nx + 1) := by
  have h1 := lex_fun s
  rw [h] at h1
  simp only [lexOut] at h1
  (refine RetX.of_bodyW Tryz.func61 rfl (by simp) fun Γ hn hpan => ?_); simp only [entry, List.zipIdx_cons, List.zipIdx_nil, List.map_cons, List.map_nil, Nat.zero_add, Tryz.ntmps61]
  repeat' (first
    | (refine H_cons ?_; simp)
    | (refine H_nil ?_; simp)
    | (refine V_sseq ?_; simp)
    | (refine V_ret ?_; simp only [RunK])
    | (refine CallP.fun_ (h1) (by first | rfl | fail) (by first | assumption | (simp; done) | fail) (by first | (simp; done) | (simp; rfl) | fail) (by first | (simp; done) | fail) (fun d hd => ?_); subst hd; (try simp))
    | fail)
  (refine EndW.here ?_; (first | (refine EndOK.fin (.inr rfl) ?_) | (refine EndOK.fin (.inl rfl) ?_)); simp [resD, oneOrTup, Tryz.results61]; refine FinOK.here (by simp) ?_; try simp)
theorem caught_none (i j nx : Nat) (hi : i < nx) (hj : j < nx) (hij : i ≠ j) (p e : Int) :
    RetX Tryz.prog 63 [.u (.oth .nilIface), .ptr i 0, .ptr j 0] [(i, .box [.u (.int .i64 p)]), (j, .box [.u (.int .i64 e)])] nx
      (fun r o n => r = .val (.u (.bool false)) ∧ o = [(i, .box [.u (.int .i64 p)]), (j, .box [.u (.int .i64 e)])] ∧ n = nx) := by
  have hne := ne_facts hi
  have hne2 := ne_facts hj
  (refine RetX.of_bodyW Tryz.func63 rfl (by simp) fun Γ hn hpan => ?_); simp only [entry, List.zipIdx_cons, List.zipIdx_nil, List.map_cons, List.map_nil, Nat.zero_add, Tryz.ntmps63]
  repeat' (first
    | (refine H_cons ?_; simp [hne, hne2, hij, Ne.symm hij])
    | (refine H_nil ?_; simp [hne, hne2, hij, Ne.symm hij])
    | (refine V_sseq ?_; simp [hne, hne2, hij, Ne.symm hij])
    | fail)
  refine ⟨[.int .i64 0, .int .i64 0], rfl, ?_⟩
  repeat' (first
    | (refine H_cons ?_; simp [hne, hne2, hij, Ne.symm hij])
    | (refine H_nil ?_; simp [hne, hne2, hij, Ne.symm hij])
    | (refine V_sseq ?_; simp [hne, hne2, hij, Ne.symm hij])
    | (refine V_scond ?_; simp [hne, hne2, hij, Ne.symm hij])
    | (refine V_ret ?_; simp only [RunK])
    | (refine V_skip ?_; simp only [RunK])
    | fail)
  (refine EndW.here ?_; (first | (refine EndOK.fin (.inr rfl) ?_) | (refine EndOK.fin (.inl rfl) ?_)); simp [resD, oneOrTup, Tryz.results63, hne, hne2, hij, Ne.symm hij, hi, hj]; refine FinOK.cut [(i, .box [.u (.int .i64 p)]), (j, .box [.u (.int .i64 e)])] (nx) (by simp [getK_cons, getK, getK_append, getK_del, Ob.under, D.under, under_rowsD, under_entD, hne, hne2, hij, Ne.symm hij, hi, hj] <;> omega) (by simp [D.under]) (by simp [hn]) ?_; try simp)
theorem caught_stop (i j nx : Nat) (hi : i < nx) (hj : j < nx) (hij : i ≠ j) (p e pos err : Int) :
    RetX Tryz.prog 63 [.u (.oth (.iface 194 (.agg #[.int .i64 pos, .int .i64 err]))), .ptr i 0, .ptr j 0] [(i, .box [.u (.int .i64 p)]), (j, .box [.u (.int .i64 e)])] nx
      (fun r o n => r = .val (.u (.bool true)) ∧ o = [(i, .box [.u (.int .i64 pos)]), (j, .box [.u (.int .i64 err)])] ∧ n = nx) := by
  have hne := ne_facts hi
  have hne2 := ne_facts hj
  (refine RetX.of_bodyW Tryz.func63 rfl (by simp) fun Γ hn hpan => ?_); simp only [entry, List.zipIdx_cons, List.zipIdx_nil, List.map_cons, List.map_nil, Nat.zero_add, Tryz.ntmps63]
  repeat' (first
    | (refine H_cons ?_; simp [hne, hne2, hij, Ne.symm hij])
    | (refine HD4_val rfl ?_; simp [hne, hne2, hij, Ne.symm hij])
    | (refine HD4_chg rfl ?_; simp [hne, hne2, hij, Ne.symm hij])
    | (refine H_nil ?_; simp [hne, hne2, hij, Ne.symm hij])
    | (refine V_sseq ?_; simp [hne, hne2, hij, Ne.symm hij])
    | (refine V_scond ?_; simp [hne, hne2, hij, Ne.symm hij])
    | (refine HD4_nil (hC _ (okP4_ren [i, j] nx (by simp <;> omega) (by simp <;> omega) (by apply Exists.intro; apply And.intro; (focus (repeat' (first | exact KF.nil | exact KL.nil | apply KF.cons | apply KL.cons 0 rfl | apply KL.cons 1 rfl | apply KL.cons 2 rfl | apply KL.cons 3 rfl | apply KL.cons 4 rfl | apply KL.cons 5 rfl | apply KL.cons 6 rfl | apply KL.cons 7 rfl | apply KL.cons 8 rfl | apply KL.cons 9 rfl))); kernel_rfl))) (hk _ ?_); clear hC hk C k; simp only [RunK])
    | (refine V_drawX rfl (by kernel_rfl) (by first | (simp [hn]; done) | (simp [hn]; omega) | fail) fun C k hC hk => ?_; simp [hne, hne2, hij, Ne.symm hij])
    | (refine V_ret ?_; simp only [RunK])
    | (refine V_skip ?_; simp only [RunK])
    | fail)
  (refine EndW.here ?_; (first | (refine EndOK.fin (.inr rfl) ?_) | (refine EndOK.fin (.inl rfl) ?_)); simp [resD, oneOrTup, Tryz.results63, hne, hne2, hij, Ne.symm hij, hi, hj]; refine FinOK.cut [(i, .box [.u (.int .i64 pos)]), (j, .box [.u (.int .i64 err)])] (nx) (by simp [getK_cons, getK, getK_append, getK_del, Ob.under, D.under, under_rowsD, under_entD, hne, hne2, hij, Ne.symm hij, hi, hj] <;> omega) (by simp [D.under]) (by simp [hn]) ?_; try simp)
end Go.Proofs.YtepiegcjnaohjaaGreatDoor
namespace Go.Proofs.YtepiegcjnaohjaaGreatDoor
open Go Go.VL
theorem primary_min {l : List Tok} (hl : TokOK l) {f p : Nat} (hE : ExpOK l f) (hf : 4 * (l.length - p) ≤ f) {t : Tok} (ht : l[p]? = some t) (hk : ¬ t.kind = 2) (h1 : isB l p [116, 114, 117, 101] = false) (h2 : isB l p [102, 97, 108, 115, 101] = false)
    (h3 : isB l p [109, 105, 110] = true) (h4 : isB l p [109, 97, 120] = false) {i nx : Nat} (hi : i < nx) :
    RetX Tryz.prog 283 [.ptr i 0] [(i, pOb l p)] nx (PPost l i nx expD (primaryP l (f + 1) p)) := primary_mm hl hE hf ht hk h1 h2 (.inr ⟨h3, h4⟩) hi
end Go.Proofs.YtepiegcjnaohjaaGreatDoor
namespace Go.Proofs.YtepiegcjnaohjaaGreatDoor
open Go Go.VL
attribute [local simp] HS hcons hstep evPure opd uOf putOK St.put St.at getK binD binI binS binB nilD aggD eqUs cmpK lookD lookR rangeD rangeS Go.VL.nextD Go.VL.nextS entryD keyD valU keyU lookK mkV lookK_entD updK_entD1 allUE allUE_entD makeMapD mapUpdD mapEff updK valM Key.kk shiftI arith unD convD pickD loadD cellsAt fieldAddrD fieldD indexAddrD indexSlD arrAddr indexD sliceD cutD lenD minmaxD nilCheckD buildD fillD cellsD isOne ones setAll mkAgg allU allocD boxD storeD St.add buildSliceD appendD rowsOf makeD setOb getK_setOb getK_del getK_cons stripL strip guardTmp entry chunks zcells valD argsV argsW argW argU1 argU0 argsU0 argsU1 calleeOf scalarD scalarU delAll effD St.effS RK_seq RK_seq_ret RK_seq_exit RK_blk RK_blk_ret RK_blk_exit RK_loop RK_loop_ret RK_loop_exit RK_done vs_seq vs_block vs_cond vs_region vs_loop vs_draw applyW mkD rdIds lentIds callOf calleeOf freeOp D.ids Op.operands Call.operands isEffOp makeIfD makeFuncD typeAssertD conc concs conc1 uOfV panicD IntKind.bits allU2 List.take_of_length_le List.range_succ
attribute [local irreducible] V G H HD HD2 HD4 HD4h RetX RunK Eff CallP CallV EndOK Fun Ret FinOK LoopI LoopW EndW
theorem primary_name {l : List Tok} (hl : TokOK l) {f p : Nat} {t : Tok} (ht : l[p]? = some t) (hk : ¬ t.kind = 2) (h1 : isB l p [116, 114, 117, 101] = false) (h2 : isB l p [102, 97, 108, 115, 101] = false)
    (h3 : isB l p [109, 105, 110] = false) (h4 : isB l p [109, 97, 120] = false) (h5 : isB l p [40] = false) {i nx : Nat} (hi : i < nx) :
    RetX Tryz.prog 283 [.ptr i 0] [(i, pOb l p)] nx (PPost l i nx expD (primaryP l (f + 1) p)) := by
  have hne := ne_facts hi
  have hp := (List.getElem?_eq_some_iff.1 ht).1
  have hnx := pnext_fun l p t ht hl.len
  have hll := hl.len
  rw [primaryP, ht]
  have hh1 := fun nx' (h : nx ≤ nx') => has_ret l p [116, 114, 117, 101] i nx' (by omega) hp hl.len
  have hh2 := fun nx' (h : nx ≤ nx') => has_ret l p [102, 97, 108, 115, 101] i nx' (by omega) hp hl.len
  have hm1 := is_fun l p [109, 105, 110] hp hl.len
  have hm2 := is_fun l p [109, 97, 120] hp hl.len
  have hh3 := fun nx' (h : nx ≤ nx') => has_ret l p [40] i nx' (by omega) hp hl.len
  have hnm := name_fun t.text
  have hc1 := fun nx' (h : nx ≤ nx') => check_ok l p 12 i nx' (by omega)
  have hc2 := fun nx' (h : nx ≤ nx') => check_pan l p t 12 i nx' (by omega) ht hl.len
  simp only [hk, h1, h2, h3, h4, h5, if_false, if_true, Bool.false_eq_true, or_self] at hh1 hh2 hm1 hm2 hh3 ⊢
  by_cases hw : t.kind = 1
  · cases hb : nameB t.text with
    | true =>
      simp only [hb, hw, and_self, if_true] at hnm ⊢
      (refine RetX.of_bodyW Tryz.func283 rfl (by simp) fun Γ hn hpan => ?_); simp only [entry, List.zipIdx_cons, List.zipIdx_nil, List.map_cons, List.map_nil, Nat.zero_add, Tryz.ntmps283]
      repeat' (first
    | (refine H_cons ?_; simp [hne, hk, hw, del, Nat.add_assoc])
    | (refine H_nil ?_; simp [hne, hk, hw, del, Nat.add_assoc])
    | (refine ⟨by omega, ?_⟩)
    | (refine V_sseq ?_; simp [hne, hk, hw, del, Nat.add_assoc])
    | (refine V_scond ?_; simp [hne, hk, hw, del, Nat.add_assoc])
    | (refine V_ret ?_; simp only [RunK])
    | (refine V_skip ?_; simp only [RunK])
    | (refine CallP.fun_ (hnx) (by first | rfl | fail) (by first | assumption | (simp; done) | fail) (by first | (simp [hne, hk, hw, del, Nat.add_assoc]; done) | (simp [hne, hk, hw, del, Nat.add_assoc]; rfl) | fail) (by first | (simp; done) | fail) (fun d hd => ?_); subst hd; (try simp [hne, hk, hw, del, Nat.add_assoc]))
    | (refine CallP.fun_ (hm1) (by first | rfl | fail) (by first | assumption | (simp; done) | fail) (by first | (simp [hne, hk, hw, del, Nat.add_assoc]; done) | (simp [hne, hk, hw, del, Nat.add_assoc]; rfl) | fail) (by first | (simp; done) | fail) (fun d hd => ?_); subst hd; (try simp [hne, hk, hw, del, Nat.add_assoc]))
    | (refine CallP.fun_ (hm2) (by first | rfl | fail) (by first | assumption | (simp; done) | fail) (by first | (simp [hne, hk, hw, del, Nat.add_assoc]; done) | (simp [hne, hk, hw, del, Nat.add_assoc]; rfl) | fail) (by first | (simp; done) | fail) (fun d hd => ?_); subst hd; (try simp [hne, hk, hw, del, Nat.add_assoc]))
    | (refine CallP.fun_ (hnm) (by first | rfl | fail) (by first | assumption | (simp; done) | fail) (by first | (simp [hne, hk, hw, del, Nat.add_assoc]; done) | (simp [hne, hk, hw, del, Nat.add_assoc]; rfl) | fail) (by first | (simp; done) | fail) (fun d hd => ?_); subst hd; (try simp [hne, hk, hw, del, Nat.add_assoc]))
    | (refine CallP.ok1 (hh1 _ (by first | omega | (simp; done) | (simp; omega) | fail)) (by first | (simp [hne, hk, hw, del, Nat.add_assoc, getK_cons, getK, getK_append, getK_del]; done) | fail) (by rfl) (by first | assumption | (simp; done) | fail) (by rfl) (by simp) ?_; (try simp [hne, hk, hw, del, Nat.add_assoc]))
    | (refine CallP.ok1 (hh2 _ (by first | omega | (simp; done) | (simp; omega) | fail)) (by first | (simp [hne, hk, hw, del, Nat.add_assoc, getK_cons, getK, getK_append, getK_del]; done) | fail) (by rfl) (by first | assumption | (simp; done) | fail) (by rfl) (by simp) ?_; (try simp [hne, hk, hw, del, Nat.add_assoc]))
    | (refine CallP.ok1 (hh3 _ (by first | omega | (simp; done) | (simp; omega) | fail)) (by first | (simp [hne, hk, hw, del, Nat.add_assoc, getK_cons, getK, getK_append, getK_del]; done) | fail) (by rfl) (by first | assumption | (simp; done) | fail) (by rfl) (by simp) ?_; (try simp [hne, hk, hw, del, Nat.add_assoc]))
    | (refine CallP.ok1 (hc1 _ (by first | omega | (simp; done) | (simp; omega) | fail)) (by first | (simp [hne, hk, hw, del, Nat.add_assoc, getK_cons, getK, getK_append, getK_del]; done) | fail) (by rfl) (by first | assumption | (simp; done) | fail) (by rfl) (by simp) ?_; (try simp [hne, hk, hw, del, Nat.add_assoc]))
    | fail)
      refine EndW.norm ?_
      simp [St.norm, normOb, normD, normU, norm1, hne]
      (refine EndW.here ?_; (first | (refine EndOK.fin (.inr rfl) ?_) | (refine EndOK.fin (.inl rfl) ?_)); simp [resD, oneOrTup, Tryz.results283, hne, hi]; refine FinOK.cut [(i, pOb l (p + 1))] (nx) (by simp [getK_cons, getK, getK_append, getK_del, Ob.under, D.under, under_rowsD, under_entD, hne, hi] <;> omega) (by simp [D.under]) (by simp [hn]) ?_; try simp)
      exact PPost.at_ok rfl (by simp [Exp.row]) rfl
    | false =>
      simp only [hb, hw, Bool.false_eq_true, and_false, if_false] at hnm ⊢
      (refine RetX.of_bodyW Tryz.func283 rfl (by simp) fun Γ hn hpan => ?_); simp only [entry, List.zipIdx_cons, List.zipIdx_nil, List.map_cons, List.map_nil, Nat.zero_add, Tryz.ntmps283]
      repeat' (first
    | (refine H_cons ?_; simp [hne, hk, hw, del, Nat.add_assoc])
    | (refine H_nil ?_; simp [hne, hk, hw, del, Nat.add_assoc])
    | (refine V_sseq ?_; simp [hne, hk, hw, del, Nat.add_assoc])
    | (refine V_scond ?_; simp [hne, hk, hw, del, Nat.add_assoc])
    | (refine V_skip ?_; simp only [RunK])
    | (refine CallP.fun_ (hnx) (by first | rfl | fail) (by first | assumption | (simp; done) | fail) (by first | (simp [hne, hk, hw, del, Nat.add_assoc]; done) | (simp [hne, hk, hw, del, Nat.add_assoc]; rfl) | fail) (by first | (simp; done) | fail) (fun d hd => ?_); subst hd; (try simp [hne, hk, hw, del, Nat.add_assoc]))
    | (refine CallP.fun_ (hm1) (by first | rfl | fail) (by first | assumption | (simp; done) | fail) (by first | (simp [hne, hk, hw, del, Nat.add_assoc]; done) | (simp [hne, hk, hw, del, Nat.add_assoc]; rfl) | fail) (by first | (simp; done) | fail) (fun d hd => ?_); subst hd; (try simp [hne, hk, hw, del, Nat.add_assoc]))
    | (refine CallP.fun_ (hm2) (by first | rfl | fail) (by first | assumption | (simp; done) | fail) (by first | (simp [hne, hk, hw, del, Nat.add_assoc]; done) | (simp [hne, hk, hw, del, Nat.add_assoc]; rfl) | fail) (by first | (simp; done) | fail) (fun d hd => ?_); subst hd; (try simp [hne, hk, hw, del, Nat.add_assoc]))
    | (refine CallP.fun_ (hnm) (by first | rfl | fail) (by first | assumption | (simp; done) | fail) (by first | (simp [hne, hk, hw, del, Nat.add_assoc]; done) | (simp [hne, hk, hw, del, Nat.add_assoc]; rfl) | fail) (by first | (simp; done) | fail) (fun d hd => ?_); subst hd; (try simp [hne, hk, hw, del, Nat.add_assoc]))
    | (refine CallP.ok1 (hh1 _ (by first | omega | (simp; done) | (simp; omega) | fail)) (by first | (simp [hne, hk, hw, del, Nat.add_assoc, getK_cons, getK, getK_append, getK_del]; done) | fail) (by rfl) (by first | assumption | (simp; done) | fail) (by rfl) (by simp) ?_; (try simp [hne, hk, hw, del, Nat.add_assoc]))
    | (refine CallP.ok1 (hh2 _ (by first | omega | (simp; done) | (simp; omega) | fail)) (by first | (simp [hne, hk, hw, del, Nat.add_assoc, getK_cons, getK, getK_append, getK_del]; done) | fail) (by rfl) (by first | assumption | (simp; done) | fail) (by rfl) (by simp) ?_; (try simp [hne, hk, hw, del, Nat.add_assoc]))
    | (refine CallP.ok1 (hh3 _ (by first | omega | (simp; done) | (simp; omega) | fail)) (by first | (simp [hne, hk, hw, del, Nat.add_assoc, getK_cons, getK, getK_append, getK_del]; done) | fail) (by rfl) (by first | assumption | (simp; done) | fail) (by rfl) (by simp) ?_; (try simp [hne, hk, hw, del, Nat.add_assoc]))
    | (refine CallP.pan1 (hc2 _ (by first | omega | (simp; done) | (simp; omega) | fail)) (by first | (simp [hne, hk, hw, del, Nat.add_assoc, getK_cons, getK, getK_append, getK_del]; done) | fail) (by rfl) (by first | assumption | (simp; done) | fail) (by rfl) (by simp) ?_; rintro ob' ⟨q', rfl⟩; refine ⟨_, Wk.refl _, ?_⟩)
    | fail)
      (refine hpan _ _ ⟨{ n := _, env := [], obs := [(i, pOb l q')], next := nx }, (Wk.cut rfl (by simp [hn]) (by simp [wkO, getK_cons, getK, getK_append, getK_del, Ob.under, D.under, under_rowsD, under_entD, hi, hne, getK_append, getK_del, getK_cons, getK]) (by simp [wkU, keepE, getK_cons, getK, D.under, hi, hne, getK_append, getK_del, getK_cons, getK]) (by simp [wkE, keepE, getK_cons, getK, hi, hne, getK_append, getK_del, getK_cons, getK])), by simp [hn], ?_⟩; try simp)
      exact PPost.at_stop rfl
  · simp only [hw, false_and, if_false]
    (refine RetX.of_bodyW Tryz.func283 rfl (by simp) fun Γ hn hpan => ?_); simp only [entry, List.zipIdx_cons, List.zipIdx_nil, List.map_cons, List.map_nil, Nat.zero_add, Tryz.ntmps283]
    repeat' (first
    | (refine H_cons ?_; simp [hne, hk, hw, del, Nat.add_assoc])
    | (refine H_nil ?_; simp [hne, hk, hw, del, Nat.add_assoc])
    | (refine V_sseq ?_; simp [hne, hk, hw, del, Nat.add_assoc])
    | (refine V_scond ?_; simp [hne, hk, hw, del, Nat.add_assoc])
    | (refine V_skip ?_; simp only [RunK])
    | (refine CallP.fun_ (hnx) (by first | rfl | fail) (by first | assumption | (simp; done) | fail) (by first | (simp [hne, hk, hw, del, Nat.add_assoc]; done) | (simp [hne, hk, hw, del, Nat.add_assoc]; rfl) | fail) (by first | (simp; done) | fail) (fun d hd => ?_); subst hd; (try simp [hne, hk, hw, del, Nat.add_assoc]))
    | (refine CallP.fun_ (hm1) (by first | rfl | fail) (by first | assumption | (simp; done) | fail) (by first | (simp [hne, hk, hw, del, Nat.add_assoc]; done) | (simp [hne, hk, hw, del, Nat.add_assoc]; rfl) | fail) (by first | (simp; done) | fail) (fun d hd => ?_); subst hd; (try simp [hne, hk, hw, del, Nat.add_assoc]))
    | (refine CallP.fun_ (hm2) (by first | rfl | fail) (by first | assumption | (simp; done) | fail) (by first | (simp [hne, hk, hw, del, Nat.add_assoc]; done) | (simp [hne, hk, hw, del, Nat.add_assoc]; rfl) | fail) (by first | (simp; done) | fail) (fun d hd => ?_); subst hd; (try simp [hne, hk, hw, del, Nat.add_assoc]))
    | (refine CallP.ok1 (hh1 _ (by first | omega | (simp; done) | (simp; omega) | fail)) (by first | (simp [hne, hk, hw, del, Nat.add_assoc, getK_cons, getK, getK_append, getK_del]; done) | fail) (by rfl) (by first | assumption | (simp; done) | fail) (by rfl) (by simp) ?_; (try simp [hne, hk, hw, del, Nat.add_assoc]))
    | (refine CallP.ok1 (hh2 _ (by first | omega | (simp; done) | (simp; omega) | fail)) (by first | (simp [hne, hk, hw, del, Nat.add_assoc, getK_cons, getK, getK_append, getK_del]; done) | fail) (by rfl) (by first | assumption | (simp; done) | fail) (by rfl) (by simp) ?_; (try simp [hne, hk, hw, del, Nat.add_assoc]))
    | (refine CallP.ok1 (hh3 _ (by first | omega | (simp; done) | (simp; omega) | fail)) (by first | (simp [hne, hk, hw, del, Nat.add_assoc, getK_cons, getK, getK_append, getK_del]; done) | fail) (by rfl) (by first | assumption | (simp; done) | fail) (by rfl) (by simp) ?_; (try simp [hne, hk, hw, del, Nat.add_assoc]))
    | (refine CallP.pan1 (hc2 _ (by first | omega | (simp; done) | (simp; omega) | fail)) (by first | (simp [hne, hk, hw, del, Nat.add_assoc, getK_cons, getK, getK_append, getK_del]; done) | fail) (by rfl) (by first | assumption | (simp; done) | fail) (by rfl) (by simp) ?_; rintro ob' ⟨q', rfl⟩; refine ⟨_, Wk.refl _, ?_⟩)
    | fail)
    (refine hpan _ _ ⟨{ n := _, env := [], obs := [(i, pOb l q')], next := nx }, (Wk.cut rfl (by simp [hn]) (by simp [wkO, getK_cons, getK, getK_append, getK_del, Ob.under, D.under, under_rowsD, under_entD, hi, hne, getK_append, getK_del, getK_cons, getK]) (by simp [wkU, keepE, getK_cons, getK, D.under, hi, hne, getK_append, getK_del, getK_cons, getK]) (by simp [wkE, keepE, getK_cons, getK, hi, hne, getK_append, getK_del, getK_cons, getK])), by simp [hn], ?_⟩; try simp)
    exact PPost.at_stop rfl
theorem isB_text {l : List Tok} {p : Nat} {w : List UInt8} {t : Tok} (ht : l[p]? = some t) (h : isB l p w = true) : t.text = w := by
  unfold isB at h
  rw [ht] at h
  simp only [Bool.and_eq_true, decide_eq_true_eq] at h
  exact h.2
theorem primary_step {l : List Tok} (hl : TokOK l) {f : Nat} (hE : ExpOK l f) : PrimOK l (f + 1) := by
  intro p i nx hi hp hf
  obtain ⟨t, ht⟩ : ∃ t, l[p]? = some t := ⟨_, List.getElem?_eq_getElem hp⟩
  by_cases hk : t.kind = 2
  · exact primary_num hl ht hk hi
  cases h1 : isB l p [116, 114, 117, 101] with
  | true => exact primary_true hl ht hk h1 hi
  | false =>
  cases h2 : isB l p [102, 97, 108, 115, 101] with
  | true => exact primary_false hl ht hk h1 h2 hi
  | false =>
  cases h3 : isB l p [109, 105, 110] with
  | true =>
    cases h4 : isB l p [109, 97, 120] with
    | true => exact absurd ((isB_text ht h3).symm.trans (isB_text ht h4)) (by decide)
    | false => exact primary_min hl hE (by omega) ht hk h1 h2 h3 h4 hi
  | false =>
  cases h4 : isB l p [109, 97, 120] with
  | true => exact primary_max hl hE (by omega) ht hk h1 h2 h3 h4 hi
  | false =>
  cases h5 : isB l p [40] with
  | true => exact primary_paren hl hE (by omega) ht hk h1 h2 h3 h4 h5 hi
  | false => exact primary_name hl ht hk h1 h2 h3 h4 h5 hi
end Go.Proofs.YtepiegcjnaohjaaGreatDoor
namespace Go.VL
open Go
/-- A slice within a struct that came in has a length that an int holds. -/
theorem V_lenB {P : Program} {Γ : Ctx} {c : Code} {s : St} {Q : Exit → St → Prop} {x j : Nat} {cells : List U} {rows : List (List U)} (hx : getK s.env x = some (.u (.agg cells))) (hj : cells[j]? = some (.sl rows)) (h : rows.length ≤ 9223372036854775807 → V P Γ c s Q) : V P Γ c s Q :=
  V_know (fun K a w hs => by
    have hr := (hs.getK hx).2
    obtain ⟨vs, hl, _, hr⟩ := rep_uagg hr
    have hr := hr j _ hj
    generalize vs.getD j undef = v at hr
    cases hr with
    | slE => simp
    | sl _ b o sz c f hc hcx => unfold maxLen at hcx; omega) h
end Go.VL
namespace Go.Proofs.YtepiegcjnaohjaaGreatDoor
open Go Go.VL
attribute [local simp] hcons hstep evPure opd uOf putOK St.put St.at getK binD binI binS binB nilD aggD eqUs cmpK lookD lookR rangeD rangeS Go.VL.nextD Go.VL.nextS entryD keyD valU keyU lookK mkV lookK_entD updK_entD1 allUE allUE_entD makeMapD mapUpdD mapEff updK valM Key.kk shiftI arith unD convD pickD loadD cellsAt fieldAddrD fieldD indexAddrD indexSlD arrAddr indexD sliceD cutD lenD minmaxD nilCheckD buildD fillD cellsD isOne ones setAll mkAgg allU allocD boxD storeD St.add buildSliceD appendD rowsOf makeD setOb getK_setOb getK_del getK_cons stripL strip guardTmp entry chunks zcells valD argsV argsW argW argU1 argU0 argsU0 argsU1 calleeOf scalarD scalarU delAll effD St.effS RK_seq RK_seq_ret RK_seq_exit RK_blk RK_blk_ret RK_blk_exit RK_loop RK_loop_ret RK_loop_exit RK_done vs_seq vs_block vs_cond vs_region vs_loop vs_draw applyW mkD rdIds lentIds callOf calleeOf freeOp D.ids Op.operands Call.operands isEffOp makeIfD makeFuncD typeAssertD conc concs conc1 uOfV panicD IntKind.bits allU2 List.take_of_length_le List.range_succ
attribute [local irreducible] V G H HD HD2 RunK Eff CallP CallV EndOK Fun Ret FinOK LoopI LoopW EndW
theorem parse_all {l : List Tok} (hl : TokOK l) : ∀ f, ExpOK l f ∧ PreOK l f ∧ PrimOK l f := by
  intro f
  induction f using Nat.strongRecOn with
  | _ f ih =>
    cases f with
    | zero => exact ⟨fun p form i nx _ _ h => by omega, fun p form i nx _ _ h => by omega, fun p i nx _ _ h => by omega⟩
    | succ f =>
      obtain ⟨h1, h2, h3⟩ := ih f (by omega)
      exact ⟨exp_step hl (fun g hg => (ih g (by omega)).1) h2, prefix_step hl h1 h3, primary_step hl h1⟩
def Exp.lev : Exp → Int
  | .mk _ _ _ _ args => (args.map fun e => e.lev).foldl max 0 + 1
theorem Exp.lev_eq (e : Exp) : e.lev = (e.args.map Exp.lev).foldl max 0 + 1 := by
  cases e with
  | mk op n u s args => rw [Exp.lev]; rfl
theorem foldl_max_mem : ∀ (l : List Int) (a : Int), a ≤ l.foldl max a ∧ ∀ x ∈ l, x ≤ l.foldl max a
  | [], a => ⟨by simp, fun x h => by simp at h⟩
  | b :: l, a => by
    obtain ⟨h1, h2⟩ := foldl_max_mem l (max a b)
    refine ⟨by simp only [List.foldl_cons]; omega, fun x hx => ?_⟩
    rcases List.mem_cons.1 hx with rfl | hx
    · simp only [List.foldl_cons]; omega
    · exact h2 x hx
theorem Exp.lev_pos (e : Exp) : 1 ≤ e.lev := by
  rw [Exp.lev_eq]
  have := (foldl_max_mem (e.args.map Exp.lev) 0).1
  omega
theorem Exp.sizeOf_args {e x : Exp} (h : x ∈ e.args) : SizeOf.sizeOf x < SizeOf.sizeOf e := by
  cases e with
  | mk op n u s args =>
    have := List.sizeOf_lt_of_mem h
    simp only [Exp.args] at this
    simp only [Exp.mk.sizeOf_spec]
    omega
theorem levels_all : ∀ (n : Nat) (e : Exp), SizeOf.sizeOf e ≤ n → e.lev ≤ 1000000000 → Fun Tryz.prog 204 [.u (.agg e.row)] (· = .u (.int .i64 e.lev)) := by
  intro n
  induction n with
  | zero =>
    intro e h
    cases e with
    | mk op n u s args => simp only [Exp.mk.sizeOf_spec] at h; omega
  | succ n ih =>
    intro e hs he
    have hx : ∀ x ∈ e.args, Fun Tryz.prog 204 [.u (.agg [.int .i64 x.op, .int .i64 x.n, .int .i64 x.unit, .str x.s, .sl (x.args.map Exp.row)])] (· = .u (.int .i64 x.lev)) := fun x hx => by
      rw [← Exp.row_eq]
      refine ih x (by have := Exp.sizeOf_args hx; omega) ?_
      have := (foldl_max_mem (e.args.map Exp.lev) 0).2 x.lev (List.mem_map.2 ⟨x, hx, rfl⟩)
      rw [Exp.lev_eq] at he
      omega
    have hlb : ∀ k, ((e.args.map Exp.lev).take k).foldl max 0 ≤ 1000000000 := fun k => by
      rw [← List.map_take]
      rw [Exp.lev_eq] at he
      have h2 : (e.args.map Exp.lev).foldl max 0 = (e.args.drop k |>.map Exp.lev).foldl max ((e.args.take k |>.map Exp.lev).foldl max 0) := by
        rw [← List.foldl_append, ← List.map_append, List.take_append_drop]
      have := (foldl_max_mem (e.args.drop k |>.map Exp.lev) ((e.args.take k |>.map Exp.lev).foldl max 0)).1
      omega
    rw [Exp.row_eq, Exp.lev_eq]
    generalize hA : e.args = A at *
    rw [Exp.lev_eq, hA] at he
    (refine Fun.of_body Tryz.func204 rfl (by simp) fun Γ hn => ?_); simp only [entry, List.zipIdx_cons, List.zipIdx_nil, List.map_cons, List.map_nil, Nat.zero_add, Tryz.ntmps204]
    refine V_lenB (x := 0) (j := 4) rfl rfl fun hl => ?_
    simp at hl
    repeat' (first
    | (refine H_cons ?_; simp)
    | (refine H_nil ?_; simp)
    | (refine V_sseq ?_; simp)
    | (refine V_sblock ?_; simp)
    | fail)
    refine V_loopF (α := { k : Nat // k ≤ A.length }) [0, 1, 2, 7, 8] (fun k => [(9, .u (.int .i64 k.1)), (3, .u (.int .i64 (((A.map Exp.lev).take k.1).foldl max 0)))]) (fun k => A.length - k.1) ⟨0, by omega⟩ ?_ ?_
    · exact (Wk.env rfl rfl rfl (by simp [wkE, St.lp, keepE, getK_cons, getK] <;> (try (intros; simp_all; done)) <;> (try (intros; omega)) <;> (try grind)))
    rintro ⟨k, hk⟩
    simp [St.lp, St.only, keepE, getK_cons, getK]
    rcases hy : A[k]? with _ | y
    · have hge : A.length ≤ k := by simpa using hy
      have hb := hlb k
      rw [List.take_of_length_le (by simpa using hge : (A.map Exp.lev).length ≤ k)] at hb ⊢
      have hb0 := (foldl_max_mem (A.map Exp.lev) 0).1
      generalize (A.map Exp.lev).foldl max 0 = M at *
      repeat' (first
    | (refine H_cons ?_; simp [hy])
    | (refine H_nil ?_; simp [hy])
    | (refine ⟨by omega, ?_⟩)
    | (refine V_sseq ?_; simp [hy])
    | (refine V_ret ?_; simp only [RunK])
    | (refine V_exit ?_; simp [RunK])
    | (intro hc <;> (try (exfalso; omega)))
    | fail)
      (refine EndOK.val (.inr rfl) ?_; simp [resD, oneOrTup, pureD, Tryz.results204])
    · have hlt : k < A.length := (List.getElem?_eq_some_iff.1 hy).1
      have hfn := hx y (List.mem_of_getElem? hy)
      have ht : ((A.map Exp.lev).take (k + 1)).foldl max 0 = max (((A.map Exp.lev).take k).foldl max 0) y.lev := by
        rw [List.take_add_one, List.getElem?_map, hy]
        simp
      have hb := hlb (k + 1)
      rw [ht] at hb
      have hb0 := (foldl_max_mem ((A.map Exp.lev).take k) 0).1
      generalize hM : ((A.map Exp.lev).take k).foldl max 0 = M at *
      have hyp := y.lev_pos
      repeat' (first
    | (refine H_cons ?_; simp [hy, Exp.row_eq])
    | (refine H_nil ?_; simp [hy, Exp.row_eq])
    | (refine ⟨by omega, ?_⟩)
    | (refine V_sseq ?_; simp [hy, Exp.row_eq])
    | (refine V_sregion ?_; simp [hy, Exp.row_eq])
    | (refine V_skip ?_; simp only [RunK])
    | (refine ⟨?_, by omega⟩)
    | (intro hc <;> (try (exfalso; omega)))
    | (refine CallP.fun_ (hfn) (by first | rfl | fail) (by first | assumption | (simp; done) | fail) (by first | (simp [hy, Exp.row_eq]; done) | (simp [hy, Exp.row_eq]; rfl) | fail) (by first | (simp; done) | fail) (fun d hd => ?_); subst hd; (try simp [hy, Exp.row_eq]))
    | fail)
      refine LoopW.next ⟨k + 1, hlt⟩ (by show A.length - (k + 1) < A.length - k; omega) ?_
      exact (Wk.cut rfl (by simp [hn, St.lp]) (by simp [wkO, St.lp, getK_cons, getK, Ob.under, D.under, under_rowsD, under_entD, ht]) (by simp [wkU, St.lp, keepE, getK_cons, getK, D.under, ht]) (by simp [wkE, St.lp, keepE, getK_cons, getK, ht] <;> (try (intros; simp_all; done)) <;> (try (intros; omega)) <;> (try grind)))
end Go.Proofs.YtepiegcjnaohjaaGreatDoor
namespace Go.Proofs.YtepiegcjnaohjaaGreatDoor
open Go Go.VL
def numP (l : List Tok) (p : Nat) (least most : Int) : PR Int := match l[p]? with
  | none => .stop 0 0
  | some t => if t.kind = 2 then if least ≤ t.n ∧ t.n ≤ most then .ok t.n (p + 1) else .stop t.pos 3 else .stop t.pos 12
def partP (l : List Tok) (p : Nat) (word : W8) (least most : Int) (behind : List W8) : PR Int :=
  if isB l p word = true then (numP l (p + 1) least most).bind fun n q => (wantP l q behind).bind fun _ r => .ok n r else .ok 0 p
def wholeP (l : List Tok) (p : Nat) : PR Exp := (expP l (4 * l.length + 3) p 0).bind fun e q =>
  if isB l q [59] = true then if e.lev ≤ 12 then .ok e (q + 1) else .stop (posAt l q) 6 else .stop (posAt l q) 12
def kindP (l : List Tok) (p : Nat) : PR (Int × Bool) := (wantP l p [[99, 105, 114, 99, 108, 101]]).bind fun _ q =>
  if isB l q [114, 111, 116, 97, 116, 105, 110, 103] = true then (wantP l (q + 1) [[59]]).bind fun _ r => .ok (0, false) r
  else if isB l q [115, 97, 118, 105, 110, 103] = true then (wantP l (q + 1) [[59]]).bind fun _ r => .ok (2, false) r
  else (wantP l q [[98, 105, 100, 100, 105, 110, 103]]).bind fun _ r => if isB l r [115, 101, 97, 108, 101, 100] = true then (wantP l (r + 1) [[59]]).bind fun _ r => .ok (1, true) r else (wantP l r [[59]]).bind fun _ r => .ok (1, false) r
def ordersW : List W8 := [[106, 111, 105, 110], [100, 114, 97, 119], [110, 101, 101, 100]]
def orderP (l : List Tok) (p : Nat) : PR Int :=
  if isB l p [111, 114, 100, 101, 114] = true then match ordersW.findIdx? fun w => isB l (p + 1) w with
    | some i => (wantP l (p + 2) [[59]]).bind fun _ r => .ok i r
    | none => .stop (posAt l (p + 1)) 12
  else .ok 0 p
def letsP (l : List Tok) : Nat → Nat → List Let → PR (List Let)
  | 0, _, _ => .stop 0 0
  | f + 1, p, acc => if isB l p [108, 101, 116] = true then
      if acc.length < 20 then match l[p + 1]? with
        | none => .stop 0 0
        | some t => if t.kind = 1 ∧ nameB t.text = true then
            if (acc.any fun x => decide (x.name = t.text)) = true then .stop t.pos 5
            else (wantP l (p + 2) [[61]]).bind fun _ q => (wholeP l q).bind fun e r => letsP l f r (acc ++ [⟨t.text, e⟩])
          else .stop t.pos 12
      else .stop (posAt l p) 6
    else .ok acc p
def nothingE : Exp := .mk 0 0 3 [] []
def clauseP (l : List Tok) (p : Nat) (word : W8) : PR Exp := if isB l p word = true then wholeP l (p + 1) else .ok nothingE p
def mustP (l : List Tok) (p : Nat) (word : W8) : PR Unit := if isB l p word = true then .ok () p else .stop (posAt l p) 12
def endP (l : List Tok) (p : Nat) : PR Unit := match l[p]? with | some t => if t.kind = 0 then .ok () p else .stop t.pos 12 | none => .stop 0 0
def bylP (l : List Tok) : PR By :=
  (kindP l 0).bind fun k p => (mustP l p [112, 101, 114, 105, 111, 100]).bind fun _ p => (partP l p [112, 101, 114, 105, 111, 100] 1 1000 [[100, 97, 121, 115], [59]]).bind fun period p =>
  (mustP l p [108, 97, 115, 116]).bind fun _ p => (partP l p [108, 97, 115, 116] 1 1000 [[59]]).bind fun last p =>
  (partP l p [103, 114, 97, 99, 101] 0 1000 [[100, 97, 121, 115], [59]]).bind fun grace p => (partP l p [119, 97, 105, 116] 0 1000 [[100, 97, 121, 115], [59]]).bind fun wait p =>
  (orderP l p).bind fun order p => (partP l p [98, 97, 99, 107, 115] 0 60 [[59]]).bind fun backs p => (partP l p [118, 111, 105, 99, 101, 115] 0 1000 [[112, 101, 114], [109, 105, 108, 108, 101], [59]]).bind fun voices p =>
  (partP l p [106, 117, 114, 121] 0 60 [[59]]).bind fun jury p => (partP l p [102, 117, 110, 100] 0 1000 [[112, 101, 114], [109, 105, 108, 108, 101], [59]]).bind fun fund p =>
  (letsP l 21 p []).bind fun lets p => (wantP l p [[100, 117, 101]]).bind fun _ p => (wholeP l p).bind fun due p =>
  (clauseP l p [102, 105, 110, 101]).bind fun fine p => (clauseP l p [112, 97, 121]).bind fun pay p => (clauseP l p [99, 111, 118, 101, 114]).bind fun cover p => (clauseP l p [104, 111, 108, 100]).bind fun hold p =>
  (endP l p).bind fun _ p => .ok ⟨k.1, period, grace, wait, last, order, k.2, backs, voices, jury, fund, lets, due, fine, pay, cover, hold⟩ p
/-- What may stand at a place: no other word. -/
def StopAt (l : List Tok) (p : Nat) (S : List W8) : Prop := ∀ v, v ∉ S → isB l p v = false
theorem StopAt.head {l p} {w : W8} {b : List W8} (h : Reads l p (w :: b)) : StopAt l p [w] := fun v hv => by
  rw [h.isB]; exact decide_eq_false fun e => hv (by simp [e])
end Go.Proofs.YtepiegcjnaohjaaGreatDoor
namespace Go.Proofs.YtepiegcjnaohjaaGreatDoor
open Go Go.VL
theorem must_ok {l : List Tok} {p q : Nat} {w : W8} {x : Unit} (h : mustP l p w = .ok x q) : q = p ∧ isB l p w = true := by
  unfold mustP at h
  split at h
  · cases h; exact ⟨rfl, by assumption⟩
  · cases h
def chkP (l : List Tok) (p : Nat) (b : Bool) (e : Int) : PR Unit := if b = true then .ok () p else .stop (posAt l p) e
theorem chk_ret (l : List Tok) (p : Nat) (b : Bool) (e : Int) (i nx : Nat) (hi : i < nx) (hp : p < l.length) (hl : TokOK l) :
    RetX Tryz.prog 123 [.ptr i 0, .u (.bool b), .u (.int .i64 e)] [(i, pOb l p)] nx (PPost l i nx (fun _ => .tup []) (chkP l p b e)) := by
  obtain ⟨t, ht⟩ : ∃ t, l[p]? = some t := ⟨_, List.getElem?_eq_getElem hp⟩
  have hpa : posAt l p = t.pos := by unfold posAt; rw [ht]
  unfold chkP
  cases b with
  | true => exact check_ok l p e i nx hi
  | false => rw [if_neg (by simp), hpa]; exact check_pan l p t e i nx hi ht hl.len
theorem must_ret (l : List Tok) (p : Nat) (w : W8) (i nx : Nat) (hi : i < nx) (hp : p < l.length) (hl : TokOK l) :
    RetX Tryz.prog 123 [.ptr i 0, .u (.bool (isB l p w)), .u (.int .i64 12)] [(i, pOb l p)] nx (PPost l i nx (fun _ => .tup []) (mustP l p w)) := chk_ret l p (isB l p w) 12 i nx hi hp hl
theorem chk_ok {l : List Tok} {p q : Nat} {b : Bool} {e : Int} {x : Unit} (h : chkP l p b e = .ok x q) : q = p ∧ b = true := by
  unfold chkP at h
  split at h
  · cases h; exact ⟨rfl, by assumption⟩
  · cases h
theorem end_ret {l : List Tok} {p : Nat} {t : Tok} (ht : l[p]? = some t) (i nx : Nat) (hi : i < nx) (hl : TokOK l) :
    RetX Tryz.prog 123 [.ptr i 0, .u (.bool (decide (t.kind = 0))), .u (.int .i64 12)] [(i, pOb l p)] nx (PPost l i nx (fun _ => .tup []) (endP l p)) := by
  have h := chk_ret l p (decide (t.kind = 0)) 12 i nx hi (List.getElem?_eq_some_iff.1 ht).1 hl
  have e : chkP l p (decide (t.kind = 0)) 12 = endP l p := by
    unfold chkP endP posAt
    rw [ht]
    simp
  rwa [e] at h
theorem end_ok {l : List Tok} {p q : Nat} {x : Unit} (h : endP l p = .ok x q) : q = p := by
  unfold endP at h
  split at h
  · split at h
    · cases h; rfl
    · cases h
  · cases h
/-- A step of the lets, by the parser's own checks. -/
theorem letsP_step {l : List Tok} {f p : Nat} {acc : List Let} {t : Tok} (ht : l[p + 1]? = some t) : letsP l (f + 1) p acc = if isB l p [108, 101, 116] = true then
    (chkP l p (decide ((acc.length : Int) < 20)) 6).bind fun _ _ => (chkP l (p + 1) (decide (t.kind = 1) && nameB t.text) 12).bind fun _ _ =>
    (chkP l (p + 1) (!(acc.any fun x => decide (x.name = t.text))) 5).bind fun _ _ => (wantP l (p + 2) [[61]]).bind fun _ q => (wholeP l q).bind fun e r => letsP l f r (acc ++ [⟨t.text, e⟩])
    else .ok acc p := by
  have hpa : posAt l (p + 1) = t.pos := by unfold posAt; rw [ht]
  rw [letsP, ht]
  unfold chkP
  rw [hpa]
  by_cases h1 : isB l p [108, 101, 116] = true
  · rw [if_pos h1, if_pos h1]
    by_cases h2 : acc.length < 20
    · rw [if_pos h2, if_pos (by simp; omega), PR.bind_ok]
      simp only
      by_cases h3 : t.kind = 1 ∧ nameB t.text = true
      · have e3 : (decide (t.kind = 1) && nameB t.text) = true := by simp [h3]
        rw [if_pos h3, e3]
        simp only [if_true, PR.bind_ok]
        by_cases h4 : (acc.any fun x => decide (x.name = t.text)) = true
        · have e4 : (!acc.any fun x => decide (x.name = t.text)) = false := by rw [h4]; rfl
          rw [if_pos h4, e4]
          rfl
        · have e4 : (!acc.any fun x => decide (x.name = t.text)) = true := by simpa using h4
          rw [if_neg h4, e4]
          rfl
      · have e3 : (decide (t.kind = 1) && nameB t.text) = false := by simpa using h3
        rw [if_neg h3, e3]
        rfl
    · have e2 : decide ((acc.length : Int) < 20) = false := by simp; omega
      rw [if_neg h2, e2]
      rfl
  · rw [if_neg h1, if_neg h1]
theorem letsP_end {l : List Tok} {f p : Nat} {acc : List Let} (h : ¬ isB l p [108, 101, 116] = true) : letsP l (f + 1) p acc = .ok acc p := by rw [letsP, if_neg h]
theorem PR.bind_assoc {α β γ : Type} {r : PR α} {f : α → Nat → PR β} {g : β → Nat → PR γ} : (r.bind f).bind g = r.bind fun a p => (f a p).bind g := by cases r <;> rfl
/-- The lets as the rows of a slice. -/
def letsL (acc : List Let) : List (List U) := acc.map fun l => [.str l.name, .int .i64 l.body.op, .int .i64 l.body.n, .int .i64 l.body.unit, .str l.body.s, .sl (l.body.args.map Exp.row)]
theorem letsL_len (acc : List Let) : (letsL acc).length = acc.length := by simp [letsL]
theorem letsL_snoc (acc : List Let) (s : W8) (e : Exp) : letsL (acc ++ [⟨s, e⟩]) = letsL acc ++ [[.str s, .int .i64 e.op, .int .i64 e.n, .int .i64 e.unit, .str e.s, .sl (e.args.map Exp.row)]] := by simp [letsL]
abbrev byD (b : By) : D := .u (.agg (byCells b))
end Go.Proofs.YtepiegcjnaohjaaGreatDoor
namespace Go.Proofs.YtepiegcjnaohjaaGreatDoor
open Go Go.VL
attribute [local simp] HS hcons hstep evPure opd uOf putOK St.put St.at getK binD binI binS binB nilD aggD eqUs cmpK lookD lookR rangeD rangeS Go.VL.nextD Go.VL.nextS entryD keyD valU keyU lookK mkV lookK_entD updK_entD1 allUE allUE_entD makeMapD mapUpdD mapEff updK valM Key.kk shiftI arith unD convD pickD loadD cellsAt fieldAddrD fieldD indexAddrD indexSlD arrAddr indexD sliceD cutD lenD minmaxD nilCheckD buildD fillD cellsD isOne ones setAll mkAgg allU allocD boxD storeD St.add buildSliceD appendD rowsOf makeD setOb getK_setOb getK_del getK_cons stripL strip guardTmp entry chunks zcells valD argsV argsW argW argU1 argU0 argsU0 argsU1 calleeOf scalarD scalarU delAll effD St.effS RK_seq RK_seq_ret RK_seq_exit RK_blk RK_blk_ret RK_blk_exit RK_loop RK_loop_ret RK_loop_exit RK_done vs_seq vs_block vs_cond vs_region vs_loop vs_draw applyW mkD rdIds lentIds callOf calleeOf freeOp D.ids Op.operands Call.operands isEffOp makeIfD makeFuncD typeAssertD conc concs conc1 uOfV panicD IntKind.bits allU2 List.take_of_length_le List.range_succ
attribute [local irreducible] V G H HD HD2 HD4 HD4h RetX RunK Eff CallP CallV EndOK Fun Ret FinOK LoopI LoopW EndW
theorem lexF_ok {s : List UInt8} : ∀ (f p : Nat) (l : List Tok), lexF f s p = .ok l → s.length < p + f → p ≤ s.length →
    (∀ (i : Nat) (t : Tok), l[i]? = some t → t.kind ≠ 0 → i + 1 < l.length) ∧ l.length ≤ s.length - p + 1 ∧ 0 < l.length
  | 0, p, l, _, h2, h3 => by omega
  | f + 1, p, l, h, h2, h3 => by
    rw [lexF] at h
    have hle := spanL_le isBlank (s.drop p)
    rw [List.length_drop] at hle
    split at h
    · cases h
      refine ⟨fun i t hi hk => ?_, by simp, by simp⟩
      rcases i with _ | i
      · simp at hi
        subst hi
        exact absurd rfl hk
      · simp at hi
    · rename_i c r hd
      have hdl : (s.drop (p + spanL isBlank (s.drop p))).length = r.length + 1 := by rw [hd]; rfl
      rw [List.length_drop] at hdl
      split at h
      · cases h
      · rename_i t ht
        obtain ⟨ht1, ht2⟩ := nextO_text ht
        simp only [List.length_cons] at ht2
        split at h
        · cases h
        · rename_i l' hl'
          cases h
          obtain ⟨g1, g2, g3⟩ := lexF_ok f _ l' hl' (by omega) (by omega)
          refine ⟨fun i t' hi hk => ?_, by simp only [List.length_cons]; omega, by simp⟩
          rcases i with _ | i
          · simp; exact g3
          · simp only [List.getElem?_cons_succ] at hi
            have := g1 i t' hi hk
            simp only [List.length_cons]
            omega
theorem lexL_ok {s : List UInt8} {l : List Tok} (h : lexL s = .ok l) : TokOK l ∧ l.length ≤ 2001 ∧ 0 < l.length := by
  unfold lexL at h
  split at h
  · cases h
  · obtain ⟨g1, g2, g3⟩ := lexF_ok _ _ _ h (by omega) (by omega)
    exact ⟨⟨g1, by omega⟩, by omega, g3⟩
theorem Exp.lev_mk {op n u : Int} {s : List UInt8} {args : List Exp} {B : Int} (h : ∀ x ∈ args, x.lev ≤ B) (h0 : 0 ≤ B) : (Exp.mk op n u s args).lev ≤ B + 1 := by
  rw [Exp.lev_eq]
  simp only [Exp.args]
  have : ∀ (l : List Int) (a : Int), a ≤ B → (∀ x ∈ l, x ≤ B) → l.foldl max a ≤ B := by
    intro l
    induction l with
    | nil => intro a ha _; exact ha
    | cons b l ih => intro a ha hl; exact ih _ (by have := hl b (by simp); omega) fun x hx => hl x (by simp [hx])
  have := this (args.map Exp.lev) 0 h0 (fun x hx => by obtain ⟨y, hy, rfl⟩ := List.mem_map.1 hx; exact h y hy)
  omega
theorem parse_lev {l : List Tok} : ∀ (f : Nat),
    (∀ p form e q, expP l f p form = .ok e q → e.lev ≤ f * f + 1) ∧
    (∀ form e own p e' q, loopP l f form e own p = .ok e' q → e'.lev ≤ max e.lev (f * f + 1) + f) ∧
    (∀ p form e q, prefixP l f p form = .ok e q → e.1.lev ≤ f * f + 1) ∧
    (∀ p e q, primaryP l f p = .ok e q → e.lev ≤ f * f + 1)
  | 0 => ⟨fun _ _ _ _ h => by simp [expP] at h, fun _ _ _ _ _ _ h => by simp [loopP] at h, fun _ _ _ _ h => by simp [prefixP] at h, fun _ _ _ h => by simp [primaryP] at h⟩
  | f + 1 => by
    obtain ⟨he, hlo, hpr, hpm⟩ := parse_lev f
    have hsq : ((f + 1 : Nat) : Int) * ((f + 1 : Nat) : Int) = (f : Int) * f + 2 * f + 1 := by
      rw [show ((f + 1 : Nat) : Int) = (f : Int) + 1 by omega, Int.add_mul, Int.mul_add]; omega
    rw [hsq]
    have h0 : (0 : Int) ≤ (f : Int) * f := Int.mul_nonneg (by omega) (by omega)
    generalize hF : (f : Int) * f = F at *
    refine ⟨fun p form e q h => ?_, fun form e own p e' q h => ?_, fun p form e q h => ?_, fun p e q h => ?_⟩
    · rw [expP] at h
      obtain ⟨a, r, h1, h2⟩ := PR.bind_out h
      have g1 := hpr _ _ _ _ h1
      have g2 := hlo _ _ _ _ _ _ h2
      omega
    · rw [loopP] at h
      split at h
      · cases h; omega
      · split at h
        · cases h; omega
        · obtain ⟨a, r, h1, h2⟩ := PR.bind_out h
          have g1 := he _ _ _ _ h1
          have g2 := hlo _ _ _ _ _ _ h2
          rename_i x _ _
          have g3 := Exp.lev_mk (op := x.op) (n := 0) (u := 0) (s := []) (args := [e, a]) (B := max e.lev (F + 1)) (by
            intro y hy
            simp only [List.mem_cons, List.not_mem_nil, or_false] at hy
            rcases hy with rfl | rfl <;> omega) (by omega)
          omega
    · rw [prefixP] at h
      split at h
      · obtain ⟨a, r, h1, h⟩ := PR.bind_out h
        obtain ⟨_, r2, h2, h⟩ := PR.bind_out h
        obtain ⟨b, r3, h3, h⟩ := PR.bind_out h
        obtain ⟨_, r4, h4, h⟩ := PR.bind_out h
        obtain ⟨c, r5, h5, h⟩ := PR.bind_out h
        cases h
        have g1 := he _ _ _ _ h1
        have g3 := he _ _ _ _ h3
        have g5 := he _ _ _ _ h5
        have := Exp.lev_mk (op := 13) (n := 0) (u := 0) (s := []) (args := [a, b, c]) (B := F + 1) (by
          intro y hy
          simp only [List.mem_cons, List.not_mem_nil, or_false] at hy
          rcases hy with rfl | rfl | rfl <;> omega) (by omega)
        simp only
        omega
      · split at h
        · obtain ⟨a, r, h1, h⟩ := PR.bind_out h
          cases h
          have g1 := he _ _ _ _ h1
          have := Exp.lev_mk (op := 12) (n := 0) (u := 0) (s := []) (args := [a]) (B := F + 1) (by
            intro y hy
            simp only [List.mem_cons, List.not_mem_nil, or_false] at hy
            rcases hy with rfl; omega) (by omega)
          simp only
          omega
        · obtain ⟨a, r, h1, h⟩ := PR.bind_out h
          cases h
          have g1 := hpm _ _ _ h1
          simp only
          omega
    · have leaf : ∀ (op n u : Int) (s : List UInt8), (Exp.mk op n u s []).lev ≤ F + 2 * f + 1 + 1 := fun op n u s => by
        have := Exp.lev_mk (op := op) (n := n) (u := u) (s := s) (args := []) (B := 0) (by simp) (by omega)
        omega
      rw [primaryP] at h
      split at h
      · cases h
      · split at h
        · obtain ⟨a, r, h1, h⟩ := PR.bind_out h
          cases h; exact leaf ..
        split at h
        · cases h; exact leaf ..
        split at h
        · cases h; exact leaf ..
        split at h
        · obtain ⟨_, r2, h2, h⟩ := PR.bind_out h
          obtain ⟨a, r3, h3, h⟩ := PR.bind_out h
          obtain ⟨_, r4, h4, h⟩ := PR.bind_out h
          obtain ⟨b, r5, h5, h⟩ := PR.bind_out h
          obtain ⟨_, r6, h6, h⟩ := PR.bind_out h
          have g3 := he _ _ _ _ h3
          have g5 := he _ _ _ _ h5
          have := Exp.lev_mk (op := if isB l p [109, 97, 120] = true then 7 else 6) (n := 0) (u := 0) (s := []) (args := [a, b]) (B := F + 1) (by
            intro y hy
            simp only [List.mem_cons, List.not_mem_nil, or_false] at hy
            rcases hy with rfl | rfl <;> omega) (by omega)
          cases h
          omega
        split at h
        · obtain ⟨a, r3, h3, h⟩ := PR.bind_out h
          obtain ⟨_, r4, h4, h⟩ := PR.bind_out h
          cases h
          have g3 := he _ _ _ _ h3
          omega
        split at h
        · cases h; exact leaf ..
        · cases h
def kindAt (l : List Tok) (p : Nat) : Int := match l[p]? with | some t => t.kind | none => 0
def zeroE : Exp := .mk 0 0 0 [] []

theorem number_ret (l : List Tok) (p : Nat) (a b : Int) (i nx : Nat) (hi : i < nx) (hp : p < l.length) (hl : TokOK l) :
    RetX Tryz.prog 201 [.ptr i 0, intD a, intD b] [(i, pOb l p)] nx (PPost l i nx intD (numP l p a b)) := by
  have hne := ne_facts hi
  obtain ⟨t, ht⟩ : ∃ t, l[p]? = some t := ⟨_, List.getElem?_eq_getElem hp⟩
  have hnx := pnext_fun l p t ht hl.len
  have hll := hl.len
  have hc1 := fun e nx' (h : nx ≤ nx') => check_ok l p e i nx' (by omega)
  have hc2 := fun e nx' (h : nx ≤ nx') => check_pan l p t e i nx' (by omega) ht hl.len
  rw [numP, ht]
  by_cases hk2 : t.kind = 2
  · simp only [hk2, if_true]
    by_cases h1 : a ≤ t.n
    · by_cases h2 : t.n ≤ b
      · simp only [h1, h2, and_self, if_true]
        (refine RetX.of_bodyW Tryz.func201 rfl (by simp) fun Γ hn hpan => ?_); simp only [entry, List.zipIdx_cons, List.zipIdx_nil, List.map_cons, List.map_nil, Nat.zero_add, Tryz.ntmps201]
        repeat' (first
    | (refine H_cons ?_; simp [hne, hk2, h1, h2, del])
    | (refine H_nil ?_; simp [hne, hk2, h1, h2, del])
    | (refine ⟨by omega, ?_⟩)
    | (refine V_sseq ?_; simp [hne, hk2, h1, h2, del])
    | (refine V_ret ?_; simp only [RunK])
    | (refine CallP.fun_ (hnx) (by first | rfl | fail) (by first | assumption | (simp; done) | fail) (by first | (simp [hne, hk2, h1, h2, del]; done) | (simp [hne, hk2, h1, h2, del]; rfl) | fail) (by first | (simp; done) | fail) (fun d hd => ?_); subst hd; (try simp [hne, hk2, h1, h2, del]))
    | (refine CallP.ok1 (hc1 _ _ (by first | omega | (simp; done) | (simp; omega) | fail)) (by first | (simp [hne, hk2, h1, h2, del, getK_cons, getK, getK_append, getK_del]; done) | fail) (by rfl) (by first | assumption | (simp; done) | fail) (by rfl) (by simp) ?_; (try simp [hne, hk2, h1, h2, del]))
    | fail)
        (refine EndW.here ?_; (first | (refine EndOK.fin (.inr rfl) ?_) | (refine EndOK.fin (.inl rfl) ?_)); simp [resD, oneOrTup, Tryz.results201, hne, hi]; refine FinOK.cut [(i, pOb l (p + 1))] (nx) (by simp [getK_cons, getK, getK_append, getK_del, Ob.under, D.under, under_rowsD, under_entD, hne, hi] <;> omega) (by simp [D.under]) (by simp [hn]) ?_; try simp)
        exact PPost.at_ok rfl rfl rfl
      · simp only [h1, h2, and_false, if_false]
        (refine RetX.of_bodyW Tryz.func201 rfl (by simp) fun Γ hn hpan => ?_); simp only [entry, List.zipIdx_cons, List.zipIdx_nil, List.map_cons, List.map_nil, Nat.zero_add, Tryz.ntmps201]
        repeat' (first
    | (refine H_cons ?_; simp [hne, hk2, h1, h2, del])
    | (refine H_nil ?_; simp [hne, hk2, h1, h2, del])
    | (refine V_sseq ?_; simp [hne, hk2, h1, h2, del])
    | (refine CallP.fun_ (hnx) (by first | rfl | fail) (by first | assumption | (simp; done) | fail) (by first | (simp [hne, hk2, h1, h2, del]; done) | (simp [hne, hk2, h1, h2, del]; rfl) | fail) (by first | (simp; done) | fail) (fun d hd => ?_); subst hd; (try simp [hne, hk2, h1, h2, del]))
    | (refine CallP.ok1 (hc1 _ _ (by first | omega | (simp; done) | (simp; omega) | fail)) (by first | (simp [hne, hk2, h1, h2, del, getK_cons, getK, getK_append, getK_del]; done) | fail) (by rfl) (by first | assumption | (simp; done) | fail) (by rfl) (by simp) ?_; (try simp [hne, hk2, h1, h2, del]))
    | (refine CallP.pan1 (hc2 _ _ (by first | omega | (simp; done) | (simp; omega) | fail)) (by first | (simp [hne, hk2, h1, h2, del, getK_cons, getK, getK_append, getK_del]; done) | fail) (by rfl) (by first | assumption | (simp; done) | fail) (by rfl) (by simp) ?_; rintro ob' ⟨q', rfl⟩; refine ⟨_, Wk.refl _, ?_⟩)
    | fail)
        (refine hpan _ _ ⟨{ n := _, env := [], obs := [(i, pOb l q')], next := nx }, (Wk.cut rfl (by simp [hn]) (by simp [wkO, getK_cons, getK, getK_append, getK_del, Ob.under, D.under, under_rowsD, under_entD, hi, hne, getK_append, getK_del, getK_cons, getK]) (by simp [wkU, keepE, getK_cons, getK, D.under, hi, hne, getK_append, getK_del, getK_cons, getK]) (by simp [wkE, keepE, getK_cons, getK, hi, hne, getK_append, getK_del, getK_cons, getK])), by simp [hn], ?_⟩; try simp)
        exact PPost.at_stop (by simp [PR.bind, *])
    · simp only [h1, false_and, if_false]
      (refine RetX.of_bodyW Tryz.func201 rfl (by simp) fun Γ hn hpan => ?_); simp only [entry, List.zipIdx_cons, List.zipIdx_nil, List.map_cons, List.map_nil, Nat.zero_add, Tryz.ntmps201]
      repeat' (first
    | (refine H_cons ?_; simp [hne, hk2, h1, del])
    | (refine H_nil ?_; simp [hne, hk2, h1, del])
    | (refine V_sseq ?_; simp [hne, hk2, h1, del])
    | (refine CallP.fun_ (hnx) (by first | rfl | fail) (by first | assumption | (simp; done) | fail) (by first | (simp [hne, hk2, h1, del]; done) | (simp [hne, hk2, h1, del]; rfl) | fail) (by first | (simp; done) | fail) (fun d hd => ?_); subst hd; (try simp [hne, hk2, h1, del]))
    | (refine CallP.ok1 (hc1 _ _ (by first | omega | (simp; done) | (simp; omega) | fail)) (by first | (simp [hne, hk2, h1, del, getK_cons, getK, getK_append, getK_del]; done) | fail) (by rfl) (by first | assumption | (simp; done) | fail) (by rfl) (by simp) ?_; (try simp [hne, hk2, h1, del]))
    | (refine CallP.pan1 (hc2 _ _ (by first | omega | (simp; done) | (simp; omega) | fail)) (by first | (simp [hne, hk2, h1, del, getK_cons, getK, getK_append, getK_del]; done) | fail) (by rfl) (by first | assumption | (simp; done) | fail) (by rfl) (by simp) ?_; rintro ob' ⟨q', rfl⟩; refine ⟨_, Wk.refl _, ?_⟩)
    | fail)
      (refine hpan _ _ ⟨{ n := _, env := [], obs := [(i, pOb l q')], next := nx }, (Wk.cut rfl (by simp [hn]) (by simp [wkO, getK_cons, getK, getK_append, getK_del, Ob.under, D.under, under_rowsD, under_entD, hi, hne, getK_append, getK_del, getK_cons, getK]) (by simp [wkU, keepE, getK_cons, getK, D.under, hi, hne, getK_append, getK_del, getK_cons, getK]) (by simp [wkE, keepE, getK_cons, getK, hi, hne, getK_append, getK_del, getK_cons, getK])), by simp [hn], ?_⟩; try simp)
      exact PPost.at_stop (by simp [PR.bind, *])
  · simp only [hk2, if_false]
    (refine RetX.of_bodyW Tryz.func201 rfl (by simp) fun Γ hn hpan => ?_); simp only [entry, List.zipIdx_cons, List.zipIdx_nil, List.map_cons, List.map_nil, Nat.zero_add, Tryz.ntmps201]
    repeat' (first
    | (refine H_cons ?_; simp [hne, hk2, del])
    | (refine H_nil ?_; simp [hne, hk2, del])
    | (refine V_sseq ?_; simp [hne, hk2, del])
    | (refine CallP.fun_ (hnx) (by first | rfl | fail) (by first | assumption | (simp; done) | fail) (by first | (simp [hne, hk2, del]; done) | (simp [hne, hk2, del]; rfl) | fail) (by first | (simp; done) | fail) (fun d hd => ?_); subst hd; (try simp [hne, hk2, del]))
    | (refine CallP.pan1 (hc2 _ _ (by first | omega | (simp; done) | (simp; omega) | fail)) (by first | (simp [hne, hk2, del, getK_cons, getK, getK_append, getK_del]; done) | fail) (by rfl) (by first | assumption | (simp; done) | fail) (by rfl) (by simp) ?_; rintro ob' ⟨q', rfl⟩; refine ⟨_, Wk.refl _, ?_⟩)
    | fail)
    (refine hpan _ _ ⟨{ n := _, env := [], obs := [(i, pOb l q')], next := nx }, (Wk.cut rfl (by simp [hn]) (by simp [wkO, getK_cons, getK, getK_append, getK_del, Ob.under, D.under, under_rowsD, under_entD, hi, hne, getK_append, getK_del, getK_cons, getK]) (by simp [wkU, keepE, getK_cons, getK, D.under, hi, hne, getK_append, getK_del, getK_cons, getK]) (by simp [wkE, keepE, getK_cons, getK, hi, hne, getK_append, getK_del, getK_cons, getK])), by simp [hn], ?_⟩; try simp)
    exact PPost.at_stop (by simp [PR.bind, *])
theorem numP_le {l : List Tok} (hl : TokOK l) {p q : Nat} {a b n : Int} (h : numP l p a b = .ok n q) : p ≤ q ∧ q < l.length := by
  unfold numP at h
  split at h
  · cases h
  · rename_i t ht
    split at h
    · rename_i hk2
      split at h
      · cases h
        exact ⟨by omega, hl.fin p t ht (by omega)⟩
      · cases h
    · cases h
theorem part_ret (l : List Tok) (p : Nat) (w : List UInt8) (a b : Int) (ws : List (List UInt8)) (i nx : Nat) (hi : i < nx) (hp : p < l.length) (hl : TokOK l) (hw : ws.length ≤ 100) :
    RetX Tryz.prog 125 [.ptr i 0, .u (.str w), intD a, intD b, .u (.sl (ws.map fun w => [.str w]))] [(i, pOb l p)] nx (PPost l i nx intD (partP l p w a b ws)) := by
  have hne := ne_facts hi
  have hh1 := fun nx' (h : nx ≤ nx') => has_ret l p w i nx' (by omega) hp hl.len
  rw [partP]
  cases hb : isB l p w with
  | false =>
    simp only [hb, Bool.false_eq_true, if_false] at hh1 ⊢
    (refine RetX.of_bodyW Tryz.func125 rfl (by simp) fun Γ hn hpan => ?_); simp only [entry, List.zipIdx_cons, List.zipIdx_nil, List.map_cons, List.map_nil, Nat.zero_add, Tryz.ntmps125]
    repeat' (first
    | (refine H_cons ?_; simp [hne, del])
    | (refine H_nil ?_; simp [hne, del])
    | (refine V_sseq ?_; simp [hne, del])
    | (refine V_scond ?_; simp [hne, del])
    | (refine V_ret ?_; simp only [RunK])
    | (refine CallP.ok1 (hh1 _ (by first | omega | (simp; done) | (simp; omega) | fail)) (by first | (simp [hne, del, getK_cons, getK, getK_append, getK_del]; done) | fail) (by rfl) (by first | assumption | (simp; done) | fail) (by rfl) (by simp) ?_; (try simp [hne, del]))
    | fail)
    (refine EndW.here ?_; (first | (refine EndOK.fin (.inr rfl) ?_) | (refine EndOK.fin (.inl rfl) ?_)); simp [resD, oneOrTup, Tryz.results125, hne, hi]; refine FinOK.cut [(i, pOb l p)] (nx) (by simp [getK_cons, getK, getK_append, getK_del, Ob.under, D.under, under_rowsD, under_entD, hne, hi] <;> omega) (by simp [D.under]) (by simp [hn]) ?_; try simp)
    exact PPost.at_ok rfl rfl rfl
  | true =>
    have hp2 := isB_lt hl hb
    simp only [hb, if_true] at hh1 ⊢
    have hn1 := fun nx' (h : nx ≤ nx') => number_ret l (p + 1) a b i nx' (by omega) hp2 hl
    cases hr0 : numP l (p + 1) a b with
    | stop pos e =>
      simp only [hr0] at hn1
      (refine RetX.of_bodyW Tryz.func125 rfl (by simp) fun Γ hn hpan => ?_); simp only [entry, List.zipIdx_cons, List.zipIdx_nil, List.map_cons, List.map_nil, Nat.zero_add, Tryz.ntmps125]
      repeat' (first
    | (refine H_cons ?_; simp [hne, del])
    | (refine H_nil ?_; simp [hne, del])
    | (refine V_sseq ?_; simp [hne, del])
    | (refine V_scond ?_; simp [hne, del])
    | (refine V_skip ?_; simp only [RunK])
    | (refine CallP.ok1 (hh1 _ (by first | omega | (simp; done) | (simp; omega) | fail)) (by first | (simp [hne, del, getK_cons, getK, getK_append, getK_del]; done) | fail) (by rfl) (by first | assumption | (simp; done) | fail) (by rfl) (by simp) ?_; (try simp [hne, del]))
    | (refine CallP.pan1 (hn1 _ (by first | omega | (simp; done) | (simp; omega) | fail)) (by first | (simp [hne, del, getK_cons, getK, getK_append, getK_del]; done) | fail) (by rfl) (by first | assumption | (simp; done) | fail) (by rfl) (by simp) ?_; rintro ob' ⟨q', rfl⟩; refine ⟨_, Wk.refl _, ?_⟩)
    | fail)
      (refine hpan _ _ ⟨{ n := _, env := [], obs := [(i, pOb l q')], next := nx }, (Wk.cut rfl (by simp [hn]) (by simp [wkO, getK_cons, getK, getK_append, getK_del, Ob.under, D.under, under_rowsD, under_entD, hi, hne, getK_append, getK_del, getK_cons, getK]) (by simp [wkU, keepE, getK_cons, getK, D.under, hi, hne, getK_append, getK_del, getK_cons, getK]) (by simp [wkE, keepE, getK_cons, getK, hi, hne, getK_append, getK_del, getK_cons, getK])), by simp [hn], ?_⟩; try simp)
      exact PPost.at_stop (by simp [PR.bind, *])
    | ok n q0 =>
      simp only [hr0] at hn1
      obtain ⟨g0a, g0b⟩ := numP_le hl hr0
      have hw1 := fun nx' (h : nx ≤ nx') => want_ret l q0 ws i nx' (by omega) g0b hl hw
      cases hr1 : wantP l q0 ws with
      | stop pos e =>
        simp only [hr1] at hw1
        (refine RetX.of_bodyW Tryz.func125 rfl (by simp) fun Γ hn hpan => ?_); simp only [entry, List.zipIdx_cons, List.zipIdx_nil, List.map_cons, List.map_nil, Nat.zero_add, Tryz.ntmps125]
        repeat' (first
    | (refine H_cons ?_; simp [hne, del])
    | (refine H_nil ?_; simp [hne, del])
    | (refine V_sseq ?_; simp [hne, del])
    | (refine V_scond ?_; simp [hne, del])
    | (refine V_skip ?_; simp only [RunK])
    | (refine CallP.ok1 (hh1 _ (by first | omega | (simp; done) | (simp; omega) | fail)) (by first | (simp [hne, del, getK_cons, getK, getK_append, getK_del]; done) | fail) (by rfl) (by first | assumption | (simp; done) | fail) (by rfl) (by simp) ?_; (try simp [hne, del]))
    | (refine CallP.ok1 (hn1 _ (by first | omega | (simp; done) | (simp; omega) | fail)) (by first | (simp [hne, del, getK_cons, getK, getK_append, getK_del]; done) | fail) (by rfl) (by first | assumption | (simp; done) | fail) (by rfl) (by simp) ?_; (try simp [hne, del]))
    | (refine CallP.pan1 (hw1 _ (by first | omega | (simp; done) | (simp; omega) | fail)) (by first | (simp [hne, del, getK_cons, getK, getK_append, getK_del]; done) | fail) (by rfl) (by first | assumption | (simp; done) | fail) (by rfl) (by simp) ?_; rintro ob' ⟨q', rfl⟩; refine ⟨_, Wk.refl _, ?_⟩)
    | fail)
        (refine hpan _ _ ⟨{ n := _, env := [], obs := [(i, pOb l q')], next := nx }, (Wk.cut rfl (by simp [hn]) (by simp [wkO, getK_cons, getK, getK_append, getK_del, Ob.under, D.under, under_rowsD, under_entD, hi, hne, getK_append, getK_del, getK_cons, getK]) (by simp [wkU, keepE, getK_cons, getK, D.under, hi, hne, getK_append, getK_del, getK_cons, getK]) (by simp [wkE, keepE, getK_cons, getK, hi, hne, getK_append, getK_del, getK_cons, getK])), by simp [hn], ?_⟩; try simp)
        exact PPost.at_stop (by simp [PR.bind, *])
      | ok u q =>
        simp only [hr1] at hw1
        (refine RetX.of_bodyW Tryz.func125 rfl (by simp) fun Γ hn hpan => ?_); simp only [entry, List.zipIdx_cons, List.zipIdx_nil, List.map_cons, List.map_nil, Nat.zero_add, Tryz.ntmps125]
        repeat' (first
    | (refine H_cons ?_; simp [hne, del])
    | (refine H_nil ?_; simp [hne, del])
    | (refine V_sseq ?_; simp [hne, del])
    | (refine V_scond ?_; simp [hne, del])
    | (refine V_ret ?_; simp only [RunK])
    | (refine V_skip ?_; simp only [RunK])
    | (refine CallP.ok1 (hh1 _ (by first | omega | (simp; done) | (simp; omega) | fail)) (by first | (simp [hne, del, getK_cons, getK, getK_append, getK_del]; done) | fail) (by rfl) (by first | assumption | (simp; done) | fail) (by rfl) (by simp) ?_; (try simp [hne, del]))
    | (refine CallP.ok1 (hn1 _ (by first | omega | (simp; done) | (simp; omega) | fail)) (by first | (simp [hne, del, getK_cons, getK, getK_append, getK_del]; done) | fail) (by rfl) (by first | assumption | (simp; done) | fail) (by rfl) (by simp) ?_; (try simp [hne, del]))
    | (refine CallP.ok1 (hw1 _ (by first | omega | (simp; done) | (simp; omega) | fail)) (by first | (simp [hne, del, getK_cons, getK, getK_append, getK_del]; done) | fail) (by rfl) (by first | assumption | (simp; done) | fail) (by rfl) (by simp) ?_; (try simp [hne, del]))
    | fail)
        (refine EndW.here ?_; (first | (refine EndOK.fin (.inr rfl) ?_) | (refine EndOK.fin (.inl rfl) ?_)); simp [resD, oneOrTup, Tryz.results125, hne, hi]; refine FinOK.cut [(i, pOb l q)] (nx) (by simp [getK_cons, getK, getK_append, getK_del, Ob.under, D.under, under_rowsD, under_entD, hne, hi] <;> omega) (by simp [D.under]) (by simp [hn]) ?_; try simp)
        exact PPost.at_ok (by simp [PR.bind, *]) rfl rfl
theorem partP_le {l : List Tok} (hl : TokOK l) {p q : Nat} {w : List UInt8} {a b n : Int} {ws : List (List UInt8)} (h : partP l p w a b ws = .ok n q) (hp : p < l.length) : p ≤ q ∧ q < l.length := by
  unfold partP at h
  split at h
  · obtain ⟨m, r, h1, h⟩ := PR.bind_out h
    have g1 := numP_le hl h1
    obtain ⟨m2, r2, h2, h⟩ := PR.bind_out h
    have g2 := wantP_le hl _ h2 g1.2
    cases h
    exact ⟨by omega, g2.2⟩
  · cases h; exact ⟨by omega, hp⟩
theorem whole_ret (l : List Tok) (p : Nat) (i nx : Nat) (hi : i < nx) (hp : p < l.length) (hl : TokOK l) (hl2 : l.length ≤ 2001) :
    RetX Tryz.prog 130 [.ptr i 0] [(i, pOb l p)] nx (PPost l i nx expD (wholeP l p)) := by
  have hne := ne_facts hi
  have hll := hl.len
  rw [wholeP]
  have hE := fun nx' (h : nx ≤ nx') => (parse_all hl (4 * l.length + 3)).1 p 0 i nx' (by omega) hp (by omega) (by omega) (by omega)
  cases hr : expP l (4 * l.length + 3) p 0 with
  | stop pos e =>
    simp only [hr] at hE
    (refine RetX.of_bodyW Tryz.func130 rfl (by simp) fun Γ hn hpan => ?_); simp only [entry, List.zipIdx_cons, List.zipIdx_nil, List.map_cons, List.map_nil, Nat.zero_add, Tryz.ntmps130]
    repeat' (first
    | (refine H_cons ?_; simp [hne, del])
    | (refine H_nil ?_; simp [hne, del])
    | (refine V_sseq ?_; simp [hne, del])
    | (refine CallP.pan1 (hE _ (by first | omega | (simp; done) | (simp; omega) | fail)) (by first | (simp [hne, del, getK_cons, getK, getK_append, getK_del]; done) | fail) (by rfl) (by first | assumption | (simp; done) | fail) (by rfl) (by simp) ?_; rintro ob' ⟨q', rfl⟩; refine ⟨_, Wk.refl _, ?_⟩)
    | fail)
    (refine hpan _ _ ⟨{ n := _, env := [], obs := [(i, pOb l q')], next := nx }, (Wk.cut rfl (by simp [hn]) (by simp [wkO, getK_cons, getK, getK_append, getK_del, Ob.under, D.under, under_rowsD, under_entD, hi, hne, getK_append, getK_del, getK_cons, getK]) (by simp [wkU, keepE, getK_cons, getK, D.under, hi, hne, getK_append, getK_del, getK_cons, getK]) (by simp [wkE, keepE, getK_cons, getK, hi, hne, getK_append, getK_del, getK_cons, getK])), by simp [hn], ?_⟩; try simp)
    exact PPost.at_stop (by simp [PR.bind, *])
  | ok y q =>
    have hEx := fun nx' h => exp_ok (hE nx' h) hr
    obtain ⟨g0a, g0b⟩ := (parse_le hl _).1 _ _ _ _ hr hp
    have hlev := (parse_lev (l := l) _).1 _ _ _ _ hr
    have hlev2 : y.lev ≤ 1000000000 := by
      have h1 : ((4 * l.length + 3 : Nat) : Int) * ((4 * l.length + 3 : Nat) : Int) ≤ 8007 * 8007 := Int.mul_le_mul (by omega) (by omega) (by omega) (by omega)
      omega
    have hlv := levels_all (SizeOf.sizeOf y) y (Nat.le_refl _) hlev2
    rw [Exp.row_eq] at hlv
    obtain ⟨t, ht⟩ : ∃ t, l[q]? = some t := ⟨_, List.getElem?_eq_getElem g0b⟩
    have his := is_fun l q [59] g0b hl.len
    have hpa : posAt l q = t.pos := by unfold posAt; rw [ht]
    have hc1 := fun e nx' (h : nx ≤ nx') => check_ok l q e i nx' (by omega)
    have hc2 := fun e nx' (h : nx ≤ nx') => check_pan l q t e i nx' (by omega) ht hl.len
    rw [PR.bind_ok, hpa]
    cases hb : isB l q [59] with
    | false =>
      simp only [hb, Bool.false_eq_true, if_false] at his ⊢
      (refine RetX.of_bodyW Tryz.func130 rfl (by simp) fun Γ hn hpan => ?_); simp only [entry, List.zipIdx_cons, List.zipIdx_nil, List.map_cons, List.map_nil, Nat.zero_add, Tryz.ntmps130]
      repeat' (first
    | (refine H_cons ?_; simp [hne, del])
    | (refine H_nil ?_; simp [hne, del])
    | (refine V_sseq ?_; simp [hne, del])
    | (refine CallP.fun_ (his) (by first | rfl | fail) (by first | assumption | (simp; done) | fail) (by first | (simp [hne, del]; done) | (simp [hne, del]; rfl) | fail) (by first | (simp; done) | fail) (fun d hd => ?_); subst hd; (try simp [hne, del]))
    | (refine CallP.ok1 (hEx _ (by first | omega | (simp; done) | (simp; omega) | fail)) (by first | (simp [hne, del, getK_cons, getK, getK_append, getK_del]; done) | fail) (by rfl) (by first | assumption | (simp; done) | fail) (by rfl) (by simp) ?_; (try simp [hne, del]))
    | (refine CallP.pan1 (hc2 _ _ (by first | omega | (simp; done) | (simp; omega) | fail)) (by first | (simp [hne, del, getK_cons, getK, getK_append, getK_del]; done) | fail) (by rfl) (by first | assumption | (simp; done) | fail) (by rfl) (by simp) ?_; rintro ob' ⟨q', rfl⟩; refine ⟨_, Wk.refl _, ?_⟩)
    | fail)
      (refine hpan _ _ ⟨{ n := _, env := [], obs := [(i, pOb l q')], next := nx }, (Wk.cut rfl (by simp [hn]) (by simp [wkO, getK_cons, getK, getK_append, getK_del, Ob.under, D.under, under_rowsD, under_entD, hi, hne, getK_append, getK_del, getK_cons, getK]) (by simp [wkU, keepE, getK_cons, getK, D.under, hi, hne, getK_append, getK_del, getK_cons, getK]) (by simp [wkE, keepE, getK_cons, getK, hi, hne, getK_append, getK_del, getK_cons, getK])), by simp [hn], ?_⟩; try simp)
      exact PPost.at_stop (by simp [PR.bind, *])
    | true =>
      have hq2 := isB_lt hl hb
      simp only [hb, if_true] at his ⊢
      by_cases hv : y.lev ≤ 12
      · simp only [hv, if_true]
        (refine RetX.of_bodyW Tryz.func130 rfl (by simp) fun Γ hn hpan => ?_); simp only [entry, List.zipIdx_cons, List.zipIdx_nil, List.map_cons, List.map_nil, Nat.zero_add, Tryz.ntmps130]
        repeat' (first
    | (refine H_cons ?_; simp [hne, del, hv])
    | (refine H_nil ?_; simp [hne, del, hv])
    | (refine ⟨by omega, ?_⟩)
    | (refine V_sseq ?_; simp [hne, del, hv])
    | (refine V_ret ?_; simp only [RunK])
    | (refine CallP.fun_ (his) (by first | rfl | fail) (by first | assumption | (simp; done) | fail) (by first | (simp [hne, del, hv]; done) | (simp [hne, del, hv]; rfl) | fail) (by first | (simp; done) | fail) (fun d hd => ?_); subst hd; (try simp [hne, del, hv]))
    | (refine CallP.fun_ (hlv) (by first | rfl | fail) (by first | assumption | (simp; done) | fail) (by first | (simp [hne, del, hv]; done) | (simp [hne, del, hv]; rfl) | fail) (by first | (simp; done) | fail) (fun d hd => ?_); subst hd; (try simp [hne, del, hv]))
    | (refine CallP.ok1 (hEx _ (by first | omega | (simp; done) | (simp; omega) | fail)) (by first | (simp [hne, del, hv, getK_cons, getK, getK_append, getK_del]; done) | fail) (by rfl) (by first | assumption | (simp; done) | fail) (by rfl) (by simp) ?_; (try simp [hne, del, hv]))
    | (refine CallP.ok1 (hc1 _ _ (by first | omega | (simp; done) | (simp; omega) | fail)) (by first | (simp [hne, del, hv, getK_cons, getK, getK_append, getK_del]; done) | fail) (by rfl) (by first | assumption | (simp; done) | fail) (by rfl) (by simp) ?_; (try simp [hne, del, hv]))
    | fail)
        refine EndW.norm ?_
        simp [St.norm, normOb, normD, normU, norm1, hne, Nat.add_assoc]
        (refine EndW.here ?_; (first | (refine EndOK.fin (.inr rfl) ?_) | (refine EndOK.fin (.inl rfl) ?_)); simp [resD, oneOrTup, Tryz.results130, hne, hi]; refine FinOK.cut [(i, pOb l (q + 1))] (nx) (by simp [getK_cons, getK, getK_append, getK_del, Ob.under, D.under, under_rowsD, under_entD, hne, hi] <;> omega) (by simp [D.under]) (by simp [hn]) ?_; try simp)
        exact PPost.at_ok rfl (by simp [Exp.row_eq]) rfl
      · simp only [hv, if_false]
        (refine RetX.of_bodyW Tryz.func130 rfl (by simp) fun Γ hn hpan => ?_); simp only [entry, List.zipIdx_cons, List.zipIdx_nil, List.map_cons, List.map_nil, Nat.zero_add, Tryz.ntmps130]
        repeat' (first
    | (refine H_cons ?_; simp [hne, del, hv])
    | (refine H_nil ?_; simp [hne, del, hv])
    | (refine V_sseq ?_; simp [hne, del, hv])
    | (refine CallP.fun_ (his) (by first | rfl | fail) (by first | assumption | (simp; done) | fail) (by first | (simp [hne, del, hv]; done) | (simp [hne, del, hv]; rfl) | fail) (by first | (simp; done) | fail) (fun d hd => ?_); subst hd; (try simp [hne, del, hv]))
    | (refine CallP.fun_ (hlv) (by first | rfl | fail) (by first | assumption | (simp; done) | fail) (by first | (simp [hne, del, hv]; done) | (simp [hne, del, hv]; rfl) | fail) (by first | (simp; done) | fail) (fun d hd => ?_); subst hd; (try simp [hne, del, hv]))
    | (refine CallP.ok1 (hEx _ (by first | omega | (simp; done) | (simp; omega) | fail)) (by first | (simp [hne, del, hv, getK_cons, getK, getK_append, getK_del]; done) | fail) (by rfl) (by first | assumption | (simp; done) | fail) (by rfl) (by simp) ?_; (try simp [hne, del, hv]))
    | (refine CallP.ok1 (hc1 _ _ (by first | omega | (simp; done) | (simp; omega) | fail)) (by first | (simp [hne, del, hv, getK_cons, getK, getK_append, getK_del]; done) | fail) (by rfl) (by first | assumption | (simp; done) | fail) (by rfl) (by simp) ?_; (try simp [hne, del, hv]))
    | (refine CallP.pan1 (hc2 _ _ (by first | omega | (simp; done) | (simp; omega) | fail)) (by first | (simp [hne, del, hv, getK_cons, getK, getK_append, getK_del]; done) | fail) (by rfl) (by first | assumption | (simp; done) | fail) (by rfl) (by simp) ?_; rintro ob' ⟨q', rfl⟩; refine ⟨_, Wk.refl _, ?_⟩)
    | fail)
        (refine hpan _ _ ⟨{ n := _, env := [], obs := [(i, pOb l q')], next := nx }, (Wk.cut rfl (by simp [hn]) (by simp [wkO, getK_cons, getK, getK_append, getK_del, Ob.under, D.under, under_rowsD, under_entD, hi, hne, getK_append, getK_del, getK_cons, getK]) (by simp [wkU, keepE, getK_cons, getK, D.under, hi, hne, getK_append, getK_del, getK_cons, getK]) (by simp [wkE, keepE, getK_cons, getK, hi, hne, getK_append, getK_del, getK_cons, getK])), by simp [hn], ?_⟩; try simp)
        exact PPost.at_stop (by simp [PR.bind, *])
theorem wholeP_le {l : List Tok} (hl : TokOK l) {p q : Nat} {e : Exp} (h : wholeP l p = .ok e q) (hp : p < l.length) : p ≤ q ∧ q < l.length := by
  unfold wholeP at h
  obtain ⟨y, r, h1, h⟩ := PR.bind_out h
  have g1 := (parse_le hl _).1 _ _ _ _ h1 hp
  split at h
  · rename_i hb
    split at h
    · cases h
      exact ⟨by omega, isB_lt hl hb⟩
    · cases h
  · cases h
theorem nothing_fun : Fun Tryz.prog 72 [] (· = .u (.agg nothingE.row)) := by
  simp only [nothingE, Exp.row, List.map_nil]
  (refine Fun.of_bodyW Tryz.func72 rfl (by simp) fun Γ hn => ?_); simp only [entry, List.zipIdx_cons, List.zipIdx_nil, List.map_cons, List.map_nil, Nat.zero_add, Tryz.ntmps72]
  repeat' (first
    | (refine H_cons ?_; simp)
    | (refine H_nil ?_; simp)
    | (refine V_sseq ?_; simp)
    | (refine V_ret ?_; simp only [RunK])
    | fail)
  refine EndW.norm ?_
  simp [St.norm, normOb, normD, normU, norm1]
  refine EndW.here ?_
  (refine EndOK.val (.inr rfl) ?_; simp [resD, oneOrTup, pureD, Tryz.results72])
theorem clause_ret (l : List Tok) (p : Nat) (w : List UInt8) (i nx : Nat) (hi : i < nx) (hp : p < l.length) (hl : TokOK l) (hl2 : l.length ≤ 2001) :
    RetX Tryz.prog 131 [.ptr i 0, .u (.str w)] [(i, pOb l p)] nx (PPost l i nx expD (clauseP l p w)) := by
  have hne := ne_facts hi
  have hh1 := fun nx' (h : nx ≤ nx') => has_ret l p w i nx' (by omega) hp hl.len
  rw [clauseP]
  cases hb : isB l p w with
  | false =>
    have h0 := nothing_fun
    simp only [nothingE, Exp.row, List.map_nil] at h0
    simp only [hb, Bool.false_eq_true, if_false] at hh1 ⊢
    (refine RetX.of_bodyW Tryz.func131 rfl (by simp) fun Γ hn hpan => ?_); simp only [entry, List.zipIdx_cons, List.zipIdx_nil, List.map_cons, List.map_nil, Nat.zero_add, Tryz.ntmps131]
    repeat' (first
    | (refine H_cons ?_; simp [hne, del])
    | (refine H_nil ?_; simp [hne, del])
    | (refine V_sseq ?_; simp [hne, del])
    | (refine V_scond ?_; simp [hne, del])
    | (refine V_ret ?_; simp only [RunK])
    | (refine V_skip ?_; simp only [RunK])
    | (refine CallP.fun_ (h0) (by first | rfl | fail) (by first | assumption | (simp; done) | fail) (by first | (simp [hne, del]; done) | (simp [hne, del]; rfl) | fail) (by first | (simp; done) | fail) (fun d hd => ?_); subst hd; (try simp [hne, del]))
    | (refine CallP.ok1 (hh1 _ (by first | omega | (simp; done) | (simp; omega) | fail)) (by first | (simp [hne, del, getK_cons, getK, getK_append, getK_del]; done) | fail) (by rfl) (by first | assumption | (simp; done) | fail) (by rfl) (by simp) ?_; (try simp [hne, del]))
    | fail)
    refine EndW.norm ?_
    simp [St.norm, normOb, normD, normU, norm1, hne, Nat.add_assoc]
    (refine EndW.here ?_; (first | (refine EndOK.fin (.inr rfl) ?_) | (refine EndOK.fin (.inl rfl) ?_)); simp [resD, oneOrTup, Tryz.results131, hne, hi]; refine FinOK.cut [(i, pOb l p)] (nx) (by simp [getK_cons, getK, getK_append, getK_del, Ob.under, D.under, under_rowsD, under_entD, hne, hi] <;> omega) (by simp [D.under]) (by simp [hn]) ?_; try simp)
    exact PPost.at_ok rfl (by simp [nothingE, Exp.row]) rfl
  | true =>
    have hp2 := isB_lt hl hb
    simp only [hb, if_true] at hh1 ⊢
    have hn1 := fun nx' (h : nx ≤ nx') => whole_ret l (p + 1) i nx' (by omega) hp2 hl hl2
    cases hr0 : wholeP l (p + 1) with
    | stop pos e =>
      simp only [hr0] at hn1
      (refine RetX.of_bodyW Tryz.func131 rfl (by simp) fun Γ hn hpan => ?_); simp only [entry, List.zipIdx_cons, List.zipIdx_nil, List.map_cons, List.map_nil, Nat.zero_add, Tryz.ntmps131]
      repeat' (first
    | (refine H_cons ?_; simp [hne, del])
    | (refine H_nil ?_; simp [hne, del])
    | (refine V_sseq ?_; simp [hne, del])
    | (refine V_scond ?_; simp [hne, del])
    | (refine CallP.ok1 (hh1 _ (by first | omega | (simp; done) | (simp; omega) | fail)) (by first | (simp [hne, del, getK_cons, getK, getK_append, getK_del]; done) | fail) (by rfl) (by first | assumption | (simp; done) | fail) (by rfl) (by simp) ?_; (try simp [hne, del]))
    | (refine CallP.pan1 (hn1 _ (by first | omega | (simp; done) | (simp; omega) | fail)) (by first | (simp [hne, del, getK_cons, getK, getK_append, getK_del]; done) | fail) (by rfl) (by first | assumption | (simp; done) | fail) (by rfl) (by simp) ?_; rintro ob' ⟨q', rfl⟩; refine ⟨_, Wk.refl _, ?_⟩)
    | fail)
      (refine hpan _ _ ⟨{ n := _, env := [], obs := [(i, pOb l q')], next := nx }, (Wk.cut rfl (by simp [hn]) (by simp [wkO, getK_cons, getK, getK_append, getK_del, Ob.under, D.under, under_rowsD, under_entD, hi, hne, getK_append, getK_del, getK_cons, getK]) (by simp [wkU, keepE, getK_cons, getK, D.under, hi, hne, getK_append, getK_del, getK_cons, getK]) (by simp [wkE, keepE, getK_cons, getK, hi, hne, getK_append, getK_del, getK_cons, getK])), by simp [hn], ?_⟩; try simp)
      exact PPost.at_stop (by simp [PR.bind, *])
    | ok n q0 =>
      have hn1 := fun nx' h => exp_ok (hn1 nx' h) hr0
      (refine RetX.of_bodyW Tryz.func131 rfl (by simp) fun Γ hn hpan => ?_); simp only [entry, List.zipIdx_cons, List.zipIdx_nil, List.map_cons, List.map_nil, Nat.zero_add, Tryz.ntmps131]
      repeat' (first
    | (refine H_cons ?_; simp [hne, del])
    | (refine H_nil ?_; simp [hne, del])
    | (refine V_sseq ?_; simp [hne, del])
    | (refine V_scond ?_; simp [hne, del])
    | (refine V_ret ?_; simp only [RunK])
    | (refine CallP.ok1 (hh1 _ (by first | omega | (simp; done) | (simp; omega) | fail)) (by first | (simp [hne, del, getK_cons, getK, getK_append, getK_del]; done) | fail) (by rfl) (by first | assumption | (simp; done) | fail) (by rfl) (by simp) ?_; (try simp [hne, del]))
    | (refine CallP.ok1 (hn1 _ (by first | omega | (simp; done) | (simp; omega) | fail)) (by first | (simp [hne, del, getK_cons, getK, getK_append, getK_del]; done) | fail) (by rfl) (by first | assumption | (simp; done) | fail) (by rfl) (by simp) ?_; (try simp [hne, del]))
    | fail)
      refine EndW.norm ?_
      simp [St.norm, normOb, normD, normU, norm1, hne, Nat.add_assoc]
      (refine EndW.here ?_; (first | (refine EndOK.fin (.inr rfl) ?_) | (refine EndOK.fin (.inl rfl) ?_)); simp [resD, oneOrTup, Tryz.results131, hne, hi]; refine FinOK.cut [(i, pOb l q0)] (nx) (by simp [getK_cons, getK, getK_append, getK_del, Ob.under, D.under, under_rowsD, under_entD, hne, hi] <;> omega) (by simp [D.under]) (by simp [hn]) ?_; try simp)
      exact PPost.at_ok rfl (by simp [Exp.row_eq]) rfl
theorem clauseP_le {l : List Tok} (hl : TokOK l) {p q : Nat} {w : List UInt8} {e : Exp} (h : clauseP l p w = .ok e q) (hp : p < l.length) : p ≤ q ∧ q < l.length := by
  unfold clauseP at h
  split at h
  · rename_i hb
    have := wholeP_le hl h (isB_lt hl hb)
    exact ⟨by omega, this.2⟩
  · cases h; exact ⟨by omega, hp⟩

/-- A call of one of the parser's functions, both ways. -/
theorem _root_.Go.VL.CallP.pp {P : Program} {Γ : Ctx} {s : St} {k : St → Prop} {dst : Option Tmp} {fop : Operand} {args : List Operand} {f caps} {ds : List D} {α : Type} {l : List Tok} {i : Nat} {ob : Ob} {val : α → D} {r : PR α}
    (hret : RetX P f ds [(i, ob)] s.next (PPost l i s.next val r)) (hj : getK s.obs i = some ob) (hf : calleeOf (opd s fop) = some (f, caps)) (hc : callable P f = true) (hds : args.map (opd s) ++ caps = ds) (hp : putOK dst s)
    (hk : ∀ a q, r = .ok a q → k (({ s with obs := del s.obs i ++ [(i, pOb l q)], next := s.next } : St).put dst (val a)))
    (hx : ∀ pos e q, r = .stop pos e → ∃ s2, Wk Γ { s with obs := del s.obs i ++ [(i, pOb l q)], next := s.next } s2 ∧ Γ.pan (chP pos e) s2) : CallP P Γ fop args dst s k :=
  CallP.x1 hret hj hf hc hds hp (fun d o1 nx' _ h => by
    cases r with
    | ok a q => obtain ⟨h1, h2, h3⟩ := h; cases h1; subst h2; subst h3; exact hk a q rfl
    | stop pos e => obtain ⟨h1, _⟩ := h; cases h1) (fun ch o1 nx' _ h => by
    cases r with
    | ok a q => obtain ⟨h1, _⟩ := h; cases h1
    | stop pos e => obtain ⟨h1, ⟨ob', ⟨q, rfl⟩, h2⟩, h3⟩ := h; cases h1; subst h2; subst h3; exact hx pos e q rfl)
abbrev kbD (x : Int × Bool) : D := .tup [.u (.int .i64 x.1), .u (.bool x.2)]
theorem kind_ret (l : List Tok) (p : Nat) (i nx : Nat) (hi : i < nx) (hp : p < l.length) (hl : TokOK l) :
    RetX Tryz.prog 122 [.ptr i 0] [(i, pOb l p)] nx (PPost l i nx kbD (kindP l p)) := by
  have hne := ne_facts hi
  have hll := hl.len
  generalize hR : kindP l p = R
  rw [kindP] at hR
  (refine RetX.of_bodyW Tryz.func122 rfl (by simp) fun Γ hn hpan => ?_); simp only [entry, List.zipIdx_cons, List.zipIdx_nil, List.map_cons, List.map_nil, Nat.zero_add, Tryz.ntmps122]
  repeat' (first
    | (refine H_cons ?_; simp [hne])
    | (refine H_nil ?_; simp [hne])
    | (refine V_sseq ?_; simp [hne])
    | (refine CallP_frzV (by first | rfl | fail) ?_; simp [hne, frzN, frz1, frz_env, frz_obs, St.frz, St.frzS, frzS, fv, fzVec, fzMap, fzBox, frzObS, frz_entD, frz_rowsD, del, frz, frzOb])
    | fail)
  (refine CallP.pp (want1 hl [99, 105, 114, 99, 108, 101] (q := p) (i := i) (by first | omega | (simp; done) | (simp; omega) | fail) hp) (by first | (simp [hi, hne, Nat.add_assoc, getK_cons, getK, getK_append, getK_del]; done) | fail) (by rfl) (by first | assumption | (simp; done) | fail) (by rfl) (by simp) (fun v1 q1 h1 => ?_) (fun pos e q' h1 => ⟨_, Wk.refl _, ?_⟩); rotate_left 1; (focus (rw [h1, PR.bind_stop] at hR; (refine hpan _ _ ⟨{ n := _, env := [], obs := [(i, pOb l q')], next := nx }, (Wk.cut rfl (by simp [hn]) (by simp [wkO, getK_cons, getK, getK_append, getK_del, Ob.under, D.under, under_rowsD, under_entD, hi, hne, Nat.add_assoc, getK_append, getK_del, getK_cons, getK]) (by simp [wkU, keepE, getK_cons, getK, D.under, hi, hne, Nat.add_assoc, getK_append, getK_del, getK_cons, getK]) (by simp [wkE, keepE, getK_cons, getK, hi, hne, Nat.add_assoc, getK_append, getK_del, getK_cons, getK])), by simp [hn], ?_⟩; try simp); exact PPost.at_stop hR.symm)); rw [h1, PR.bind_ok] at hR; (try simp [hi, hne, Nat.add_assoc]))
  obtain ⟨_, g1⟩ := wantP_le hl _ h1 hp
  have hh1 := fun nx' (h : nx ≤ nx') => has_ret l q1 [114, 111, 116, 97, 116, 105, 110, 103] i nx' (by omega) g1 hl.len
  have hh2 := fun nx' (h : nx ≤ nx') => has_ret l q1 [115, 97, 118, 105, 110, 103] i nx' (by omega) g1 hl.len
  by_cases c1 : isB l q1 [114, 111, 116, 97, 116, 105, 110, 103] = true
  · have g2 := isB_lt hl c1
    rw [if_pos c1] at hR
    simp only [c1, if_true] at hh1
    repeat' (first
    | (refine H_cons ?_; simp [hne, del, Nat.add_assoc])
    | (refine H_nil ?_; simp [hne, del, Nat.add_assoc])
    | (refine V_sseq ?_; simp [hne, del, Nat.add_assoc])
    | (refine V_scond ?_; simp [hne, del, Nat.add_assoc])
    | (refine CallP.ok1 (hh1 _ (by first | omega | (simp; done) | (simp; omega) | fail)) (by first | (simp [hne, del, Nat.add_assoc, getK_cons, getK, getK_append, getK_del]; done) | fail) (by rfl) (by first | assumption | (simp; done) | fail) (by rfl) (by simp) ?_; (try simp [hne, del, Nat.add_assoc]))
    | (refine CallP_frzV (by first | rfl | fail) ?_; simp [hne, del, Nat.add_assoc, frzN, frz1, frz_env, frz_obs, St.frz, St.frzS, frzS, fv, fzVec, fzMap, fzBox, frzObS, frz_entD, frz_rowsD, del, frz, frzOb])
    | fail)
    (refine CallP.pp (want1 hl [59] (q := q1 + 1) (i := i) (by first | omega | (simp; done) | (simp; omega) | fail) g2) (by first | (simp [hi, hne, Nat.add_assoc, getK_cons, getK, getK_append, getK_del]; done) | fail) (by rfl) (by first | assumption | (simp; done) | fail) (by rfl) (by simp) (fun v2 q2 h2 => ?_) (fun pos e q' h2 => ⟨_, Wk.refl _, ?_⟩); rotate_left 1; (focus (rw [h2, PR.bind_stop] at hR; (refine hpan _ _ ⟨{ n := _, env := [], obs := [(i, pOb l q')], next := nx }, (Wk.cut rfl (by simp [hn]) (by simp [wkO, getK_cons, getK, getK_append, getK_del, Ob.under, D.under, under_rowsD, under_entD, hi, hne, Nat.add_assoc, getK_append, getK_del, getK_cons, getK]) (by simp [wkU, keepE, getK_cons, getK, D.under, hi, hne, Nat.add_assoc, getK_append, getK_del, getK_cons, getK]) (by simp [wkE, keepE, getK_cons, getK, hi, hne, Nat.add_assoc, getK_append, getK_del, getK_cons, getK])), by simp [hn], ?_⟩; try simp); exact PPost.at_stop hR.symm)); rw [h2, PR.bind_ok] at hR; (try simp [hi, hne, Nat.add_assoc]))
    repeat' (first
    | (refine H_cons ?_; simp [hne, del, Nat.add_assoc])
    | (refine H_nil ?_; simp [hne, del, Nat.add_assoc])
    | (refine V_sseq ?_; simp [hne, del, Nat.add_assoc])
    | (refine V_ret ?_; simp only [RunK])
    | fail)
    (refine EndW.here ?_; (first | (refine EndOK.fin (.inr rfl) ?_) | (refine EndOK.fin (.inl rfl) ?_)); simp [resD, oneOrTup, Tryz.results122, hne, hi]; refine FinOK.cut [(i, pOb l q2)] (nx) (by simp [getK_cons, getK, getK_append, getK_del, Ob.under, D.under, under_rowsD, under_entD, hne, hi] <;> omega) (by simp [D.under]) (by simp [hn]) ?_; try simp)
    exact PPost.at_ok hR.symm rfl rfl
  · rw [if_neg c1] at hR
    simp only [c1, Bool.false_eq_true, if_false] at hh1
    by_cases c2 : isB l q1 [115, 97, 118, 105, 110, 103] = true
    · have g2 := isB_lt hl c2
      rw [if_pos c2] at hR
      simp only [c2, if_true] at hh2
      repeat' (first
    | (refine H_cons ?_; simp [hne, del, Nat.add_assoc])
    | (refine H_nil ?_; simp [hne, del, Nat.add_assoc])
    | (refine V_sseq ?_; simp [hne, del, Nat.add_assoc])
    | (refine V_scond ?_; simp [hne, del, Nat.add_assoc])
    | (refine CallP.ok1 (hh1 _ (by first | omega | (simp; done) | (simp; omega) | fail)) (by first | (simp [hne, del, Nat.add_assoc, getK_cons, getK, getK_append, getK_del]; done) | fail) (by rfl) (by first | assumption | (simp; done) | fail) (by rfl) (by simp) ?_; (try simp [hne, del, Nat.add_assoc]))
    | (refine CallP.ok1 (hh2 _ (by first | omega | (simp; done) | (simp; omega) | fail)) (by first | (simp [hne, del, Nat.add_assoc, getK_cons, getK, getK_append, getK_del]; done) | fail) (by rfl) (by first | assumption | (simp; done) | fail) (by rfl) (by simp) ?_; (try simp [hne, del, Nat.add_assoc]))
    | (refine CallP_frzV (by first | rfl | fail) ?_; simp [hne, del, Nat.add_assoc, frzN, frz1, frz_env, frz_obs, St.frz, St.frzS, frzS, fv, fzVec, fzMap, fzBox, frzObS, frz_entD, frz_rowsD, del, frz, frzOb])
    | fail)
      (refine CallP.pp (want1 hl [59] (q := q1 + 1) (i := i) (by first | omega | (simp; done) | (simp; omega) | fail) g2) (by first | (simp [hi, hne, Nat.add_assoc, getK_cons, getK, getK_append, getK_del]; done) | fail) (by rfl) (by first | assumption | (simp; done) | fail) (by rfl) (by simp) (fun v2 q2 h2 => ?_) (fun pos e q' h2 => ⟨_, Wk.refl _, ?_⟩); rotate_left 1; (focus (rw [h2, PR.bind_stop] at hR; (refine hpan _ _ ⟨{ n := _, env := [], obs := [(i, pOb l q')], next := nx }, (Wk.cut rfl (by simp [hn]) (by simp [wkO, getK_cons, getK, getK_append, getK_del, Ob.under, D.under, under_rowsD, under_entD, hi, hne, Nat.add_assoc, getK_append, getK_del, getK_cons, getK]) (by simp [wkU, keepE, getK_cons, getK, D.under, hi, hne, Nat.add_assoc, getK_append, getK_del, getK_cons, getK]) (by simp [wkE, keepE, getK_cons, getK, hi, hne, Nat.add_assoc, getK_append, getK_del, getK_cons, getK])), by simp [hn], ?_⟩; try simp); exact PPost.at_stop hR.symm)); rw [h2, PR.bind_ok] at hR; (try simp [hi, hne, Nat.add_assoc]))
      repeat' (first
    | (refine H_cons ?_; simp [hne, del, Nat.add_assoc])
    | (refine H_nil ?_; simp [hne, del, Nat.add_assoc])
    | (refine V_sseq ?_; simp [hne, del, Nat.add_assoc])
    | (refine V_ret ?_; simp only [RunK])
    | fail)
      (refine EndW.here ?_; (first | (refine EndOK.fin (.inr rfl) ?_) | (refine EndOK.fin (.inl rfl) ?_)); simp [resD, oneOrTup, Tryz.results122, hne, hi]; refine FinOK.cut [(i, pOb l q2)] (nx) (by simp [getK_cons, getK, getK_append, getK_del, Ob.under, D.under, under_rowsD, under_entD, hne, hi] <;> omega) (by simp [D.under]) (by simp [hn]) ?_; try simp)
      exact PPost.at_ok hR.symm rfl rfl
    · rw [if_neg c2] at hR
      simp only [c2, Bool.false_eq_true, if_false] at hh2
      repeat' (first
    | (refine H_cons ?_; simp [hne, del, Nat.add_assoc])
    | (refine H_nil ?_; simp [hne, del, Nat.add_assoc])
    | (refine V_sseq ?_; simp [hne, del, Nat.add_assoc])
    | (refine V_scond ?_; simp [hne, del, Nat.add_assoc])
    | (refine V_skip ?_; simp only [RunK])
    | (refine CallP.ok1 (hh1 _ (by first | omega | (simp; done) | (simp; omega) | fail)) (by first | (simp [hne, del, Nat.add_assoc, getK_cons, getK, getK_append, getK_del]; done) | fail) (by rfl) (by first | assumption | (simp; done) | fail) (by rfl) (by simp) ?_; (try simp [hne, del, Nat.add_assoc]))
    | (refine CallP.ok1 (hh2 _ (by first | omega | (simp; done) | (simp; omega) | fail)) (by first | (simp [hne, del, Nat.add_assoc, getK_cons, getK, getK_append, getK_del]; done) | fail) (by rfl) (by first | assumption | (simp; done) | fail) (by rfl) (by simp) ?_; (try simp [hne, del, Nat.add_assoc]))
    | (refine CallP_frzV (by first | rfl | fail) ?_; simp [hne, del, Nat.add_assoc, frzN, frz1, frz_env, frz_obs, St.frz, St.frzS, frzS, fv, fzVec, fzMap, fzBox, frzObS, frz_entD, frz_rowsD, del, frz, frzOb])
    | fail)
      (refine CallP.pp (want1 hl [98, 105, 100, 100, 105, 110, 103] (q := q1) (i := i) (by first | omega | (simp; done) | (simp; omega) | fail) g1) (by first | (simp [hi, hne, Nat.add_assoc, getK_cons, getK, getK_append, getK_del]; done) | fail) (by rfl) (by first | assumption | (simp; done) | fail) (by rfl) (by simp) (fun v2 q2 h2 => ?_) (fun pos e q' h2 => ⟨_, Wk.refl _, ?_⟩); rotate_left 1; (focus (rw [h2, PR.bind_stop] at hR; (refine hpan _ _ ⟨{ n := _, env := [], obs := [(i, pOb l q')], next := nx }, (Wk.cut rfl (by simp [hn]) (by simp [wkO, getK_cons, getK, getK_append, getK_del, Ob.under, D.under, under_rowsD, under_entD, hi, hne, Nat.add_assoc, getK_append, getK_del, getK_cons, getK]) (by simp [wkU, keepE, getK_cons, getK, D.under, hi, hne, Nat.add_assoc, getK_append, getK_del, getK_cons, getK]) (by simp [wkE, keepE, getK_cons, getK, hi, hne, Nat.add_assoc, getK_append, getK_del, getK_cons, getK])), by simp [hn], ?_⟩; try simp); exact PPost.at_stop hR.symm)); rw [h2, PR.bind_ok] at hR; (try simp [hi, hne, Nat.add_assoc]))
      obtain ⟨_, g2⟩ := wantP_le hl _ h2 g1
      have hh3 := fun nx' (h : nx ≤ nx') => has_ret l q2 [115, 101, 97, 108, 101, 100] i nx' (by omega) g2 hl.len
      by_cases c3 : isB l q2 [115, 101, 97, 108, 101, 100] = true
      · have g3 := isB_lt hl c3
        rw [if_pos c3] at hR
        simp only [c3, if_true] at hh3
        repeat' (first
    | (refine H_cons ?_; simp [hne, del, Nat.add_assoc])
    | (refine H_nil ?_; simp [hne, del, Nat.add_assoc])
    | (refine V_sseq ?_; simp [hne, del, Nat.add_assoc])
    | (refine CallP.ok1 (hh3 _ (by first | omega | (simp; done) | (simp; omega) | fail)) (by first | (simp [hne, del, Nat.add_assoc, getK_cons, getK, getK_append, getK_del]; done) | fail) (by rfl) (by first | assumption | (simp; done) | fail) (by rfl) (by simp) ?_; (try simp [hne, del, Nat.add_assoc]))
    | (refine CallP_frzV (by first | rfl | fail) ?_; simp [hne, del, Nat.add_assoc, frzN, frz1, frz_env, frz_obs, St.frz, St.frzS, frzS, fv, fzVec, fzMap, fzBox, frzObS, frz_entD, frz_rowsD, del, frz, frzOb])
    | fail)
        (refine CallP.pp (want1 hl [59] (q := q2 + 1) (i := i) (by first | omega | (simp; done) | (simp; omega) | fail) g3) (by first | (simp [hi, hne, Nat.add_assoc, getK_cons, getK, getK_append, getK_del]; done) | fail) (by rfl) (by first | assumption | (simp; done) | fail) (by rfl) (by simp) (fun v3 q3 h3 => ?_) (fun pos e q' h3 => ⟨_, Wk.refl _, ?_⟩); rotate_left 1; (focus (rw [h3, PR.bind_stop] at hR; (refine hpan _ _ ⟨{ n := _, env := [], obs := [(i, pOb l q')], next := nx }, (Wk.cut rfl (by simp [hn]) (by simp [wkO, getK_cons, getK, getK_append, getK_del, Ob.under, D.under, under_rowsD, under_entD, hi, hne, Nat.add_assoc, getK_append, getK_del, getK_cons, getK]) (by simp [wkU, keepE, getK_cons, getK, D.under, hi, hne, Nat.add_assoc, getK_append, getK_del, getK_cons, getK]) (by simp [wkE, keepE, getK_cons, getK, hi, hne, Nat.add_assoc, getK_append, getK_del, getK_cons, getK])), by simp [hn], ?_⟩; try simp); exact PPost.at_stop hR.symm)); rw [h3, PR.bind_ok] at hR; (try simp [hi, hne, Nat.add_assoc]))
        repeat' (first
    | (refine H_cons ?_; simp [hne, del, Nat.add_assoc])
    | (refine H_nil ?_; simp [hne, del, Nat.add_assoc])
    | (refine V_sseq ?_; simp [hne, del, Nat.add_assoc])
    | (refine V_ret ?_; simp only [RunK])
    | fail)
        (refine EndW.here ?_; (first | (refine EndOK.fin (.inr rfl) ?_) | (refine EndOK.fin (.inl rfl) ?_)); simp [resD, oneOrTup, Tryz.results122, hne, hi]; refine FinOK.cut [(i, pOb l q3)] (nx) (by simp [getK_cons, getK, getK_append, getK_del, Ob.under, D.under, under_rowsD, under_entD, hne, hi] <;> omega) (by simp [D.under]) (by simp [hn]) ?_; try simp)
        exact PPost.at_ok hR.symm rfl rfl
      · rw [if_neg c3] at hR
        simp only [c3, Bool.false_eq_true, if_false] at hh3
        repeat' (first
    | (refine H_cons ?_; simp [hne, del, Nat.add_assoc])
    | (refine H_nil ?_; simp [hne, del, Nat.add_assoc])
    | (refine V_sseq ?_; simp [hne, del, Nat.add_assoc])
    | (refine CallP.ok1 (hh3 _ (by first | omega | (simp; done) | (simp; omega) | fail)) (by first | (simp [hne, del, Nat.add_assoc, getK_cons, getK, getK_append, getK_del]; done) | fail) (by rfl) (by first | assumption | (simp; done) | fail) (by rfl) (by simp) ?_; (try simp [hne, del, Nat.add_assoc]))
    | (refine CallP_frzV (by first | rfl | fail) ?_; simp [hne, del, Nat.add_assoc, frzN, frz1, frz_env, frz_obs, St.frz, St.frzS, frzS, fv, fzVec, fzMap, fzBox, frzObS, frz_entD, frz_rowsD, del, frz, frzOb])
    | fail)
        (refine CallP.pp (want1 hl [59] (q := q2) (i := i) (by first | omega | (simp; done) | (simp; omega) | fail) g2) (by first | (simp [hi, hne, Nat.add_assoc, getK_cons, getK, getK_append, getK_del]; done) | fail) (by rfl) (by first | assumption | (simp; done) | fail) (by rfl) (by simp) (fun v3 q3 h3 => ?_) (fun pos e q' h3 => ⟨_, Wk.refl _, ?_⟩); rotate_left 1; (focus (rw [h3, PR.bind_stop] at hR; (refine hpan _ _ ⟨{ n := _, env := [], obs := [(i, pOb l q')], next := nx }, (Wk.cut rfl (by simp [hn]) (by simp [wkO, getK_cons, getK, getK_append, getK_del, Ob.under, D.under, under_rowsD, under_entD, hi, hne, Nat.add_assoc, getK_append, getK_del, getK_cons, getK]) (by simp [wkU, keepE, getK_cons, getK, D.under, hi, hne, Nat.add_assoc, getK_append, getK_del, getK_cons, getK]) (by simp [wkE, keepE, getK_cons, getK, hi, hne, Nat.add_assoc, getK_append, getK_del, getK_cons, getK])), by simp [hn], ?_⟩; try simp); exact PPost.at_stop hR.symm)); rw [h3, PR.bind_ok] at hR; (try simp [hi, hne, Nat.add_assoc]))
        repeat' (first
    | (refine H_cons ?_; simp [hne, del, Nat.add_assoc])
    | (refine H_nil ?_; simp [hne, del, Nat.add_assoc])
    | (refine V_sseq ?_; simp [hne, del, Nat.add_assoc])
    | (refine V_ret ?_; simp only [RunK])
    | fail)
        (refine EndW.here ?_; (first | (refine EndOK.fin (.inr rfl) ?_) | (refine EndOK.fin (.inl rfl) ?_)); simp [resD, oneOrTup, Tryz.results122, hne, hi]; refine FinOK.cut [(i, pOb l q3)] (nx) (by simp [getK_cons, getK, getK_append, getK_del, Ob.under, D.under, under_rowsD, under_entD, hne, hi] <;> omega) (by simp [D.under]) (by simp [hn]) ?_; try simp)
        exact PPost.at_ok hR.symm rfl rfl
theorem kindP_le {l : List Tok} (hl : TokOK l) {p q : Nat} {x : Int × Bool} (h : kindP l p = .ok x q) (hp : p < l.length) : p ≤ q ∧ q < l.length := by
  unfold kindP at h
  obtain ⟨_, r1, h1, h⟩ := PR.bind_out h
  have g1 := wantP_le hl _ h1 hp
  split at h
  · rename_i hb
    obtain ⟨_, r2, h2, h⟩ := PR.bind_out h
    have g2 := wantP_le hl _ h2 (isB_lt hl hb)
    cases h
    exact ⟨by omega, g2.2⟩
  · split at h
    · rename_i hb
      obtain ⟨_, r2, h2, h⟩ := PR.bind_out h
      have g2 := wantP_le hl _ h2 (isB_lt hl hb)
      cases h
      exact ⟨by omega, g2.2⟩
    · obtain ⟨_, r2, h2, h⟩ := PR.bind_out h
      have g2 := wantP_le hl _ h2 g1.2
      split at h
      · rename_i hb
        obtain ⟨_, r3, h3, h⟩ := PR.bind_out h
        have g3 := wantP_le hl _ h3 (isB_lt hl hb)
        cases h
        exact ⟨by omega, g3.2⟩
      · obtain ⟨_, r3, h3, h⟩ := PR.bind_out h
        have g3 := wantP_le hl _ h3 g2.2
        cases h
        exact ⟨by omega, g3.2⟩
theorem orders_fun : Fun Tryz.prog 74 [] (· = .u (.sl (ordersW.map fun w => [.str w]))) := by
  simp only [ordersW, List.map_cons, List.map_nil]
  (refine Fun.of_bodyW Tryz.func74 rfl (by simp) fun Γ hn => ?_); simp only [entry, List.zipIdx_cons, List.zipIdx_nil, List.map_cons, List.map_nil, Nat.zero_add, Tryz.ntmps74]
  repeat' (first
    | (refine H_cons ?_; simp [zcells, chunks])
    | (refine H_nil ?_; simp [zcells, chunks])
    | (refine V_sseq ?_; simp [zcells, chunks])
    | (refine V_ret ?_; simp only [RunK])
    | fail)
  (refine EndW.frzN 1 ?_; simp [frzN, frz1, frz_env, frz_obs, St.frz, St.frzS, frzS, fv, fzVec, fzMap, fzBox, frzObS, frz_entD, frz_rowsD, del, frz, frzOb])
  refine EndW.here ?_
  (refine EndOK.val (.inr rfl) ?_; simp [resD, oneOrTup, pureD, Tryz.results74])
/-- The first of words that stands at a place is read. -/
def atW (l : List Tok) (q : Nat) (ws : List W8) : Option Nat := ws.findIdx? fun w => isB l q w
theorem indexW_ret (l : List Tok) (q : Nat) (ws : List W8) (i nx : Nat) (hi : i < nx) (hq : q < l.length) (hl : TokOK l) :
    RetX Tryz.prog 202 [.u (.sl (ws.map fun w => [.str w])), .bnd (.func 200) [.ptr i 0]] [(i, pOb l q)] nx
      (fun r o n => r = .val (match atW l q ws with | some j => intD j | none => intD (-1)) ∧ o = [(i, pOb l (if (atW l q ws).isSome then q + 1 else q))] ∧ n = nx) := by
  have hne := ne_facts hi
  generalize hA : atW l q ws = A
  (refine RetX.of_bodyW Tryz.func202 rfl (by simp) fun Γ hn hpan => ?_); simp only [entry, List.zipIdx_cons, List.zipIdx_nil, List.map_cons, List.map_nil, Nat.zero_add, Tryz.ntmps202]
  refine V_len (x := 0) rfl fun hll => ?_
  simp at hll
  repeat' (first
    | (refine H_cons ?_; simp)
    | (refine H_nil ?_; simp)
    | (refine V_sseq ?_; simp)
    | (refine V_sblock ?_; simp)
    | fail)
  refine V_loopO (α := { j : Nat // j ≤ ws.length ∧ ∀ w ∈ ws.take j, isB l q w = false }) [0, 1, 7] (fun x => [(8, .u (.int .i64 x.1))]) (fun x => [(i, pOb l q)]) nx (fun x => ws.length - x.1) ⟨0, by omega, by simp⟩ ?_ ?_
  · exact (Wk.cut rfl (by simp [hn, St.lp]) (by simp [wkO, St.lp, getK_cons, getK, Ob.under, D.under, under_rowsD, under_entD, hi]) (by simp [wkU, St.lp, keepE, getK_cons, getK, D.under, hi]) (by simp [wkE, St.lp, keepE, getK_cons, getK, hi] <;> (try (intros; simp_all; done)) <;> (try (intros; omega)) <;> (try grind)))
  rintro ⟨j, h1, h2⟩
  simp [St.lp, St.only, keepE, getK_cons, getK]
  rcases hx : ws[j]? with _ | w
  · have hge : ws.length ≤ j := by simpa using hx
    rw [List.take_of_length_le hge] at h2
    have hn0 : atW l q ws = none := by
      unfold atW
      rw [List.findIdx?_eq_none_iff]
      exact h2
    rw [hn0] at hA
    subst hA
    repeat' (first
    | (refine H_cons ?_; simp [hx])
    | (refine H_nil ?_; simp [hx])
    | (refine ⟨by omega, ?_⟩)
    | (refine V_sseq ?_; simp [hx])
    | (refine V_ret ?_; simp only [RunK])
    | (refine V_exit ?_; simp [RunK])
    | (intro hc <;> (try (exfalso; omega)))
    | fail)
    (refine EndW.here ?_; (first | (refine EndOK.fin (.inr rfl) ?_) | (refine EndOK.fin (.inl rfl) ?_)); simp [resD, oneOrTup, Tryz.results202]; refine FinOK.here (by simp) ?_; try simp)
  · have hlt : j < ws.length := (List.getElem?_eq_some_iff.1 hx).1
    have hh := has_ret l q w i nx hi hq hl.len
    cases hb : isB l q w with
    | false =>
      rw [hb, if_neg (by simp)] at hh
      repeat' (first
    | (refine H_cons ?_; simp [hx])
    | (refine H_nil ?_; simp [hx])
    | (refine V_sseq ?_; simp [hx])
    | (refine V_skip ?_; simp only [RunK])
    | (refine ⟨?_, by omega⟩)
    | (intro hc <;> (try (exfalso; omega)))
    | fail)
      refine CallP.bok hh (by simp [getK_cons, getK]) rfl (by first | assumption | simp) rfl (by simp) ?_
      repeat' (first
    | (refine H_cons ?_; simp [hx])
    | (refine H_nil ?_; simp [hx])
    | (refine ⟨by omega, ?_⟩)
    | (refine V_scond ?_; simp [hx])
    | (refine V_sregion ?_; simp [hx])
    | (refine V_skip ?_; simp only [RunK])
    | fail)
      refine LoopW.next ⟨j + 1, by omega, take_succ_all hx h2 hb⟩ (by simp; omega) ?_
      exact (Wk.cut rfl (by simp [hn, St.lp]) (by simp [wkO, St.lp, getK_cons, getK, Ob.under, D.under, under_rowsD, under_entD, hi, getK_append, getK_del, getK_cons, getK]) (by simp [wkU, St.lp, keepE, getK_cons, getK, D.under, hi, getK_append, getK_del, getK_cons, getK]) (by simp [wkE, St.lp, keepE, getK_cons, getK, hi, getK_append, getK_del, getK_cons, getK] <;> (try (intros; simp_all; done)) <;> (try (intros; omega)) <;> (try grind)))
    | true =>
      rw [hb, if_pos rfl] at hh
      have hn0 : atW l q ws = some j := by
        unfold atW
        rw [List.findIdx?_eq_some_iff_getElem]
        obtain ⟨h3, h4⟩ := List.getElem?_eq_some_iff.1 hx
        refine ⟨h3, by rw [h4]; exact hb, fun k hk => ?_⟩
        have := h2 ws[k] (by rw [List.mem_take_iff_getElem]; exact ⟨k, by omega, rfl⟩)
        simp [this]
      rw [hn0] at hA
      subst hA
      repeat' (first
    | (refine H_cons ?_; simp [hx])
    | (refine H_nil ?_; simp [hx])
    | (refine V_sseq ?_; simp [hx])
    | (refine V_skip ?_; simp only [RunK])
    | (refine ⟨?_, by omega⟩)
    | (intro hc <;> (try (exfalso; omega)))
    | fail)
      refine CallP.bok hh (by simp [getK_cons, getK]) rfl (by first | assumption | simp) rfl (by simp) ?_
      repeat' (first
    | (refine H_cons ?_; simp [hx])
    | (refine H_nil ?_; simp [hx])
    | (refine V_sseq ?_; simp [hx])
    | (refine V_scond ?_; simp [hx])
    | (refine V_ret ?_; simp only [RunK])
    | fail)
      (refine EndW.here ?_; (first | (refine EndOK.fin (.inr rfl) ?_) | (refine EndOK.fin (.inl rfl) ?_)); simp [resD, oneOrTup, Tryz.results202]; refine FinOK.here (by simp) ?_; try simp)

theorem order_ret (l : List Tok) (p : Nat) (i nx : Nat) (hi : i < nx) (hp : p < l.length) (hl : TokOK l) :
    RetX Tryz.prog 126 [.ptr i 0] [(i, pOb l p)] nx (PPost l i nx intD (orderP l p)) := by
  have hne := ne_facts hi
  have hll := hl.len
  have hor := orders_fun
  generalize hR : orderP l p = R
  rw [orderP] at hR
  have hh1 := fun nx' (h : nx ≤ nx') => has_ret l p [111, 114, 100, 101, 114] i nx' (by omega) hp hl.len
  by_cases c1 : isB l p [111, 114, 100, 101, 114] = true
  · have g1 := isB_lt hl c1
    rw [if_pos c1] at hR
    simp only [c1, if_true] at hh1
    have hix := fun nx' (h : nx ≤ nx') => indexW_ret l (p + 1) ordersW i nx' (by omega) g1 hl
    have hat : atW l (p + 1) ordersW = ordersW.findIdx? fun w => isB l (p + 1) w := rfl
    rw [← hat] at hR
    obtain ⟨t, ht⟩ : ∃ t, l[p + 1]? = some t := ⟨_, List.getElem?_eq_getElem g1⟩
    have hpa : posAt l (p + 1) = t.pos := by unfold posAt; rw [ht]
    rw [hpa] at hR
    cases hj : atW l (p + 1) ordersW with
    | none =>
      have hc2 := fun e nx' (h : nx ≤ nx') => check_pan l (p + 1) t e i nx' (by omega) ht hl.len
      rw [hj] at hR hix
      simp only [Option.isSome_none, Bool.false_eq_true, if_false] at hR hix
      (refine RetX.of_bodyW Tryz.func126 rfl (by simp) fun Γ hn hpan => ?_); simp only [entry, List.zipIdx_cons, List.zipIdx_nil, List.map_cons, List.map_nil, Nat.zero_add, Tryz.ntmps126]
      repeat' (first
    | (refine H_cons ?_; simp [hne, del, Nat.add_assoc])
    | (refine H_nil ?_; simp [hne, del, Nat.add_assoc])
    | (refine V_sseq ?_; simp [hne, del, Nat.add_assoc])
    | (refine V_scond ?_; simp [hne, del, Nat.add_assoc])
    | (refine V_skip ?_; simp only [RunK])
    | (refine CallP.fun_ (hor) (by first | rfl | fail) (by first | assumption | (simp; done) | fail) (by first | (simp [hne, del, Nat.add_assoc]; done) | (simp [hne, del, Nat.add_assoc]; rfl) | fail) (by first | (simp; done) | fail) (fun d hd => ?_); subst hd; (try simp [hne, del, Nat.add_assoc]))
    | (refine CallP.ok1 (hh1 _ (by first | omega | (simp; done) | (simp; omega) | fail)) (by first | (simp [hne, del, Nat.add_assoc, getK_cons, getK, getK_append, getK_del]; done) | fail) (by rfl) (by first | assumption | (simp; done) | fail) (by rfl) (by simp) ?_; (try simp [hne, del, Nat.add_assoc]))
    | (refine CallP.ok1 (hix _ (by first | omega | (simp; done) | (simp; omega) | fail)) (by first | (simp [hne, del, Nat.add_assoc, getK_cons, getK, getK_append, getK_del]; done) | fail) (by rfl) (by first | assumption | (simp; done) | fail) (by rfl) (by simp) ?_; (try simp [hne, del, Nat.add_assoc]))
    | (refine CallP.pan1 (hc2 _ _ (by first | omega | (simp; done) | (simp; omega) | fail)) (by first | (simp [hne, del, Nat.add_assoc, getK_cons, getK, getK_append, getK_del]; done) | fail) (by rfl) (by first | assumption | (simp; done) | fail) (by rfl) (by simp) ?_; rintro ob' ⟨q', rfl⟩; refine ⟨_, Wk.refl _, ?_⟩)
    | fail)
      (refine hpan _ _ ⟨{ n := _, env := [], obs := [(i, pOb l q')], next := nx }, (Wk.cut rfl (by simp [hn]) (by simp [wkO, getK_cons, getK, getK_append, getK_del, Ob.under, D.under, under_rowsD, under_entD, hi, hne, getK_append, getK_del, getK_cons, getK]) (by simp [wkU, keepE, getK_cons, getK, D.under, hi, hne, getK_append, getK_del, getK_cons, getK]) (by simp [wkE, keepE, getK_cons, getK, hi, hne, getK_append, getK_del, getK_cons, getK])), by simp [hn], ?_⟩; try simp)
      exact PPost.at_stop hR.symm
    | some j =>
      have g2 : p + 1 + 1 < l.length := by
        unfold atW at hj
        rw [List.findIdx?_eq_some_iff_getElem] at hj
        obtain ⟨_, hb, _⟩ := hj
        exact isB_lt hl hb
      have hj0 : (0 : Int) ≤ (j : Int) := by omega
      have hc1 := fun e nx' (h : nx ≤ nx') => check_ok l (p + 1 + 1) e i nx' (by omega)
      rw [hj] at hR hix
      simp only [Option.isSome_some, if_true] at hR hix
      (refine RetX.of_bodyW Tryz.func126 rfl (by simp) fun Γ hn hpan => ?_); simp only [entry, List.zipIdx_cons, List.zipIdx_nil, List.map_cons, List.map_nil, Nat.zero_add, Tryz.ntmps126]
      repeat' (first
    | (refine H_cons ?_; simp [hne, del, Nat.add_assoc, hj0])
    | (refine H_nil ?_; simp [hne, del, Nat.add_assoc, hj0])
    | (refine V_sseq ?_; simp [hne, del, Nat.add_assoc, hj0])
    | (refine V_scond ?_; simp [hne, del, Nat.add_assoc, hj0])
    | (refine V_skip ?_; simp only [RunK])
    | (refine CallP.fun_ (hor) (by first | rfl | fail) (by first | assumption | (simp; done) | fail) (by first | (simp [hne, del, Nat.add_assoc, hj0]; done) | (simp [hne, del, Nat.add_assoc, hj0]; rfl) | fail) (by first | (simp; done) | fail) (fun d hd => ?_); subst hd; (try simp [hne, del, Nat.add_assoc, hj0]))
    | (refine CallP.ok1 (hh1 _ (by first | omega | (simp; done) | (simp; omega) | fail)) (by first | (simp [hne, del, Nat.add_assoc, hj0, getK_cons, getK, getK_append, getK_del]; done) | fail) (by rfl) (by first | assumption | (simp; done) | fail) (by rfl) (by simp) ?_; (try simp [hne, del, Nat.add_assoc, hj0]))
    | (refine CallP.ok1 (hix _ (by first | omega | (simp; done) | (simp; omega) | fail)) (by first | (simp [hne, del, Nat.add_assoc, hj0, getK_cons, getK, getK_append, getK_del]; done) | fail) (by rfl) (by first | assumption | (simp; done) | fail) (by rfl) (by simp) ?_; (try simp [hne, del, Nat.add_assoc, hj0]))
    | (refine CallP.ok1 (hc1 _ _ (by first | omega | (simp; done) | (simp; omega) | fail)) (by first | (simp [hne, del, Nat.add_assoc, hj0, getK_cons, getK, getK_append, getK_del]; done) | fail) (by rfl) (by first | assumption | (simp; done) | fail) (by rfl) (by simp) ?_; (try simp [hne, del, Nat.add_assoc, hj0]))
    | (refine CallP_frzV (by first | rfl | fail) ?_; simp [hne, del, Nat.add_assoc, hj0, frzN, frz1, frz_env, frz_obs, St.frz, St.frzS, frzS, fv, fzVec, fzMap, fzBox, frzObS, frz_entD, frz_rowsD, del, frz, frzOb])
    | fail)
      (refine CallP.pp (want1 hl [59] (q := p + 1 + 1) (i := i) (by first | omega | (simp; done) | (simp; omega) | fail) g2) (by first | (simp [hi, hne, Nat.add_assoc, getK_cons, getK, getK_append, getK_del]; done) | fail) (by rfl) (by first | assumption | (simp; done) | fail) (by rfl) (by simp) (fun v2 q2 h2 => ?_) (fun pos e q' h2 => ⟨_, Wk.refl _, ?_⟩); rotate_left 1; (focus (rw [h2, PR.bind_stop] at hR; (refine hpan _ _ ⟨{ n := _, env := [], obs := [(i, pOb l q')], next := nx }, (Wk.cut rfl (by simp [hn]) (by simp [wkO, getK_cons, getK, getK_append, getK_del, Ob.under, D.under, under_rowsD, under_entD, hi, hne, Nat.add_assoc, getK_append, getK_del, getK_cons, getK]) (by simp [wkU, keepE, getK_cons, getK, D.under, hi, hne, Nat.add_assoc, getK_append, getK_del, getK_cons, getK]) (by simp [wkE, keepE, getK_cons, getK, hi, hne, Nat.add_assoc, getK_append, getK_del, getK_cons, getK])), by simp [hn], ?_⟩; try simp); exact PPost.at_stop hR.symm)); rw [h2, PR.bind_ok] at hR; (try simp [hi, hne, Nat.add_assoc]))
      repeat' (first
    | (refine H_cons ?_; simp [hne, del])
    | (refine H_nil ?_; simp [hne, del])
    | (refine V_sseq ?_; simp [hne, del])
    | (refine V_ret ?_; simp only [RunK])
    | fail)
      (refine EndW.here ?_; (first | (refine EndOK.fin (.inr rfl) ?_) | (refine EndOK.fin (.inl rfl) ?_)); simp [resD, oneOrTup, Tryz.results126, hne, hi]; refine FinOK.cut [(i, pOb l q2)] (nx) (by simp [getK_cons, getK, getK_append, getK_del, Ob.under, D.under, under_rowsD, under_entD, hne, hi] <;> omega) (by simp [D.under]) (by simp [hn]) ?_; try simp)
      exact PPost.at_ok hR.symm rfl rfl
  · rw [if_neg c1] at hR
    simp only [c1, Bool.false_eq_true, if_false] at hh1
    (refine RetX.of_bodyW Tryz.func126 rfl (by simp) fun Γ hn hpan => ?_); simp only [entry, List.zipIdx_cons, List.zipIdx_nil, List.map_cons, List.map_nil, Nat.zero_add, Tryz.ntmps126]
    repeat' (first
    | (refine H_cons ?_; simp [hne, del, Nat.add_assoc])
    | (refine H_nil ?_; simp [hne, del, Nat.add_assoc])
    | (refine V_sseq ?_; simp [hne, del, Nat.add_assoc])
    | (refine V_scond ?_; simp [hne, del, Nat.add_assoc])
    | (refine V_ret ?_; simp only [RunK])
    | (refine CallP.ok1 (hh1 _ (by first | omega | (simp; done) | (simp; omega) | fail)) (by first | (simp [hne, del, Nat.add_assoc, getK_cons, getK, getK_append, getK_del]; done) | fail) (by rfl) (by first | assumption | (simp; done) | fail) (by rfl) (by simp) ?_; (try simp [hne, del, Nat.add_assoc]))
    | fail)
    (refine EndW.here ?_; (first | (refine EndOK.fin (.inr rfl) ?_) | (refine EndOK.fin (.inl rfl) ?_)); simp [resD, oneOrTup, Tryz.results126, hne, hi]; refine FinOK.cut [(i, pOb l p)] (nx) (by simp [getK_cons, getK, getK_append, getK_del, Ob.under, D.under, under_rowsD, under_entD, hne, hi] <;> omega) (by simp [D.under]) (by simp [hn]) ?_; try simp)
    exact PPost.at_ok hR.symm rfl rfl
theorem orderP_le {l : List Tok} (hl : TokOK l) {p q : Nat} {n : Int} (h : orderP l p = .ok n q) (hp : p < l.length) : p ≤ q ∧ q < l.length := by
  unfold orderP at h
  split at h
  · split at h
    · rename_i j hj
      rw [List.findIdx?_eq_some_iff_getElem] at hj
      obtain ⟨_, hb, _⟩ := hj
      obtain ⟨_, r2, h2, h⟩ := PR.bind_out h
      have g2 := wantP_le hl _ h2 (isB_lt hl hb)
      cases h
      exact ⟨by omega, g2.2⟩
    · cases h
  · cases h; exact ⟨by omega, hp⟩
theorem sameName_fun (x : Let) (s : W8) : Fun Tryz.prog 128 (lagg x :: [U.row [.str s] 0].map .u) (· = .u (.bool (decide (x.name = s)))) := by
  simp only [lagg, List.map_cons, List.map_nil]
  (refine Fun.of_body Tryz.func128 rfl (by simp) fun Γ hn => ?_); simp only [entry, List.zipIdx_cons, List.zipIdx_nil, List.map_cons, List.map_nil, Nat.zero_add, Tryz.ntmps128]
  repeat' (first
    | (refine H_cons ?_; simp)
    | (refine H_nil ?_; simp)
    | (refine V_sseq ?_; simp)
    | (refine V_ret ?_; simp only [RunK])
    | fail)
  (refine EndOK.val (.inr rfl) ?_; simp [resD, oneOrTup, pureD, Tryz.results128])
theorem twice_fun (lets : List Let) (s : W8) : Fun Tryz.prog 90 [.u (letsU lets), .fnc (.func 128) [.u (.row [.str s] 0)]]
    (· = .u (.bool (lets.any fun x => decide (x.name = s)))) :=
  containsL_fun lets 128 [U.row [.str s] 0] _ (fun x _ => sameName_fun x s) (by simp) (fun _ => rfl) (fun _ => rfl)

theorem bylaws_ret (l : List Tok) (hl0 : 0 < l.length) (hl : TokOK l) (hl2 : l.length ≤ 2001) :
    RetX Tryz.prog 64 [.ptr 3 0] [(3, pOb l 0)] 4 (PPost l 3 4 byD (bylP l)) := by
  have hi : 3 < 4 := by decide
  have hne := ne_facts hi
  have hll := hl.len
  have htE : True := trivial
  generalize hR : bylP l = R
  rw [bylP] at hR
  (refine RetX.of_bodyW Tryz.func64 rfl (by simp) fun Γ hn hpan => ?_); simp only [entry, List.zipIdx_cons, List.zipIdx_nil, List.map_cons, List.map_nil, Nat.zero_add, Tryz.ntmps64]
  repeat' (first
    | (refine H_cons ?_; simp [hne])
    | (refine H_nil ?_; simp [hne])
    | (refine V_sseq ?_; simp [hne])
    | fail)
  (refine CallP.pp (kind_ret l 0 3 _ (by first | omega | (simp; done) | (simp; omega) | fail) hl0 hl) (by first | (simp [hi, hne, del, htE, getK_cons, getK, getK_append, getK_del]; done) | fail) (by rfl) (by first | assumption | (simp; done) | fail) (by rfl) (by simp) (fun kb q1 h1 => ?_) (fun pos e q' h1 => ⟨_, Wk.refl _, ?_⟩); rotate_left 1; (focus (rw [h1, PR.bind_stop] at hR; (refine hpan _ _ ⟨{ n := _, env := [], obs := [(3, pOb l q')], next := 4 }, (Wk.cut rfl (by simp [hn]) (by simp [wkO, getK_cons, getK, getK_append, getK_del, Ob.under, D.under, under_rowsD, under_entD, hi, hne, del, htE, getK_append, getK_del, getK_cons, getK]) (by simp [wkU, keepE, getK_cons, getK, D.under, hi, hne, del, htE, getK_append, getK_del, getK_cons, getK]) (by simp [wkE, keepE, getK_cons, getK, hi, hne, del, htE, getK_append, getK_del, getK_cons, getK])), by simp [hn], ?_⟩; try simp); exact PPost.at_stop hR.symm)); rw [h1, PR.bind_ok] at hR; (try simp [hi, hne, del, htE]))
  obtain ⟨_, g1⟩ := kindP_le hl h1 hl0
  have hm := is_fun l q1 [112, 101, 114, 105, 111, 100] g1 hl.len
  repeat' (first
    | (refine H_cons ?_; simp [hne, del])
    | (refine H_nil ?_; simp [hne, del])
    | (refine V_sseq ?_; simp [hne, del])
    | (refine CallP.fun_ (hm) (by first | rfl | fail) (by first | assumption | (simp; done) | fail) (by first | (simp [hne, del]; done) | (simp [hne, del]; rfl) | fail) (by first | (simp; done) | fail) (fun d hd => ?_); subst hd; (try simp [hne, del]))
    | fail)
  (refine CallP.pp (must_ret l q1 [112, 101, 114, 105, 111, 100] 3 _ (by first | omega | (simp; done) | (simp; omega) | fail) g1 hl) (by first | (simp [hi, hne, del, htE, getK_cons, getK, getK_append, getK_del]; done) | fail) (by rfl) (by first | assumption | (simp; done) | fail) (by rfl) (by simp) (fun u2 q2 h2 => ?_) (fun pos e q' h2 => ⟨_, Wk.refl _, ?_⟩); rotate_left 1; (focus (rw [h2, PR.bind_stop] at hR; (refine hpan _ _ ⟨{ n := _, env := [], obs := [(3, pOb l q')], next := 4 }, (Wk.cut rfl (by simp [hn]) (by simp [wkO, getK_cons, getK, getK_append, getK_del, Ob.under, D.under, under_rowsD, under_entD, hi, hne, del, htE, getK_append, getK_del, getK_cons, getK]) (by simp [wkU, keepE, getK_cons, getK, D.under, hi, hne, del, htE, getK_append, getK_del, getK_cons, getK]) (by simp [wkE, keepE, getK_cons, getK, hi, hne, del, htE, getK_append, getK_del, getK_cons, getK])), by simp [hn], ?_⟩; try simp); exact PPost.at_stop hR.symm)); rw [h2, PR.bind_ok] at hR; (try simp [hi, hne, del, htE]))
  obtain ⟨rfl, _⟩ := must_ok h2
  repeat' (first
    | (refine H_cons ?_; simp [hne, del])
    | (refine H_nil ?_; simp [hne, del])
    | (refine V_sseq ?_; simp [hne, del])
    | (refine CallP_frzV (by first | rfl | fail) ?_; simp [hne, del, frzN, frz1, frz_env, frz_obs, St.frz, St.frzS, frzS, fv, fzVec, fzMap, fzBox, frzObS, frz_entD, frz_rowsD, del, frz, frzOb])
    | fail)
  (refine CallP.pp (part_ret l q2 [112, 101, 114, 105, 111, 100] 1 1000 [[100, 97, 121, 115], [59]] 3 _ (by first | omega | (simp; done) | (simp; omega) | fail) g1 hl (by simp)) (by first | (simp [hi, hne, del, htE, getK_cons, getK, getK_append, getK_del]; done) | fail) (by rfl) (by first | assumption | (simp; done) | fail) (by rfl) (by simp) (fun period q3 h3 => ?_) (fun pos e q' h3 => ⟨_, Wk.refl _, ?_⟩); rotate_left 1; (focus (rw [h3, PR.bind_stop] at hR; (refine hpan _ _ ⟨{ n := _, env := [], obs := [(3, pOb l q')], next := 4 }, (Wk.cut rfl (by simp [hn]) (by simp [wkO, getK_cons, getK, getK_append, getK_del, Ob.under, D.under, under_rowsD, under_entD, hi, hne, del, htE, getK_append, getK_del, getK_cons, getK]) (by simp [wkU, keepE, getK_cons, getK, D.under, hi, hne, del, htE, getK_append, getK_del, getK_cons, getK]) (by simp [wkE, keepE, getK_cons, getK, hi, hne, del, htE, getK_append, getK_del, getK_cons, getK])), by simp [hn], ?_⟩; try simp); exact PPost.at_stop hR.symm)); rw [h3, PR.bind_ok] at hR; (try simp [hi, hne, del, htE]))
  obtain ⟨_, g3⟩ := partP_le hl h3 g1
  repeat' (first
    | (refine H_cons ?_; simp [hne, del])
    | (refine H_nil ?_; simp [hne, del])
    | (refine V_sseq ?_; simp [hne, del])
    | fail)
  have hm := is_fun l q3 [108, 97, 115, 116] g3 hl.len
  repeat' (first
    | (refine H_cons ?_; simp [hne, del])
    | (refine CallP.fun_ (hm) (by first | rfl | fail) (by first | assumption | (simp; done) | fail) (by first | (simp [hne, del]; done) | (simp [hne, del]; rfl) | fail) (by first | (simp; done) | fail) (fun d hd => ?_); subst hd; (try simp [hne, del]))
    | fail)
  (refine CallP.pp (must_ret l q3 [108, 97, 115, 116] 3 _ (by first | omega | (simp; done) | (simp; omega) | fail) g3 hl) (by first | (simp [hi, hne, del, htE, getK_cons, getK, getK_append, getK_del]; done) | fail) (by rfl) (by first | assumption | (simp; done) | fail) (by rfl) (by simp) (fun u4 q4 h4 => ?_) (fun pos e q' h4 => ⟨_, Wk.refl _, ?_⟩); rotate_left 1; (focus (rw [h4, PR.bind_stop] at hR; (refine hpan _ _ ⟨{ n := _, env := [], obs := [(3, pOb l q')], next := 4 }, (Wk.cut rfl (by simp [hn]) (by simp [wkO, getK_cons, getK, getK_append, getK_del, Ob.under, D.under, under_rowsD, under_entD, hi, hne, del, htE, getK_append, getK_del, getK_cons, getK]) (by simp [wkU, keepE, getK_cons, getK, D.under, hi, hne, del, htE, getK_append, getK_del, getK_cons, getK]) (by simp [wkE, keepE, getK_cons, getK, hi, hne, del, htE, getK_append, getK_del, getK_cons, getK])), by simp [hn], ?_⟩; try simp); exact PPost.at_stop hR.symm)); rw [h4, PR.bind_ok] at hR; (try simp [hi, hne, del, htE]))
  obtain ⟨rfl, _⟩ := must_ok h4
  repeat' (first
    | (refine H_cons ?_; simp [hne, del])
    | (refine H_nil ?_; simp [hne, del])
    | (refine V_sseq ?_; simp [hne, del])
    | (refine CallP_frzV (by first | rfl | fail) ?_; simp [hne, del, frzN, frz1, frz_env, frz_obs, St.frz, St.frzS, frzS, fv, fzVec, fzMap, fzBox, frzObS, frz_entD, frz_rowsD, del, frz, frzOb])
    | fail)
  (refine CallP.pp (part_ret l q4 [108, 97, 115, 116] 1 1000 [[59]] 3 _ (by first | omega | (simp; done) | (simp; omega) | fail) g3 hl (by simp)) (by first | (simp [hi, hne, del, htE, getK_cons, getK, getK_append, getK_del]; done) | fail) (by rfl) (by first | assumption | (simp; done) | fail) (by rfl) (by simp) (fun last q5 h5 => ?_) (fun pos e q' h5 => ⟨_, Wk.refl _, ?_⟩); rotate_left 1; (focus (rw [h5, PR.bind_stop] at hR; (refine hpan _ _ ⟨{ n := _, env := [], obs := [(3, pOb l q')], next := 4 }, (Wk.cut rfl (by simp [hn]) (by simp [wkO, getK_cons, getK, getK_append, getK_del, Ob.under, D.under, under_rowsD, under_entD, hi, hne, del, htE, getK_append, getK_del, getK_cons, getK]) (by simp [wkU, keepE, getK_cons, getK, D.under, hi, hne, del, htE, getK_append, getK_del, getK_cons, getK]) (by simp [wkE, keepE, getK_cons, getK, hi, hne, del, htE, getK_append, getK_del, getK_cons, getK])), by simp [hn], ?_⟩; try simp); exact PPost.at_stop hR.symm)); rw [h5, PR.bind_ok] at hR; (try simp [hi, hne, del, htE]))
  obtain ⟨_, g5⟩ := partP_le hl h5 g3
  repeat' (first
    | (refine H_cons ?_; simp [hne, del])
    | (refine H_nil ?_; simp [hne, del])
    | (refine V_sseq ?_; simp [hne, del])
    | (refine CallP_frzV (by first | rfl | fail) ?_; simp [hne, del, frzN, frz1, frz_env, frz_obs, St.frz, St.frzS, frzS, fv, fzVec, fzMap, fzBox, frzObS, frz_entD, frz_rowsD, del, frz, frzOb])
    | fail)
  (refine CallP.pp (part_ret l q5 [103, 114, 97, 99, 101] 0 1000 [[100, 97, 121, 115], [59]] 3 _ (by first | omega | (simp; done) | (simp; omega) | fail) g5 hl (by simp)) (by first | (simp [hi, hne, del, htE, getK_cons, getK, getK_append, getK_del]; done) | fail) (by rfl) (by first | assumption | (simp; done) | fail) (by rfl) (by simp) (fun grace q6 h6 => ?_) (fun pos e q' h6 => ⟨_, Wk.refl _, ?_⟩); rotate_left 1; (focus (rw [h6, PR.bind_stop] at hR; (refine hpan _ _ ⟨{ n := _, env := [], obs := [(3, pOb l q')], next := 4 }, (Wk.cut rfl (by simp [hn]) (by simp [wkO, getK_cons, getK, getK_append, getK_del, Ob.under, D.under, under_rowsD, under_entD, hi, hne, del, htE, getK_append, getK_del, getK_cons, getK]) (by simp [wkU, keepE, getK_cons, getK, D.under, hi, hne, del, htE, getK_append, getK_del, getK_cons, getK]) (by simp [wkE, keepE, getK_cons, getK, hi, hne, del, htE, getK_append, getK_del, getK_cons, getK])), by simp [hn], ?_⟩; try simp); exact PPost.at_stop hR.symm)); rw [h6, PR.bind_ok] at hR; (try simp [hi, hne, del, htE]))
  obtain ⟨_, g6⟩ := partP_le hl h6 g5
  repeat' (first
    | (refine H_cons ?_; simp [hne, del])
    | (refine H_nil ?_; simp [hne, del])
    | (refine V_sseq ?_; simp [hne, del])
    | (refine CallP_frzV (by first | rfl | fail) ?_; simp [hne, del, frzN, frz1, frz_env, frz_obs, St.frz, St.frzS, frzS, fv, fzVec, fzMap, fzBox, frzObS, frz_entD, frz_rowsD, del, frz, frzOb])
    | fail)
  (refine CallP.pp (part_ret l q6 [119, 97, 105, 116] 0 1000 [[100, 97, 121, 115], [59]] 3 _ (by first | omega | (simp; done) | (simp; omega) | fail) g6 hl (by simp)) (by first | (simp [hi, hne, del, htE, getK_cons, getK, getK_append, getK_del]; done) | fail) (by rfl) (by first | assumption | (simp; done) | fail) (by rfl) (by simp) (fun wait q7 h7 => ?_) (fun pos e q' h7 => ⟨_, Wk.refl _, ?_⟩); rotate_left 1; (focus (rw [h7, PR.bind_stop] at hR; (refine hpan _ _ ⟨{ n := _, env := [], obs := [(3, pOb l q')], next := 4 }, (Wk.cut rfl (by simp [hn]) (by simp [wkO, getK_cons, getK, getK_append, getK_del, Ob.under, D.under, under_rowsD, under_entD, hi, hne, del, htE, getK_append, getK_del, getK_cons, getK]) (by simp [wkU, keepE, getK_cons, getK, D.under, hi, hne, del, htE, getK_append, getK_del, getK_cons, getK]) (by simp [wkE, keepE, getK_cons, getK, hi, hne, del, htE, getK_append, getK_del, getK_cons, getK])), by simp [hn], ?_⟩; try simp); exact PPost.at_stop hR.symm)); rw [h7, PR.bind_ok] at hR; (try simp [hi, hne, del, htE]))
  obtain ⟨_, g7⟩ := partP_le hl h7 g6
  repeat' (first
    | (refine H_cons ?_; simp [hne, del])
    | (refine H_nil ?_; simp [hne, del])
    | (refine V_sseq ?_; simp [hne, del])
    | fail)
  (refine CallP.pp (order_ret l q7 3 _ (by first | omega | (simp; done) | (simp; omega) | fail) g7 hl) (by first | (simp [hi, hne, del, htE, getK_cons, getK, getK_append, getK_del]; done) | fail) (by rfl) (by first | assumption | (simp; done) | fail) (by rfl) (by simp) (fun order q8 h8 => ?_) (fun pos e q' h8 => ⟨_, Wk.refl _, ?_⟩); rotate_left 1; (focus (rw [h8, PR.bind_stop] at hR; (refine hpan _ _ ⟨{ n := _, env := [], obs := [(3, pOb l q')], next := 4 }, (Wk.cut rfl (by simp [hn]) (by simp [wkO, getK_cons, getK, getK_append, getK_del, Ob.under, D.under, under_rowsD, under_entD, hi, hne, del, htE, getK_append, getK_del, getK_cons, getK]) (by simp [wkU, keepE, getK_cons, getK, D.under, hi, hne, del, htE, getK_append, getK_del, getK_cons, getK]) (by simp [wkE, keepE, getK_cons, getK, hi, hne, del, htE, getK_append, getK_del, getK_cons, getK])), by simp [hn], ?_⟩; try simp); exact PPost.at_stop hR.symm)); rw [h8, PR.bind_ok] at hR; (try simp [hi, hne, del, htE]))
  obtain ⟨_, g8⟩ := orderP_le hl h8 g7
  repeat' (first
    | (refine H_cons ?_; simp [hne, del])
    | (refine H_nil ?_; simp [hne, del])
    | (refine V_sseq ?_; simp [hne, del])
    | (refine CallP_frzV (by first | rfl | fail) ?_; simp [hne, del, frzN, frz1, frz_env, frz_obs, St.frz, St.frzS, frzS, fv, fzVec, fzMap, fzBox, frzObS, frz_entD, frz_rowsD, del, frz, frzOb])
    | fail)
  (refine CallP.pp (part_ret l q8 [98, 97, 99, 107, 115] 0 60 [[59]] 3 _ (by first | omega | (simp; done) | (simp; omega) | fail) g8 hl (by simp)) (by first | (simp [hi, hne, del, htE, getK_cons, getK, getK_append, getK_del]; done) | fail) (by rfl) (by first | assumption | (simp; done) | fail) (by rfl) (by simp) (fun backs q9 h9 => ?_) (fun pos e q' h9 => ⟨_, Wk.refl _, ?_⟩); rotate_left 1; (focus (rw [h9, PR.bind_stop] at hR; (refine hpan _ _ ⟨{ n := _, env := [], obs := [(3, pOb l q')], next := 4 }, (Wk.cut rfl (by simp [hn]) (by simp [wkO, getK_cons, getK, getK_append, getK_del, Ob.under, D.under, under_rowsD, under_entD, hi, hne, del, htE, getK_append, getK_del, getK_cons, getK]) (by simp [wkU, keepE, getK_cons, getK, D.under, hi, hne, del, htE, getK_append, getK_del, getK_cons, getK]) (by simp [wkE, keepE, getK_cons, getK, hi, hne, del, htE, getK_append, getK_del, getK_cons, getK])), by simp [hn], ?_⟩; try simp); exact PPost.at_stop hR.symm)); rw [h9, PR.bind_ok] at hR; (try simp [hi, hne, del, htE]))
  obtain ⟨_, g9⟩ := partP_le hl h9 g8
  repeat' (first
    | (refine H_cons ?_; simp [hne, del])
    | (refine H_nil ?_; simp [hne, del])
    | (refine V_sseq ?_; simp [hne, del])
    | (refine CallP_frzV (by first | rfl | fail) ?_; simp [hne, del, frzN, frz1, frz_env, frz_obs, St.frz, St.frzS, frzS, fv, fzVec, fzMap, fzBox, frzObS, frz_entD, frz_rowsD, del, frz, frzOb])
    | fail)
  (refine CallP.pp (part_ret l q9 [118, 111, 105, 99, 101, 115] 0 1000 [[112, 101, 114], [109, 105, 108, 108, 101], [59]] 3 _ (by first | omega | (simp; done) | (simp; omega) | fail) g9 hl (by simp)) (by first | (simp [hi, hne, del, htE, getK_cons, getK, getK_append, getK_del]; done) | fail) (by rfl) (by first | assumption | (simp; done) | fail) (by rfl) (by simp) (fun voices q10 h10 => ?_) (fun pos e q' h10 => ⟨_, Wk.refl _, ?_⟩); rotate_left 1; (focus (rw [h10, PR.bind_stop] at hR; (refine hpan _ _ ⟨{ n := _, env := [], obs := [(3, pOb l q')], next := 4 }, (Wk.cut rfl (by simp [hn]) (by simp [wkO, getK_cons, getK, getK_append, getK_del, Ob.under, D.under, under_rowsD, under_entD, hi, hne, del, htE, getK_append, getK_del, getK_cons, getK]) (by simp [wkU, keepE, getK_cons, getK, D.under, hi, hne, del, htE, getK_append, getK_del, getK_cons, getK]) (by simp [wkE, keepE, getK_cons, getK, hi, hne, del, htE, getK_append, getK_del, getK_cons, getK])), by simp [hn], ?_⟩; try simp); exact PPost.at_stop hR.symm)); rw [h10, PR.bind_ok] at hR; (try simp [hi, hne, del, htE]))
  obtain ⟨_, g10⟩ := partP_le hl h10 g9
  repeat' (first
    | (refine H_cons ?_; simp [hne, del])
    | (refine H_nil ?_; simp [hne, del])
    | (refine V_sseq ?_; simp [hne, del])
    | (refine CallP_frzV (by first | rfl | fail) ?_; simp [hne, del, frzN, frz1, frz_env, frz_obs, St.frz, St.frzS, frzS, fv, fzVec, fzMap, fzBox, frzObS, frz_entD, frz_rowsD, del, frz, frzOb])
    | fail)
  (refine CallP.pp (part_ret l q10 [106, 117, 114, 121] 0 60 [[59]] 3 _ (by first | omega | (simp; done) | (simp; omega) | fail) g10 hl (by simp)) (by first | (simp [hi, hne, del, htE, getK_cons, getK, getK_append, getK_del]; done) | fail) (by rfl) (by first | assumption | (simp; done) | fail) (by rfl) (by simp) (fun jury q11 h11 => ?_) (fun pos e q' h11 => ⟨_, Wk.refl _, ?_⟩); rotate_left 1; (focus (rw [h11, PR.bind_stop] at hR; (refine hpan _ _ ⟨{ n := _, env := [], obs := [(3, pOb l q')], next := 4 }, (Wk.cut rfl (by simp [hn]) (by simp [wkO, getK_cons, getK, getK_append, getK_del, Ob.under, D.under, under_rowsD, under_entD, hi, hne, del, htE, getK_append, getK_del, getK_cons, getK]) (by simp [wkU, keepE, getK_cons, getK, D.under, hi, hne, del, htE, getK_append, getK_del, getK_cons, getK]) (by simp [wkE, keepE, getK_cons, getK, hi, hne, del, htE, getK_append, getK_del, getK_cons, getK])), by simp [hn], ?_⟩; try simp); exact PPost.at_stop hR.symm)); rw [h11, PR.bind_ok] at hR; (try simp [hi, hne, del, htE]))
  obtain ⟨_, g11⟩ := partP_le hl h11 g10
  repeat' (first
    | (refine H_cons ?_; simp [hne, del])
    | (refine H_nil ?_; simp [hne, del])
    | (refine V_sseq ?_; simp [hne, del])
    | (refine CallP_frzV (by first | rfl | fail) ?_; simp [hne, del, frzN, frz1, frz_env, frz_obs, St.frz, St.frzS, frzS, fv, fzVec, fzMap, fzBox, frzObS, frz_entD, frz_rowsD, del, frz, frzOb])
    | fail)
  (refine CallP.pp (part_ret l q11 [102, 117, 110, 100] 0 1000 [[112, 101, 114], [109, 105, 108, 108, 101], [59]] 3 _ (by first | omega | (simp; done) | (simp; omega) | fail) g11 hl (by simp)) (by first | (simp [hi, hne, del, htE, getK_cons, getK, getK_append, getK_del]; done) | fail) (by rfl) (by first | assumption | (simp; done) | fail) (by rfl) (by simp) (fun fund q12 h12 => ?_) (fun pos e q' h12 => ⟨_, Wk.refl _, ?_⟩); rotate_left 1; (focus (rw [h12, PR.bind_stop] at hR; (refine hpan _ _ ⟨{ n := _, env := [], obs := [(3, pOb l q')], next := 4 }, (Wk.cut rfl (by simp [hn]) (by simp [wkO, getK_cons, getK, getK_append, getK_del, Ob.under, D.under, under_rowsD, under_entD, hi, hne, del, htE, getK_append, getK_del, getK_cons, getK]) (by simp [wkU, keepE, getK_cons, getK, D.under, hi, hne, del, htE, getK_append, getK_del, getK_cons, getK]) (by simp [wkE, keepE, getK_cons, getK, hi, hne, del, htE, getK_append, getK_del, getK_cons, getK])), by simp [hn], ?_⟩; try simp); exact PPost.at_stop hR.symm)); rw [h12, PR.bind_ok] at hR; (try simp [hi, hne, del, htE]))
  obtain ⟨_, g12⟩ := partP_le hl h12 g11
  repeat' (first
    | (refine H_cons ?_; simp [hne, del])
    | (refine H_nil ?_; simp [hne, del])
    | (refine V_sseq ?_; simp [hne, del])
    | fail)
  refine V_wk _ (Wk.ownC 5 _ 11 137 6 (by decide) rfl rfl) ?_
  simp [St.ownC]
  refine V_loopO (α := { x : Nat × List Let × Nat // x.1 < l.length ∧ x.2.1.length + x.2.2 = 21 ∧ x.2.1.length ≤ 20 ∧ letsP l 21 q12 [] = letsP l x.2.2 x.1 x.2.1 }) [0, 2, 3] (fun x => [])
    (fun x => [(5, .box [.u (.int .i64 kb.1), .u (.int .i64 period), .u (.int .i64 grace), .u (.int .i64 wait), .u (.int .i64 last), .u (.int .i64 order), .u (.bool kb.2), .u (.int .i64 backs), .u (.int .i64 voices), .u (.int .i64 jury), .u (.int .i64 fund), .vec 14 x.1.2.1.length, .u (.int .i64 0), .u (.int .i64 0), .u (.int .i64 0), .u (.str []), .u .nil, .u (.int .i64 0), .u (.int .i64 0), .u (.int .i64 0), .u (.str []), .u .nil, .u (.int .i64 0), .u (.int .i64 0), .u (.int .i64 0), .u (.str []), .u .nil, .u (.int .i64 0), .u (.int .i64 0), .u (.int .i64 0), .u (.str []), .u .nil, .u (.int .i64 0), .u (.int .i64 0), .u (.int .i64 0), .u (.str []), .u .nil]), (14, .vec 137 6 (rowsD (letsL x.1.2.1))), (4, .box [.u (.int .i64 0), .u (.int .i64 0), .u (.int .i64 0), .u (.int .i64 0), .u (.int .i64 0), .u (.int .i64 0), .u (.bool false), .u (.int .i64 0), .u (.int .i64 0), .u (.int .i64 0), .u (.int .i64 0), .u .nil, .u (.int .i64 0), .u (.int .i64 0), .u (.int .i64 0), .u (.str []), .u .nil, .u (.int .i64 0), .u (.int .i64 0), .u (.int .i64 0), .u (.str []), .u .nil, .u (.int .i64 0), .u (.int .i64 0), .u (.int .i64 0), .u (.str []), .u .nil, .u (.int .i64 0), .u (.int .i64 0), .u (.int .i64 0), .u (.str []), .u .nil, .u (.int .i64 0), .u (.int .i64 0), .u (.int .i64 0), .u (.str []), .u .nil]), (3, pOb l x.1.1)]) 15 (fun x => x.1.2.2) ⟨(q12, [], 21), g12, rfl, by simp, rfl⟩ ?_ ?_
  · exact (Wk.cut rfl (by simp [hn, St.lp]) (by simp [wkO, St.lp, getK_cons, getK, Ob.under, D.under, under_rowsD, under_entD, letsL]) (by simp [wkU, St.lp, keepE, getK_cons, getK, D.under, letsL]) (by simp [wkE, St.lp, keepE, getK_cons, getK, letsL] <;> (try (intros; simp_all; done)) <;> (try (intros; omega)) <;> (try grind)))
  rintro ⟨⟨q, acc, g⟩, gq, hg, hg2, hS⟩
  simp only at gq hg hg2 hS
  simp [St.lp, St.only, keepE, getK_cons, getK]
  have hm := is_fun l q [108, 101, 116] gq hl.len
  have hAl := letsL_len acc
  have hsn := letsL_snoc acc
  generalize hA : letsL acc = A at *
  have htk : A.take acc.length = A := List.take_of_length_le (by omega)
  obtain ⟨g, rfl⟩ : ∃ g', g = g' + 1 := ⟨g - 1, by omega⟩
  by_cases hb : isB l q [108, 101, 116] = true
  · have g1q := isB_lt hl hb
    obtain ⟨t, ht⟩ : ∃ t, l[q + 1]? = some t := ⟨_, List.getElem?_eq_getElem g1q⟩
    have hnx := pnext_fun l (q + 1) t ht hl.len
    rw [letsP_step ht, if_pos hb] at hS
    rw [hS, PR.bind_assoc] at hR
    rw [hb] at hm
    repeat' (first
    | (refine H_cons ?_; simp [hne, del, hAl])
    | (refine H_nil ?_; simp [hne, del, hAl])
    | (refine V_sseq ?_; simp [hne, del, hAl])
    | (refine V_scond ?_; simp [hne, del, hAl])
    | (refine V_sblock ?_; simp [hne, del, hAl])
    | (refine V_skip ?_; simp only [RunK])
    | (refine CallP.fun_ (hm) (by first | rfl | fail) (by first | assumption | (simp; done) | fail) (by first | (simp [hne, del, hAl]; done) | (simp [hne, del, hAl]; rfl) | fail) (by first | (simp; done) | fail) (fun d hd => ?_); subst hd; (try simp [hne, del, hAl]))
    | fail)
    (refine CallP.pp (chk_ret l q (decide ((acc.length : Int) < 20)) 6 3 _ (by first | omega | (simp; done) | (simp; omega) | fail) gq hl) (by first | (simp [hi, hne, del, getK_cons, getK, getK_append, getK_del]; done) | fail) (by rfl) (by first | assumption | (simp; done) | fail) (by rfl) (by simp) (fun u20 q20 h20 => ?_) (fun pos e q' h20 => ⟨_, Wk.refl _, ?_⟩); rotate_left 1; (focus (rw [h20, PR.bind_stop] at hR; (refine hpan _ _ ⟨{ n := _, env := [], obs := [(3, pOb l q')], next := 4 }, (Wk.cut rfl (by simp [hn]) (by simp [wkO, getK_cons, getK, getK_append, getK_del, Ob.under, D.under, under_rowsD, under_entD, hi, hne, del, getK_append, getK_del, getK_cons, getK]) (by simp [wkU, keepE, getK_cons, getK, D.under, hi, hne, del, getK_append, getK_del, getK_cons, getK]) (by simp [wkE, keepE, getK_cons, getK, hi, hne, del, getK_append, getK_del, getK_cons, getK])), by simp [hn], ?_⟩; try simp); exact PPost.at_stop hR.symm)); rw [h20, PR.bind_ok] at hR; (try simp [hi, hne, del]))
    obtain ⟨rfl, hlt⟩ := chk_ok h20
    rw [h20, PR.bind_ok] at hS
    rw [PR.bind_assoc] at hR
    by_cases hw : t.kind = 1
    case neg =>
      have hc2 := fun e nx' (h : 15 ≤ nx') => check_pan l (q20 + 1) t e 3 nx' (by omega) ht hl.len
      have e3 : chkP l (q20 + 1) (decide (t.kind = 1) && nameB t.text) 12 = .stop t.pos 12 := by
        unfold chkP posAt; rw [ht]; simp [hw]
      rw [e3, PR.bind_stop] at hR
      repeat' (first
    | (refine H_cons ?_; simp [hne, del, hw])
    | (refine H_nil ?_; simp [hne, del, hw])
    | (refine ⟨by omega, ?_⟩)
    | (refine V_sseq ?_; simp [hne, del, hw])
    | (refine CallP.fun_ (hnx) (by first | rfl | fail) (by first | assumption | (simp; done) | fail) (by first | (simp [hne, del, hw]; done) | (simp [hne, del, hw]; rfl) | fail) (by first | (simp; done) | fail) (fun d hd => ?_); subst hd; (try simp [hne, del, hw]))
    | (refine CallP.pan1 (hc2 _ _ (by first | omega | (simp; done) | (simp; omega) | fail)) (by first | (simp [hne, del, hw, getK_cons, getK, getK_append, getK_del]; done) | fail) (by rfl) (by first | assumption | (simp; done) | fail) (by rfl) (by simp) ?_; rintro ob' ⟨q', rfl⟩; refine ⟨_, Wk.refl _, ?_⟩)
    | fail)
      (refine hpan _ _ ⟨{ n := _, env := [], obs := [(3, pOb l q')], next := 4 }, (Wk.cut rfl (by simp [hn]) (by simp [wkO, getK_cons, getK, getK_append, getK_del, Ob.under, D.under, under_rowsD, under_entD, hi, hne, getK_append, getK_del, getK_cons, getK]) (by simp [wkU, keepE, getK_cons, getK, D.under, hi, hne, getK_append, getK_del, getK_cons, getK]) (by simp [wkE, keepE, getK_cons, getK, hi, hne, getK_append, getK_del, getK_cons, getK])), by simp [hn], ?_⟩; try simp)
      exact PPost.at_stop hR.symm
    have hnm := name_fun t.text
    have e3 : (decide (t.kind = 1) && nameB t.text) = nameB t.text := by simp [hw]
    rw [e3] at hR hS
    generalize nameB t.text = nb at hnm hR hS
    repeat' (first
    | (refine H_cons ?_; simp [hne, del, hw])
    | (refine H_nil ?_; simp [hne, del, hw])
    | (refine ⟨by omega, ?_⟩)
    | (refine V_sseq ?_; simp [hne, del, hw])
    | (refine CallP.fun_ (hnx) (by first | rfl | fail) (by first | assumption | (simp; done) | fail) (by first | (simp [hne, del, hw]; done) | (simp [hne, del, hw]; rfl) | fail) (by first | (simp; done) | fail) (fun d hd => ?_); subst hd; (try simp [hne, del, hw]))
    | (refine CallP.fun_ (hnm) (by first | rfl | fail) (by first | assumption | (simp; done) | fail) (by first | (simp [hne, del, hw]; done) | (simp [hne, del, hw]; rfl) | fail) (by first | (simp; done) | fail) (fun d hd => ?_); subst hd; (try simp [hne, del, hw]))
    | fail)
    (refine CallP.pp (chk_ret l (q20 + 1) nb 12 3 _ (by first | omega | (simp; done) | (simp; omega) | fail) g1q hl) (by first | (simp [hi, hne, del, getK_cons, getK, getK_append, getK_del]; done) | fail) (by rfl) (by first | assumption | (simp; done) | fail) (by rfl) (by simp) (fun u21 q21 h21 => ?_) (fun pos e q' h21 => ⟨_, Wk.refl _, ?_⟩); rotate_left 1; (focus (rw [h21, PR.bind_stop] at hR; (refine hpan _ _ ⟨{ n := _, env := [], obs := [(3, pOb l q')], next := 4 }, (Wk.cut rfl (by simp [hn]) (by simp [wkO, getK_cons, getK, getK_append, getK_del, Ob.under, D.under, under_rowsD, under_entD, hi, hne, del, getK_append, getK_del, getK_cons, getK]) (by simp [wkU, keepE, getK_cons, getK, D.under, hi, hne, del, getK_append, getK_del, getK_cons, getK]) (by simp [wkE, keepE, getK_cons, getK, hi, hne, del, getK_append, getK_del, getK_cons, getK])), by simp [hn], ?_⟩; try simp); exact PPost.at_stop hR.symm)); rw [h21, PR.bind_ok] at hR; (try simp [hi, hne, del]))
    obtain ⟨rfl, hnb⟩ := chk_ok h21
    rw [h21, PR.bind_ok] at hS
    rw [PR.bind_assoc] at hR
    have htw := twice_fun acc t.text
    have htw : Fun Tryz.prog 90 [.u (.sl (letsL acc)), .fnc (.func 128) [.u (.row [.str t.text] 0)]] (· = .u (.bool (acc.any fun x => decide (x.name = t.text)))) := htw
    rw [hA] at htw
    generalize (acc.any fun x => decide (x.name = t.text)) = tb at htw hR hS
    repeat' (first
    | (refine H_cons ?_; simp [hne, del, hw, htk, hAl])
    | (refine H_nil ?_; simp [hne, del, hw, htk, hAl])
    | (refine V_sseq ?_; simp [hne, del, hw, htk, hAl])
    | (refine CallP.fun_ (htw) (by first | rfl | fail) (by first | assumption | (simp; done) | fail) (by first | (simp [hne, del, hw, htk, hAl]; done) | (simp [hne, del, hw, htk, hAl]; rfl) | fail) (by first | (simp; done) | fail) (fun d hd => ?_); subst hd; (try simp [hne, del, hw, htk, hAl]))
    | fail)
    (refine CallP.pp (chk_ret l (q20 + 1) (!tb) 5 3 _ (by first | omega | (simp; done) | (simp; omega) | fail) g1q hl) (by first | (simp [hi, hne, del, getK_cons, getK, getK_append, getK_del]; done) | fail) (by rfl) (by first | assumption | (simp; done) | fail) (by rfl) (by simp) (fun u22 q22 h22 => ?_) (fun pos e q' h22 => ⟨_, Wk.refl _, ?_⟩); rotate_left 1; (focus (rw [h22, PR.bind_stop] at hR; (refine hpan _ _ ⟨{ n := _, env := [], obs := [(3, pOb l q')], next := 4 }, (Wk.cut rfl (by simp [hn]) (by simp [wkO, getK_cons, getK, getK_append, getK_del, Ob.under, D.under, under_rowsD, under_entD, hi, hne, del, getK_append, getK_del, getK_cons, getK]) (by simp [wkU, keepE, getK_cons, getK, D.under, hi, hne, del, getK_append, getK_del, getK_cons, getK]) (by simp [wkE, keepE, getK_cons, getK, hi, hne, del, getK_append, getK_del, getK_cons, getK])), by simp [hn], ?_⟩; try simp); exact PPost.at_stop hR.symm)); rw [h22, PR.bind_ok] at hR; (try simp [hi, hne, del]))
    obtain ⟨rfl, htb⟩ := chk_ok h22
    rw [h22, PR.bind_ok] at hS
    rw [PR.bind_assoc] at hR
    have g2q := hl.fin (q20 + 1) t ht (by omega)
    repeat' (first
    | (refine H_cons ?_; simp [hne, del])
    | (refine H_nil ?_; simp [hne, del])
    | (refine ⟨by omega, ?_⟩)
    | (refine V_sseq ?_; simp [hne, del])
    | (refine CallP_frzV (by first | rfl | fail) ?_; simp [hne, del, frzN, frz1, frz_env, frz_obs, St.frz, St.frzS, frzS, fv, fzVec, fzMap, fzBox, frzObS, frz_entD, frz_rowsD, del, frz, frzOb])
    | fail)
    (refine CallP.pp (want1 hl [61] (q := q20 + 1 + 1) (i := 3) (by first | omega | (simp; done) | (simp; omega) | fail) g2q) (by first | (simp [hi, hne, del, getK_cons, getK, getK_append, getK_del]; done) | fail) (by rfl) (by first | assumption | (simp; done) | fail) (by rfl) (by simp) (fun u23 q23 h23 => ?_) (fun pos e q' h23 => ⟨_, Wk.refl _, ?_⟩); rotate_left 1; (focus (rw [h23, PR.bind_stop] at hR; (refine hpan _ _ ⟨{ n := _, env := [], obs := [(3, pOb l q')], next := 4 }, (Wk.cut rfl (by simp [hn]) (by simp [wkO, getK_cons, getK, getK_append, getK_del, Ob.under, D.under, under_rowsD, under_entD, hi, hne, del, getK_append, getK_del, getK_cons, getK]) (by simp [wkU, keepE, getK_cons, getK, D.under, hi, hne, del, getK_append, getK_del, getK_cons, getK]) (by simp [wkE, keepE, getK_cons, getK, hi, hne, del, getK_append, getK_del, getK_cons, getK])), by simp [hn], ?_⟩; try simp); exact PPost.at_stop hR.symm)); rw [h23, PR.bind_ok] at hR; (try simp [hi, hne, del]))
    obtain ⟨_, g23⟩ := wantP_le hl _ h23 g2q
    rw [h23, PR.bind_ok] at hS
    rw [PR.bind_assoc] at hR
    have hwh := fun nx' (h : 15 ≤ nx') => whole_ret l q23 3 nx' (by omega) g23 hl hl2
    cases hr : wholeP l q23 with
    | stop pos e =>
      rw [hr, PR.bind_stop] at hR
      simp only [hr] at hwh
      repeat' (first
    | (refine HD4_pan1 (fun nx' h' => hwh nx' (by simp at h'; omega)) (by first | (simp [hne, del, htk, hAl, getK_cons, getK, getK_append, getK_del, getK_setOb, applyW]; done) | fail) (by rfl) (by first | assumption | simp) (by rfl) (by simp) ?_ ?_; rintro env' ob' n' hn' ⟨q', rfl⟩; refine ⟨_, Wk.refl _, ?_⟩)
    | (refine HD4_skipS rfl (by simp) ?_; simp)
    | (refine HD4_val rfl ?_; simp [hne, del, htk, hAl])
    | (refine H_nil ?_; simp [hne, del, htk, hAl])
    | (refine HD4_nilS (hC _ (by kernel_rfl)) rfl; done)
    | (refine V_drawX rfl (by kernel_rfl) (by first | (simp [hn]; done) | (simp [hn]; omega) | fail) fun C k hC hk => ?_; simp [hne, del, htk, hAl])
    | fail)
      (refine hpan _ _ ⟨{ n := _, env := [], obs := [(3, pOb l q')], next := 4 }, (Wk.cut rfl (by simp [hn]) (by simp [wkO, getK_cons, getK, getK_append, getK_del, Ob.under, D.under, under_rowsD, under_entD, hi, hne, getK_append, getK_del, getK_cons, getK]) (by simp [wkU, keepE, getK_cons, getK, D.under, hi, hne, getK_append, getK_del, getK_cons, getK]) (by simp [wkE, keepE, getK_cons, getK, hi, hne, getK_append, getK_del, getK_cons, getK])), by simp [hn], ?_⟩; try simp)
      exact PPost.at_stop hR.symm
    | ok e r =>
      have hwh := fun nx' h => exp_ok (hwh nx' h) hr
      obtain ⟨_, g24⟩ := wholeP_le hl hr g23
      rw [hr, PR.bind_ok] at hS
      repeat' (first
    | (refine HD4_ok1 (fun nx' h' => hwh nx' (by simp at h'; omega)) (by first | (simp [hne, del, htk, hAl, getK_cons, getK, getK_append, getK_del, getK_setOb, applyW]; done) | fail) (by rfl) (by first | assumption | simp) (by rfl) (by simp [D.under, Ob.under]) (by simp) ?_; (try simp [hne, del, htk, hAl]))
    | (refine HD4_val rfl ?_; simp [hne, del, htk, hAl])
    | (refine HD4_chg rfl ?_; simp [hne, del, htk, hAl])
    | (refine H_nil ?_; simp [hne, del, htk, hAl])
    | (refine ⟨by omega, ?_⟩)
    | (refine HD4_nil (hC _ (by kernel_rfl)) (hk _ ?_); clear hC hk C k; simp only [RunK])
    | (refine V_drawX rfl (by kernel_rfl) (by first | (simp [hn]; done) | (simp [hn]; omega) | fail) fun C k hC hk => ?_; simp [hne, del, htk, hAl])
    | fail)
      have hlt' : acc.length < 20 := by have := of_decide_eq_true hlt; omega
      refine LoopW.next ⟨(r, acc ++ [⟨t.text, e⟩], g), g24, (by simp; omega), (by simp; omega), hS⟩ (by simp) ?_
      exact (Wk.ren ((fun j => if j = 14 then 18 else j)) rfl (by first | (simp [hn]; done) | (intro i hi; rw [hn] at hi; constructor <;> (try simp) <;> (try (intro _)) <;> omega)) (by simp [wkER, St.lp, keepE, getK_cons, getK, getK_del, getK_setOb, D.under, D.le, D.ren, hsn, htk] <;> (try (intros; simp_all; done)) <;> (try omega)) (by simp [wkR, St.lp, getK_cons, getK, getK_del, getK_setOb, obR, leU, pureRow, pureRows, Ob.under, D.under, D.le, D.ren, hsn, htk] <;> (try (intros; simp_all; done)) <;> (try omega)) (by simp [hsn, htk]))
  · rw [letsP_end hb] at hS
    rw [hS, PR.bind_ok] at hR
    have hb2 : isB l q [108, 101, 116] = false := by simpa using hb
    rw [hb2] at hm
    repeat' (first
    | (refine H_cons ?_; simp [hne, del])
    | (refine H_nil ?_; simp [hne, del])
    | (refine V_sseq ?_; simp [hne, del])
    | (refine V_scond ?_; simp [hne, del])
    | (refine V_exit ?_; simp [RunK])
    | (refine CallP.fun_ (hm) (by first | rfl | fail) (by first | assumption | (simp; done) | fail) (by first | (simp [hne, del]; done) | (simp [hne, del]; rfl) | fail) (by first | (simp; done) | fail) (fun d hd => ?_); subst hd; (try simp [hne, del]))
    | (refine CallP_frzV (by first | rfl | fail) ?_; simp [hne, del, frzN, frz1, frz_env, frz_obs, St.frz, St.frzS, frzS, fv, fzVec, fzMap, fzBox, frzObS, frz_entD, frz_rowsD, del, frz, frzOb])
    | fail)
    (refine CallP.pp (want1 hl [100, 117, 101] (q := q) (i := 3) (by first | omega | (simp; done) | (simp; omega) | fail) gq) (by first | (simp [hi, hne, del, getK_cons, getK, getK_append, getK_del]; done) | fail) (by rfl) (by first | assumption | (simp; done) | fail) (by rfl) (by simp) (fun u30 q30 h30 => ?_) (fun pos e q' h30 => ⟨_, Wk.refl _, ?_⟩); rotate_left 1; (focus (rw [h30, PR.bind_stop] at hR; (refine hpan _ _ ⟨{ n := _, env := [], obs := [(3, pOb l q')], next := 4 }, (Wk.cut rfl (by simp [hn]) (by simp [wkO, getK_cons, getK, getK_append, getK_del, Ob.under, D.under, under_rowsD, under_entD, hi, hne, del, getK_append, getK_del, getK_cons, getK]) (by simp [wkU, keepE, getK_cons, getK, D.under, hi, hne, del, getK_append, getK_del, getK_cons, getK]) (by simp [wkE, keepE, getK_cons, getK, hi, hne, del, getK_append, getK_del, getK_cons, getK])), by simp [hn], ?_⟩; try simp); exact PPost.at_stop hR.symm)); rw [h30, PR.bind_ok] at hR; (try simp [hi, hne, del]))
    obtain ⟨_, g30⟩ := wantP_le hl _ h30 gq
    repeat' (first
    | (refine H_cons ?_; simp [hne, del])
    | (refine H_nil ?_; simp [hne, del])
    | (refine V_sseq ?_; simp [hne, del])
    | fail)
    (refine CallP.pp (whole_ret l q30 3 _ (by first | omega | (simp; done) | (simp; omega) | fail) g30 hl hl2) (by first | (simp [hi, hne, del, expD, Exp.row_eq, getK_cons, getK, getK_append, getK_del]; done) | fail) (by rfl) (by first | assumption | (simp; done) | fail) (by rfl) (by simp) (fun due q31 h31 => ?_) (fun pos e q' h31 => ⟨_, Wk.refl _, ?_⟩); rotate_left 1; (focus (rw [h31, PR.bind_stop] at hR; (refine hpan _ _ ⟨{ n := _, env := [], obs := [(3, pOb l q')], next := 4 }, (Wk.cut rfl (by simp [hn]) (by simp [wkO, getK_cons, getK, getK_append, getK_del, Ob.under, D.under, under_rowsD, under_entD, hi, hne, del, expD, Exp.row_eq, getK_append, getK_del, getK_cons, getK]) (by simp [wkU, keepE, getK_cons, getK, D.under, hi, hne, del, expD, Exp.row_eq, getK_append, getK_del, getK_cons, getK]) (by simp [wkE, keepE, getK_cons, getK, hi, hne, del, expD, Exp.row_eq, getK_append, getK_del, getK_cons, getK])), by simp [hn], ?_⟩; try simp); exact PPost.at_stop hR.symm)); rw [h31, PR.bind_ok] at hR; (try simp [hi, hne, del, expD, Exp.row_eq]))
    obtain ⟨_, g31⟩ := wholeP_le hl h31 g30
    repeat' (first
    | (refine H_cons ?_; simp [hne, del])
    | (refine H_nil ?_; simp [hne, del])
    | (refine V_sseq ?_; simp [hne, del])
    | fail)
    (refine CallP.pp (clause_ret l q31 [102, 105, 110, 101] 3 _ (by first | omega | (simp; done) | (simp; omega) | fail) g31 hl hl2) (by first | (simp [hi, hne, del, expD, Exp.row_eq, getK_cons, getK, getK_append, getK_del]; done) | fail) (by rfl) (by first | assumption | (simp; done) | fail) (by rfl) (by simp) (fun fine q32 h32 => ?_) (fun pos e q' h32 => ⟨_, Wk.refl _, ?_⟩); rotate_left 1; (focus (rw [h32, PR.bind_stop] at hR; (refine hpan _ _ ⟨{ n := _, env := [], obs := [(3, pOb l q')], next := 4 }, (Wk.cut rfl (by simp [hn]) (by simp [wkO, getK_cons, getK, getK_append, getK_del, Ob.under, D.under, under_rowsD, under_entD, hi, hne, del, expD, Exp.row_eq, getK_append, getK_del, getK_cons, getK]) (by simp [wkU, keepE, getK_cons, getK, D.under, hi, hne, del, expD, Exp.row_eq, getK_append, getK_del, getK_cons, getK]) (by simp [wkE, keepE, getK_cons, getK, hi, hne, del, expD, Exp.row_eq, getK_append, getK_del, getK_cons, getK])), by simp [hn], ?_⟩; try simp); exact PPost.at_stop hR.symm)); rw [h32, PR.bind_ok] at hR; (try simp [hi, hne, del, expD, Exp.row_eq]))
    obtain ⟨_, g32⟩ := clauseP_le hl h32 g31
    repeat' (first
    | (refine H_cons ?_; simp [hne, del])
    | fail)
    (refine CallP.pp (clause_ret l q32 [112, 97, 121] 3 _ (by first | omega | (simp; done) | (simp; omega) | fail) g32 hl hl2) (by first | (simp [hi, hne, del, expD, Exp.row_eq, getK_cons, getK, getK_append, getK_del]; done) | fail) (by rfl) (by first | assumption | (simp; done) | fail) (by rfl) (by simp) (fun pay q33 h33 => ?_) (fun pos e q' h33 => ⟨_, Wk.refl _, ?_⟩); rotate_left 1; (focus (rw [h33, PR.bind_stop] at hR; (refine hpan _ _ ⟨{ n := _, env := [], obs := [(3, pOb l q')], next := 4 }, (Wk.cut rfl (by simp [hn]) (by simp [wkO, getK_cons, getK, getK_append, getK_del, Ob.under, D.under, under_rowsD, under_entD, hi, hne, del, expD, Exp.row_eq, getK_append, getK_del, getK_cons, getK]) (by simp [wkU, keepE, getK_cons, getK, D.under, hi, hne, del, expD, Exp.row_eq, getK_append, getK_del, getK_cons, getK]) (by simp [wkE, keepE, getK_cons, getK, hi, hne, del, expD, Exp.row_eq, getK_append, getK_del, getK_cons, getK])), by simp [hn], ?_⟩; try simp); exact PPost.at_stop hR.symm)); rw [h33, PR.bind_ok] at hR; (try simp [hi, hne, del, expD, Exp.row_eq]))
    obtain ⟨_, g33⟩ := clauseP_le hl h33 g32
    repeat' (first
    | (refine H_cons ?_; simp [hne, del])
    | fail)
    (refine CallP.pp (clause_ret l q33 [99, 111, 118, 101, 114] 3 _ (by first | omega | (simp; done) | (simp; omega) | fail) g33 hl hl2) (by first | (simp [hi, hne, del, expD, Exp.row_eq, getK_cons, getK, getK_append, getK_del]; done) | fail) (by rfl) (by first | assumption | (simp; done) | fail) (by rfl) (by simp) (fun cover q34 h34 => ?_) (fun pos e q' h34 => ⟨_, Wk.refl _, ?_⟩); rotate_left 1; (focus (rw [h34, PR.bind_stop] at hR; (refine hpan _ _ ⟨{ n := _, env := [], obs := [(3, pOb l q')], next := 4 }, (Wk.cut rfl (by simp [hn]) (by simp [wkO, getK_cons, getK, getK_append, getK_del, Ob.under, D.under, under_rowsD, under_entD, hi, hne, del, expD, Exp.row_eq, getK_append, getK_del, getK_cons, getK]) (by simp [wkU, keepE, getK_cons, getK, D.under, hi, hne, del, expD, Exp.row_eq, getK_append, getK_del, getK_cons, getK]) (by simp [wkE, keepE, getK_cons, getK, hi, hne, del, expD, Exp.row_eq, getK_append, getK_del, getK_cons, getK])), by simp [hn], ?_⟩; try simp); exact PPost.at_stop hR.symm)); rw [h34, PR.bind_ok] at hR; (try simp [hi, hne, del, expD, Exp.row_eq]))
    obtain ⟨_, g34⟩ := clauseP_le hl h34 g33
    repeat' (first
    | (refine H_cons ?_; simp [hne, del])
    | fail)
    (refine CallP.pp (clause_ret l q34 [104, 111, 108, 100] 3 _ (by first | omega | (simp; done) | (simp; omega) | fail) g34 hl hl2) (by first | (simp [hi, hne, del, expD, Exp.row_eq, getK_cons, getK, getK_append, getK_del]; done) | fail) (by rfl) (by first | assumption | (simp; done) | fail) (by rfl) (by simp) (fun hold q35 h35 => ?_) (fun pos e q' h35 => ⟨_, Wk.refl _, ?_⟩); rotate_left 1; (focus (rw [h35, PR.bind_stop] at hR; (refine hpan _ _ ⟨{ n := _, env := [], obs := [(3, pOb l q')], next := 4 }, (Wk.cut rfl (by simp [hn]) (by simp [wkO, getK_cons, getK, getK_append, getK_del, Ob.under, D.under, under_rowsD, under_entD, hi, hne, del, expD, Exp.row_eq, getK_append, getK_del, getK_cons, getK]) (by simp [wkU, keepE, getK_cons, getK, D.under, hi, hne, del, expD, Exp.row_eq, getK_append, getK_del, getK_cons, getK]) (by simp [wkE, keepE, getK_cons, getK, hi, hne, del, expD, Exp.row_eq, getK_append, getK_del, getK_cons, getK])), by simp [hn], ?_⟩; try simp); exact PPost.at_stop hR.symm)); rw [h35, PR.bind_ok] at hR; (try simp [hi, hne, del, expD, Exp.row_eq]))
    obtain ⟨_, g35⟩ := clauseP_le hl h35 g34
    obtain ⟨t, ht⟩ : ∃ t, l[q35]? = some t := ⟨_, List.getElem?_eq_getElem g35⟩
    have hnx := pnext_fun l q35 t ht hl.len
    repeat' (first
    | (refine H_cons ?_; simp [hne, del])
    | (refine H_nil ?_; simp [hne, del])
    | (refine V_sseq ?_; simp [hne, del])
    | (refine CallP.fun_ (hnx) (by first | rfl | fail) (by first | assumption | (simp; done) | fail) (by first | (simp [hne, del]; done) | (simp [hne, del]; rfl) | fail) (by first | (simp; done) | fail) (fun d hd => ?_); subst hd; (try simp [hne, del]))
    | fail)
    (refine CallP.pp (end_ret ht 3 _ (by first | omega | (simp; done) | (simp; omega) | fail) hl) (by first | (simp [hi, hne, del, getK_cons, getK, getK_append, getK_del]; done) | fail) (by rfl) (by first | assumption | (simp; done) | fail) (by rfl) (by simp) (fun u36 q36 h36 => ?_) (fun pos e q' h36 => ⟨_, Wk.refl _, ?_⟩); rotate_left 1; (focus (rw [h36, PR.bind_stop] at hR; (refine hpan _ _ ⟨{ n := _, env := [], obs := [(3, pOb l q')], next := 4 }, (Wk.cut rfl (by simp [hn]) (by simp [wkO, getK_cons, getK, getK_append, getK_del, Ob.under, D.under, under_rowsD, under_entD, hi, hne, del, getK_append, getK_del, getK_cons, getK]) (by simp [wkU, keepE, getK_cons, getK, D.under, hi, hne, del, getK_append, getK_del, getK_cons, getK]) (by simp [wkE, keepE, getK_cons, getK, hi, hne, del, getK_append, getK_del, getK_cons, getK])), by simp [hn], ?_⟩; try simp); exact PPost.at_stop hR.symm)); rw [h36, PR.bind_ok] at hR; (try simp [hi, hne, del]))
    obtain rfl := end_ok h36
    repeat' (first
    | (refine H_cons ?_; simp [hne, del])
    | (refine H_nil ?_; simp [hne, del])
    | (refine V_sseq ?_; simp [hne, del])
    | (refine V_ret ?_; simp only [RunK])
    | fail)
    (refine EndW.frzN 1 ?_; simp [frzN, frz1, frz_env, frz_obs, St.frz, St.frzS, frzS, fv, fzVec, fzMap, fzBox, frzObS, frz_entD, frz_rowsD, del, frz, frzOb, hAl, htk])
    refine EndW.norm ?_
    simp [St.norm, normOb, normD, normU, norm1, hne]
    (refine EndW.here ?_; (first | (refine EndOK.fin (.inr rfl) ?_) | (refine EndOK.fin (.inl rfl) ?_)); simp [resD, oneOrTup, Tryz.results64, hne, hi]; refine FinOK.cut [(3, pOb l q36)] (4) (by simp [getK_cons, getK, getK_append, getK_del, Ob.under, D.under, under_rowsD, under_entD, hne, hi] <;> omega) (by simp [D.under]) (by simp [hn]) ?_; try simp)
    exact PPost.at_ok hR.symm (by simp [byCells, ← hA, letsL]) rfl
end Go.Proofs.YtepiegcjnaohjaaGreatDoor
namespace Go.Proofs.YtepiegcjnaohjaaGreatDoor
open Go Go.VL
def zeroBy : By := ⟨0, 0, 0, 0, 0, 0, false, 0, 0, 0, 0, [], zeroE, zeroE, zeroE, zeroE, zeroE⟩
/-- What Parse returns: the bylaws, the place, the error. -/
def parseB (s : W8) : By × Int × Int := match lexL s with
  | .error (p, e) => (zeroBy, p, e)
  | .ok l => match bylP l with
    | .stop pos e => (zeroBy, pos, e)
    | .ok b _ => (b, 0, 0)
def bOut (r : By × Int × Int) : D := .tup [.u (.agg (byCells r.1)), .u (.int .i64 r.2.1), .u (.int .i64 r.2.2)]
abbrev byOb0 : Ob := .box [.u (.int .i64 0), .u (.int .i64 0), .u (.int .i64 0), .u (.int .i64 0), .u (.int .i64 0), .u (.int .i64 0), .u (.bool false), .u (.int .i64 0), .u (.int .i64 0), .u (.int .i64 0), .u (.int .i64 0), .u .nil, .u (.int .i64 0), .u (.int .i64 0), .u (.int .i64 0), .u (.str []), .u .nil, .u (.int .i64 0), .u (.int .i64 0), .u (.int .i64 0), .u (.str []), .u .nil, .u (.int .i64 0), .u (.int .i64 0), .u (.int .i64 0), .u (.str []), .u .nil, .u (.int .i64 0), .u (.int .i64 0), .u (.int .i64 0), .u (.str []), .u .nil, .u (.int .i64 0), .u (.int .i64 0), .u (.int .i64 0), .u (.str []), .u .nil]
end Go.Proofs.YtepiegcjnaohjaaGreatDoor
namespace Go.Proofs.YtepiegcjnaohjaaGreatDoor
open Go Go.VL
mutual
def levS : Exp → Int
  | .mk _ _ _ _ args => levsS args + 1
def levsS : List Exp → Int
  | [] => 0
  | e :: l => max (levS e) (levsS l)
end
theorem foldl_max_cons (l : List Int) (a : Int) (ha : 0 ≤ a) : l.foldl max a = max a (l.foldl max 0) := by
  induction l generalizing a with
  | nil => simp; omega
  | cons b l ih => simp only [List.foldl_cons]; rw [ih (max a b) (by omega), ih (max 0 b) (by omega)]; omega
mutual
theorem levS_eq : ∀ e : Exp, levS e = e.lev
  | .mk op n u s args => by rw [levS, Exp.lev_eq, levsS_eq]; rfl
theorem levsS_eq : ∀ l : List Exp, levsS l = (l.map Exp.lev).foldl max 0
  | [] => by rw [levsS]; rfl
  | e :: l => by
    have := e.lev_pos
    rw [levsS, levS_eq, levsS_eq, List.map_cons, List.foldl_cons, foldl_max_cons (l.map Exp.lev) (max 0 e.lev) (by omega)]
    omega
end
/-- The same az parseX, to be computed with. -/
def parseY (s : List UInt8) : Exp × Int × Int := match lexL s with
  | .error (p, e) => (zeroE, p, e)
  | .ok l => match expP l (4 * l.length + 3) 0 0 with
    | .stop pos e => (zeroE, pos, e)
    | .ok y q => if kindAt l q ≠ 0 then (zeroE, posAt l q, 12) else if 12 < levS y then (zeroE, posAt l q, 6) else (y, 0, 0)
def wholeY (l : List Tok) (p : Nat) : PR Exp := (expP l (4 * l.length + 3) p 0).bind fun e q =>
  if isB l q [59] = true then if levS e ≤ 12 then .ok e (q + 1) else .stop (posAt l q) 6 else .stop (posAt l q) 12
def letsY (l : List Tok) : Nat → Nat → List Let → PR (List Let)
  | 0, _, _ => .stop 0 0
  | f + 1, p, acc => if isB l p [108, 101, 116] = true then
      if acc.length < 20 then match l[p + 1]? with
        | none => .stop 0 0
        | some t => if t.kind = 1 ∧ nameB t.text = true then
            if (acc.any fun x => decide (x.name = t.text)) = true then .stop t.pos 5
            else (wantP l (p + 2) [[61]]).bind fun _ q => (wholeY l q).bind fun e r => letsY l f r (acc ++ [⟨t.text, e⟩])
          else .stop t.pos 12
      else .stop (posAt l p) 6
    else .ok acc p
def clauseY (l : List Tok) (p : Nat) (word : W8) : PR Exp := if isB l p word = true then wholeY l (p + 1) else .ok nothingE p
def bylY (l : List Tok) : PR By :=
  (kindP l 0).bind fun k p => (mustP l p [112, 101, 114, 105, 111, 100]).bind fun _ p => (partP l p [112, 101, 114, 105, 111, 100] 1 1000 [[100, 97, 121, 115], [59]]).bind fun period p =>
  (mustP l p [108, 97, 115, 116]).bind fun _ p => (partP l p [108, 97, 115, 116] 1 1000 [[59]]).bind fun last p =>
  (partP l p [103, 114, 97, 99, 101] 0 1000 [[100, 97, 121, 115], [59]]).bind fun grace p => (partP l p [119, 97, 105, 116] 0 1000 [[100, 97, 121, 115], [59]]).bind fun wait p =>
  (orderP l p).bind fun order p => (partP l p [98, 97, 99, 107, 115] 0 60 [[59]]).bind fun backs p => (partP l p [118, 111, 105, 99, 101, 115] 0 1000 [[112, 101, 114], [109, 105, 108, 108, 101], [59]]).bind fun voices p =>
  (partP l p [106, 117, 114, 121] 0 60 [[59]]).bind fun jury p => (partP l p [102, 117, 110, 100] 0 1000 [[112, 101, 114], [109, 105, 108, 108, 101], [59]]).bind fun fund p =>
  (letsY l 21 p []).bind fun lets p => (wantP l p [[100, 117, 101]]).bind fun _ p => (wholeY l p).bind fun due p =>
  (clauseY l p [102, 105, 110, 101]).bind fun fine p => (clauseY l p [112, 97, 121]).bind fun pay p => (clauseY l p [99, 111, 118, 101, 114]).bind fun cover p => (clauseY l p [104, 111, 108, 100]).bind fun hold p =>
  (endP l p).bind fun _ p => .ok ⟨k.1, period, grace, wait, last, order, k.2, backs, voices, jury, fund, lets, due, fine, pay, cover, hold⟩ p
theorem wholeY_eq : wholeP = wholeY := by
  funext l p
  unfold wholeP wholeY
  simp only [levS_eq]
theorem letsY_eq (l : List Tok) : ∀ f p acc, letsP l f p acc = letsY l f p acc
  | 0, p, acc => rfl
  | f + 1, p, acc => by
    rw [letsP, letsY, wholeY_eq]
    simp only [letsY_eq l f]
    try rfl
theorem clauseY_eq : clauseP = clauseY := by
  funext l p w
  unfold clauseP clauseY
  rw [wholeY_eq]
theorem bylY_eq (l : List Tok) : bylP l = bylY l := by
  unfold bylP bylY
  rw [wholeY_eq, clauseY_eq]
  simp only [letsY_eq]
def parseC (s : W8) : By × Int × Int := match lexL s with
  | .error (p, e) => (zeroBy, p, e)
  | .ok l => match bylY l with
    | .stop pos e => (zeroBy, pos, e)
    | .ok b _ => (b, 0, 0)
theorem parseB_eq (s : W8) : parseB s = parseC s := by
  unfold parseB parseC
  simp only [bylY_eq]
  try rfl
end Go.Proofs.YtepiegcjnaohjaaGreatDoor
namespace Go.Proofs.YtepiegcjnaohjaaGreatDoor
open Go Go.VL
def yesL (who : List Int) : List Vo := who.mapIdx fun i k => ⟨i, k, true, 0⟩
theorem yesL_snoc {l : List Int} {i : Nat} {k : Int} (h : l[i]? = some k) : yesL (l.take (i + 1)) = yesL (l.take i) ++ [⟨i, k, true, 0⟩] := by
  obtain ⟨hi, rfl⟩ := List.getElem?_eq_some_iff.1 h
  rw [yesL, yesL, List.take_succ_eq_append_getElem hi, List.mapIdx_concat, List.length_take]
  congr 3
  omega
theorem yesL_len (l : List Int) : (yesL l).length = l.length := by simp [yesL]
def lawT : List UInt8 := [99, 105, 114, 99, 108, 101, 32, 115, 97, 118, 105, 110, 103, 32, 59, 32, 112, 101, 114, 105, 111, 100, 32, 55, 32, 100, 97, 121, 115, 32, 59, 32, 108, 97, 115, 116, 32, 51, 32, 59, 32, 119, 97, 105, 116, 32, 50, 32, 100, 97, 121, 115, 32, 59, 32, 100, 117, 101, 32, 48, 32, 99, 111, 105, 110, 115, 32, 59]
def bL : By := (parseC lawT).1
def c0 : Cl := ⟨9, 0, 5, 300, 18, 20, 0, [1, 2, 3], [], 0, 0, 20⟩
def c1 : Cl := ⟨9, 0, 5, 300, 18, 20, 1, [1, 2, 3], [], 0, 0, 20⟩
def c2 : Cl := ⟨9, 0, 5, 300, 18, 20, 1, [1, 2, 3], [], 1, 250, 24⟩
def c3 : Cl := ⟨9, 0, 5, 300, 18, 20, 1, [1, 2, 3], [], 2, 250, 24⟩
def c4 : Cl := ⟨9, 0, 5, 300, 18, 20, 1, [1, 2, 3], [], 4, 250, 24⟩
def c5 : Cl := ⟨9, 0, 5, 300, 18, 20, 0, [1, 2, 3], [], 3, 0, 27⟩
def c6 : Cl := ⟨9, 0, 5, 300, 18, 20, 0, [1, 2, 3], [4, 6], 0, 0, 34⟩
theorem m1 : stepM c1 bL 250 (yesL [1, 3]) 21 = c2 := by kernel_rfl
theorem m2 : stepM c2 bL 250 (yesL [1, 3]) 22 = c2 := by kernel_rfl
theorem m3 : stepM c2 bL 250 (yesL [1, 3]) 23 = c3 := by kernel_rfl
theorem m4 : payM c3 250 = (c4, 0) := by kernel_rfl
theorem m5 : payM c4 250 = (c4, 7) := by kernel_rfl
theorem m6 : stepM c0 bL 250 (yesL [1, 3]) 26 = c0 := by kernel_rfl
theorem m7 : stepM c0 bL 250 (yesL [1, 3]) 27 = c5 := by kernel_rfl
theorem m8 : appealM c5 bL [4, 6] 34 = (c6, 0) := by kernel_rfl
theorem m9 : appealM c5 bL [4, 6] 35 = (c5, 25) := by kernel_rfl
theorem mp : proveM c0 = (c1, 0) := by kernel_rfl
end Go.Proofs.YtepiegcjnaohjaaGreatDoor
