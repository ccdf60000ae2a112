/- Texts joined by a program of mine: El Cu Cv Cw C1#p Ej Ec Cc Cp Cr Cj Em Cg Ek En Ep Er Ch#p Z1 Ct Ch C1 C8#p C8 Eo Es Et Fi#p Fi C2 C9 C9#p. -/
import Derived.Test.YtkdhmbhbbciedaaGreatDoorJ5
set_option linter.all false
set_option maxRecDepth 100000
set_option maxHeartbeats 8000000
namespace Go.Proofs.YtkdhmbhbbciedaaGreatDoor
open Go Go.VL
attribute [local simp] HS exS_some hcons hstep evPure opd uOf putOK St.put St.at getK binD binI binS binB nilD aggD eqUs cmpK lookD lookR rangeD rangeS Go.VL.nextD Go.VL.nextS entryD keyD valU keyU lookK mkV entD_nil allUE makeMapD mapUpdD mapEff updK valM Key.kk shiftI arith unD convD pickD loadD cellsAt fieldAddrD fieldD indexAddrD indexSlD arrAddr indexD sliceD cutD lenD minmaxD nilCheckD buildD fillD cellsD isOne ones setAll mkAgg allU allocD boxD storeD St.add buildSliceD appendD rowsOf makeD setOb getK_setOb getK_del getK_cons stripL strip guardTmp entry chunks zcells valD argsV argsW argW argU1 argU0 argsU0 argsU1 calleeOf scalarD scalarU delAll effD St.effS RK_seq RK_seq_ret RK_seq_exit RK_blk RK_blk_ret RK_blk_exit RK_loop RK_loop_ret RK_loop_exit RK_done vs_seq vs_block vs_cond vs_region vs_loop applyW mkD rdIds lentIds callOf calleeOf freeOp D.ids Op.operands Call.operands isEffOp makeIfD makeFuncD typeAssertD conc concs conc1 uOfV panicD IntKind.bits allU2 List.take_of_length_le List.range_succ HR_nil HR_cons HR_grd v2_seq v2_block v2_skip v2_exit v2_ret v2_cond v2_region v2_draw v2_loop RN_0 RN_done RN_seq RN_seq_ret RN_seq_exit RN_blk RN_blk_ret RN_blk_exit RN_loop RN_loop_ret RN_loop_exit Cnd_tf Cnd_ft EndV getK_append frzN frz1 frz_env frz_obs St.frz St.frzS frzS fv fzVec fzMap fzBox frzObS frz_entD frz_rowsD frz frzOb normD normU norm1 normOb St.norm St.lp St.only keepE wkE wkO wkU Ob.under D.under under_rowsD under_entD H4_nil H4_cons H4_grd h4s resD oneOrTup pureD List.zipIdx_cons List.zipIdx_nil List.map_cons List.map_nil Nat.zero_add
attribute [local irreducible] V G H HD HD2 HD4 HD4h RetX RunK Eff CallP CallV EndOK Fun Ret FinOK LoopI LoopW EndW HR vs2 RN Cnd H4
theorem prefix_if {l : List Tok} (hl : TokOK l) {f p : Nat} {form : Int} (hE : ExpOK l f) (hp : p < l.length) (hf : 4 * (l.length - p) + 1 ≤ f)
  (hf0 : form = 0) (h1 : isB l p [105, 102] = true) {i nx : Nat} (hi : i < nx) :
  RetX Tryz.prog 139 [.ptr i 0, intD form] [(i, pOb l p)] nx (PPost l i nx pairD (prefixP l (f + 1) p form)) := by
 have hne := ne_facts hi
 have hll := hl.len
 rw [prefixP]
 have hp2 := isB_lt hl h1
 subst hf0
 have hf0 : (0 : Int) = 0 := rfl
 have hf3 : (0 : Int) ≤ 3 := by omega
 have hh1 := fun nx' (h : nx ≤ nx') => has_ret l p [105, 102] i nx' (by omega) hp hl.len
 simp only [h1, if_true] at hh1
 rw [if_pos ⟨rfl, h1⟩]
 have ha := fun nx' (h : nx ≤ nx') => hE (p + 1) 0 i nx' (by omega) hp2 (by omega) (by omega) (by omega)
 cases hr0 : expP l f (p + 1) 0 with
 | stop pos e =>
  simp only [hr0] at ha
  refine RetX.runW Tryz.func139 Tryz.ntmps139 rfl (by simp) fun Γ hn hpan => ?_
  repeat' (first
  | (refine V_run rfl ?_; simp [hne, hf0, hf3, del, Nat.add_assoc])
  | (refine CallP.ok1 (hh1 _ (by first | omega | (simp; done) | (simp; omega) | fail)) (by first | (simp [hne, hf0, hf3, del, Nat.add_assoc, getK_cons, getK, getK_append, getK_del]; done) | fail) (by rfl) (by first | assumption | (simp; done) | fail) (by rfl) (by simp) ?_; (try simp [hne, hf0, hf3, del, Nat.add_assoc]))
  | (refine CallP.pan1 (ha _ (by first | omega | (simp; done) | (simp; omega) | fail)) (by first | (simp [hne, hf0, hf3, del, Nat.add_assoc, getK_cons, getK, getK_append, getK_del]; done) | fail) (by rfl) (by first | assumption | (simp; done) | fail) (by rfl) (by simp) ?_; rintro ob' ⟨q', rfl⟩; refine ⟨_, Wk.refl _, ?_⟩)
  | fail)
  (refine hpan _ _ (PanG.k ([(i, pOb l q')]) (nx) (by simp [hn, hi, hne, getK_append, getK_del, getK_cons, getK] <;> omega) ?_); try simp)
  exact PPost.at_stop (by simp [PR.bind, *])
 | ok v0 q0 =>
  have ha := fun nx' h => exp_ok (ha nx' h) hr0
  obtain ⟨g0a, g0b⟩ := (parse_le hl f).1 _ _ _ _ hr0 hp2
  have hw1 := fun nx' (h : nx ≤ nx') => want1 hl [116, 104, 101, 110] (q := q0) (i := i) (nx := nx') (by omega) g0b
  cases hr1 : wantP l q0 [[116, 104, 101, 110]] with
  | stop pos e =>
   simp only [hr1] at hw1
   refine RetX.runW Tryz.func139 Tryz.ntmps139 rfl (by simp) fun Γ hn hpan => ?_
   repeat' (first
  | (refine V_run rfl ?_; simp [hne, hf0, hf3, del, Nat.add_assoc])
  | (refine CallP.ok1 (hh1 _ (by first | omega | (simp; done) | (simp; omega) | fail)) (by first | (simp [hne, hf0, hf3, del, Nat.add_assoc, getK_cons, getK, getK_append, getK_del]; done) | fail) (by rfl) (by first | assumption | (simp; done) | fail) (by rfl) (by simp) ?_; (try simp [hne, hf0, hf3, del, Nat.add_assoc]))
  | (refine CallP.ok1 (ha _ (by first | omega | (simp; done) | (simp; omega) | fail)) (by first | (simp [hne, hf0, hf3, del, Nat.add_assoc, getK_cons, getK, getK_append, getK_del]; done) | fail) (by rfl) (by first | assumption | (simp; done) | fail) (by rfl) (by simp) ?_; (try simp [hne, hf0, hf3, del, Nat.add_assoc]))
  | (refine CallP.pan1 (hw1 _ (by first | omega | (simp; done) | (simp; omega) | fail)) (by first | (simp [hne, hf0, hf3, del, Nat.add_assoc, getK_cons, getK, getK_append, getK_del]; done) | fail) (by rfl) (by first | assumption | (simp; done) | fail) (by rfl) (by simp) ?_; rintro ob' ⟨q', rfl⟩; refine ⟨_, Wk.refl _, ?_⟩)
  | (refine CallP_frzV (by first | rfl | fail) ?_; simp [hne, hf0, hf3, del, Nat.add_assoc, frzN, frz1, frz_env, frz_obs, St.frz, St.frzS, frzS, fv, fzVec, fzMap, fzBox, frzObS, frz_entD, frz_rowsD, del, frz, frzOb])
  | fail)
   (refine hpan _ _ (PanG.k ([(i, pOb l q')]) (nx) (by simp [hn, hi, hne, getK_append, getK_del, getK_cons, getK] <;> omega) ?_); try simp)
   exact PPost.at_stop (by simp [PR.bind, *])
  | ok v1 q1 =>
   simp only [hr1] at hw1
   obtain ⟨g1a, g1b⟩ := wantP_le hl _ hr1 g0b
   have hb := fun nx' (h : nx ≤ nx') => hE q1 0 i nx' (by omega) g1b (by omega) (by omega) (by omega)
   cases hr2 : expP l f q1 0 with
   | stop pos e =>
    simp only [hr2] at hb
    refine RetX.runW Tryz.func139 Tryz.ntmps139 rfl (by simp) fun Γ hn hpan => ?_
    repeat' (first
  | (refine V_run rfl ?_; simp [hne, hf0, hf3, del, Nat.add_assoc])
  | (refine CallP.ok1 (hh1 _ (by first | omega | (simp; done) | (simp; omega) | fail)) (by first | (simp [hne, hf0, hf3, del, Nat.add_assoc, getK_cons, getK, getK_append, getK_del]; done) | fail) (by rfl) (by first | assumption | (simp; done) | fail) (by rfl) (by simp) ?_; (try simp [hne, hf0, hf3, del, Nat.add_assoc]))
  | (refine CallP.ok1 (ha _ (by first | omega | (simp; done) | (simp; omega) | fail)) (by first | (simp [hne, hf0, hf3, del, Nat.add_assoc, getK_cons, getK, getK_append, getK_del]; done) | fail) (by rfl) (by first | assumption | (simp; done) | fail) (by rfl) (by simp) ?_; (try simp [hne, hf0, hf3, del, Nat.add_assoc]))
  | (refine CallP.ok1 (hw1 _ (by first | omega | (simp; done) | (simp; omega) | fail)) (by first | (simp [hne, hf0, hf3, del, Nat.add_assoc, getK_cons, getK, getK_append, getK_del]; done) | fail) (by rfl) (by first | assumption | (simp; done) | fail) (by rfl) (by simp) ?_; (try simp [hne, hf0, hf3, del, Nat.add_assoc]))
  | (refine CallP.pan1 (hb _ (by first | omega | (simp; done) | (simp; omega) | fail)) (by first | (simp [hne, hf0, hf3, del, Nat.add_assoc, getK_cons, getK, getK_append, getK_del]; done) | fail) (by rfl) (by first | assumption | (simp; done) | fail) (by rfl) (by simp) ?_; rintro ob' ⟨q', rfl⟩; refine ⟨_, Wk.refl _, ?_⟩)
  | (refine CallP_frzV (by first | rfl | fail) ?_; simp [hne, hf0, hf3, del, Nat.add_assoc, frzN, frz1, frz_env, frz_obs, St.frz, St.frzS, frzS, fv, fzVec, fzMap, fzBox, frzObS, frz_entD, frz_rowsD, del, frz, frzOb])
  | fail)
    (refine hpan _ _ (PanG.k ([(i, pOb l q')]) (nx) (by simp [hn, hi, hne, getK_append, getK_del, getK_cons, getK] <;> omega) ?_); try simp)
    exact PPost.at_stop (by simp [PR.bind, *])
   | ok v2 q2 =>
    have hb := fun nx' h => exp_ok (hb nx' h) hr2
    obtain ⟨g2a, g2b⟩ := (parse_le hl f).1 _ _ _ _ hr2 g1b
    have hw2 := fun nx' (h : nx ≤ nx') => want1 hl [101, 108, 115, 101] (q := q2) (i := i) (nx := nx') (by omega) g2b
    cases hr3 : wantP l q2 [[101, 108, 115, 101]] with
    | stop pos e =>
     simp only [hr3] at hw2
     refine RetX.runW Tryz.func139 Tryz.ntmps139 rfl (by simp) fun Γ hn hpan => ?_
     repeat' (first
  | (refine V_run rfl ?_; simp [hne, hf0, hf3, del, Nat.add_assoc])
  | (refine CallP.ok1 (hh1 _ (by first | omega | (simp; done) | (simp; omega) | fail)) (by first | (simp [hne, hf0, hf3, del, Nat.add_assoc, getK_cons, getK, getK_append, getK_del]; done) | fail) (by rfl) (by first | assumption | (simp; done) | fail) (by rfl) (by simp) ?_; (try simp [hne, hf0, hf3, del, Nat.add_assoc]))
  | (refine CallP.ok1 (ha _ (by first | omega | (simp; done) | (simp; omega) | fail)) (by first | (simp [hne, hf0, hf3, del, Nat.add_assoc, getK_cons, getK, getK_append, getK_del]; done) | fail) (by rfl) (by first | assumption | (simp; done) | fail) (by rfl) (by simp) ?_; (try simp [hne, hf0, hf3, del, Nat.add_assoc]))
  | (refine CallP.ok1 (hw1 _ (by first | omega | (simp; done) | (simp; omega) | fail)) (by first | (simp [hne, hf0, hf3, del, Nat.add_assoc, getK_cons, getK, getK_append, getK_del]; done) | fail) (by rfl) (by first | assumption | (simp; done) | fail) (by rfl) (by simp) ?_; (try simp [hne, hf0, hf3, del, Nat.add_assoc]))
  | (refine CallP.ok1 (hb _ (by first | omega | (simp; done) | (simp; omega) | fail)) (by first | (simp [hne, hf0, hf3, del, Nat.add_assoc, getK_cons, getK, getK_append, getK_del]; done) | fail) (by rfl) (by first | assumption | (simp; done) | fail) (by rfl) (by simp) ?_; (try simp [hne, hf0, hf3, del, Nat.add_assoc]))
  | (refine CallP.pan1 (hw2 _ (by first | omega | (simp; done) | (simp; omega) | fail)) (by first | (simp [hne, hf0, hf3, del, Nat.add_assoc, getK_cons, getK, getK_append, getK_del]; done) | fail) (by rfl) (by first | assumption | (simp; done) | fail) (by rfl) (by simp) ?_; rintro ob' ⟨q', rfl⟩; refine ⟨_, Wk.refl _, ?_⟩)
  | (refine CallP_frzV (by first | rfl | fail) ?_; simp [hne, hf0, hf3, del, Nat.add_assoc, frzN, frz1, frz_env, frz_obs, St.frz, St.frzS, frzS, fv, fzVec, fzMap, fzBox, frzObS, frz_entD, frz_rowsD, del, frz, frzOb])
  | fail)
     (refine hpan _ _ (PanG.k ([(i, pOb l q')]) (nx) (by simp [hn, hi, hne, getK_append, getK_del, getK_cons, getK] <;> omega) ?_); try simp)
     exact PPost.at_stop (by simp [PR.bind, *])
    | ok v3 q3 =>
     simp only [hr3] at hw2
     obtain ⟨g3a, g3b⟩ := wantP_le hl _ hr3 g2b
     have hc := fun nx' (h : nx ≤ nx') => hE q3 0 i nx' (by omega) g3b (by omega) (by omega) (by omega)
     cases hr4 : expP l f q3 0 with
     | stop pos e =>
      simp only [hr4] at hc
      refine RetX.runW Tryz.func139 Tryz.ntmps139 rfl (by simp) fun Γ hn hpan => ?_
      repeat' (first
  | (refine HD4_pan1 (fun nx' h' => hc nx' (by simp at h'; omega)) (by first | (simp [hne, hf0, hf3, del, Nat.add_assoc, getK_cons, getK, getK_append, getK_del, getK_setOb, applyW]; done) | fail) (by rfl) (by first | assumption | simp) (by rfl) (by simp) ?_ ?_; rintro env' ob' n' hn' ⟨q', rfl⟩; refine ⟨_, Wk.refl _, ?_⟩)
  | (refine HD4_skipS rfl (by simp) ?_; simp)
  | (refine V_run rfl ?_; simp [hne, hf0, hf3, del, Nat.add_assoc])
  | (refine HD4_nilS (hC _ (okP4_ren [i] nx (by simp <;> omega) (by simp <;> omega) (by apply Exists.intro; apply And.intro; (focus (repeat' (first | exact KF.nil | exact KL.nil | apply KF.cons | apply KL.cons 0 rfl | apply KL.cons 1 rfl | apply KL.cons 2 rfl | apply KL.cons 3 rfl | apply KL.cons 4 rfl | apply KL.cons 5 rfl | apply KL.cons 6 rfl | apply KL.cons 7 rfl | apply KL.cons 8 rfl | apply KL.cons 9 rfl))); kernel_rfl))) rfl; done)
  | (refine V_dx rfl (by kernel_rfl) (by first | (simp [hn]; done) | (simp [hn]; omega) | fail) fun C k hC hk => ?_; simp [hne, hf0, hf3, del, Nat.add_assoc])
  | (refine CallP.ok1 (hh1 _ (by first | omega | (simp; done) | (simp; omega) | fail)) (by first | (simp [hne, hf0, hf3, del, Nat.add_assoc, getK_cons, getK, getK_append, getK_del]; done) | fail) (by rfl) (by first | assumption | (simp; done) | fail) (by rfl) (by simp) ?_; (try simp [hne, hf0, hf3, del, Nat.add_assoc]))
  | (refine CallP.ok1 (ha _ (by first | omega | (simp; done) | (simp; omega) | fail)) (by first | (simp [hne, hf0, hf3, del, Nat.add_assoc, getK_cons, getK, getK_append, getK_del]; done) | fail) (by rfl) (by first | assumption | (simp; done) | fail) (by rfl) (by simp) ?_; (try simp [hne, hf0, hf3, del, Nat.add_assoc]))
  | (refine CallP.ok1 (hw1 _ (by first | omega | (simp; done) | (simp; omega) | fail)) (by first | (simp [hne, hf0, hf3, del, Nat.add_assoc, getK_cons, getK, getK_append, getK_del]; done) | fail) (by rfl) (by first | assumption | (simp; done) | fail) (by rfl) (by simp) ?_; (try simp [hne, hf0, hf3, del, Nat.add_assoc]))
  | (refine CallP.ok1 (hb _ (by first | omega | (simp; done) | (simp; omega) | fail)) (by first | (simp [hne, hf0, hf3, del, Nat.add_assoc, getK_cons, getK, getK_append, getK_del]; done) | fail) (by rfl) (by first | assumption | (simp; done) | fail) (by rfl) (by simp) ?_; (try simp [hne, hf0, hf3, del, Nat.add_assoc]))
  | (refine CallP.ok1 (hw2 _ (by first | omega | (simp; done) | (simp; omega) | fail)) (by first | (simp [hne, hf0, hf3, del, Nat.add_assoc, getK_cons, getK, getK_append, getK_del]; done) | fail) (by rfl) (by first | assumption | (simp; done) | fail) (by rfl) (by simp) ?_; (try simp [hne, hf0, hf3, del, Nat.add_assoc]))
  | (refine CallP_frzV (by first | rfl | fail) ?_; simp [hne, hf0, hf3, del, Nat.add_assoc, frzN, frz1, frz_env, frz_obs, St.frz, St.frzS, frzS, fv, fzVec, fzMap, fzBox, frzObS, frz_entD, frz_rowsD, del, frz, frzOb])
  | fail)
      (refine hpan _ _ (PanG.k ([(i, pOb l q')]) (nx) (by simp [hn, hi, hne, getK_append, getK_del, getK_cons, getK] <;> omega) ?_); try simp)
      exact PPost.at_stop (by simp [PR.bind, *])
     | ok v4 q4 =>
      have hc := fun nx' h => exp_ok (hc nx' h) hr4
      obtain ⟨g4a, g4b⟩ := (parse_le hl f).1 _ _ _ _ hr4 g3b
      refine RetX.runW Tryz.func139 Tryz.ntmps139 rfl (by simp) fun Γ hn hpan => ?_
      repeat' (first
  | (refine HD4_ok1 (fun nx' h' => hc nx' (by simp at h'; omega)) (by first | (simp [hne, hf0, hf3, del, Nat.add_assoc, getK_cons, getK, getK_append, getK_del, getK_setOb, applyW]; done) | fail) (by rfl) (by first | assumption | simp) (by rfl) (by simp [D.under, Ob.under]) (by simp) ?_; (try simp [hne, hf0, hf3, del, Nat.add_assoc]))
  | (refine V_run rfl ?_; simp [hne, hf0, hf3, del, Nat.add_assoc])
  | (refine ⟨hC _ (okP4_ren [i] nx (by simp <;> omega) (by simp <;> omega) (by apply Exists.intro; apply And.intro; (focus (repeat' (first | exact KF.nil | exact KL.nil | apply KF.cons | apply KL.cons 0 rfl | apply KL.cons 1 rfl | apply KL.cons 2 rfl | apply KL.cons 3 rfl | apply KL.cons 4 rfl | apply KL.cons 5 rfl | apply KL.cons 6 rfl | apply KL.cons 7 rfl | apply KL.cons 8 rfl | apply KL.cons 9 rfl))); kernel_rfl)), hk _ (RN_K 8 _ _ _ ?_)⟩; clear hC hk C k; simp [hne, hf0, hf3, del, Nat.add_assoc])
  | (refine V_dx rfl (by kernel_rfl) (by first | (simp [hn]; done) | (simp [hn]; omega) | fail) fun C k hC hk => ?_; simp [hne, hf0, hf3, del, Nat.add_assoc])
  | (refine H4_HD4 rfl ?_; simp [hne, hf0, hf3, del, Nat.add_assoc])
  | (refine CallP.ok1 (hh1 _ (by first | omega | (simp; done) | (simp; omega) | fail)) (by first | (simp [hne, hf0, hf3, del, Nat.add_assoc, getK_cons, getK, getK_append, getK_del]; done) | fail) (by rfl) (by first | assumption | (simp; done) | fail) (by rfl) (by simp) ?_; (try simp [hne, hf0, hf3, del, Nat.add_assoc]))
  | (refine CallP.ok1 (ha _ (by first | omega | (simp; done) | (simp; omega) | fail)) (by first | (simp [hne, hf0, hf3, del, Nat.add_assoc, getK_cons, getK, getK_append, getK_del]; done) | fail) (by rfl) (by first | assumption | (simp; done) | fail) (by rfl) (by simp) ?_; (try simp [hne, hf0, hf3, del, Nat.add_assoc]))
  | (refine CallP.ok1 (hw1 _ (by first | omega | (simp; done) | (simp; omega) | fail)) (by first | (simp [hne, hf0, hf3, del, Nat.add_assoc, getK_cons, getK, getK_append, getK_del]; done) | fail) (by rfl) (by first | assumption | (simp; done) | fail) (by rfl) (by simp) ?_; (try simp [hne, hf0, hf3, del, Nat.add_assoc]))
  | (refine CallP.ok1 (hb _ (by first | omega | (simp; done) | (simp; omega) | fail)) (by first | (simp [hne, hf0, hf3, del, Nat.add_assoc, getK_cons, getK, getK_append, getK_del]; done) | fail) (by rfl) (by first | assumption | (simp; done) | fail) (by rfl) (by simp) ?_; (try simp [hne, hf0, hf3, del, Nat.add_assoc]))
  | (refine CallP.ok1 (hw2 _ (by first | omega | (simp; done) | (simp; omega) | fail)) (by first | (simp [hne, hf0, hf3, del, Nat.add_assoc, getK_cons, getK, getK_append, getK_del]; done) | fail) (by rfl) (by first | assumption | (simp; done) | fail) (by rfl) (by simp) ?_; (try simp [hne, hf0, hf3, del, Nat.add_assoc]))
  | (refine CallP_frzV (by first | rfl | fail) ?_; simp [hne, hf0, hf3, del, Nat.add_assoc, frzN, frz1, frz_env, frz_obs, St.frz, St.frzS, frzS, fv, fzVec, fzMap, fzBox, frzObS, frz_entD, frz_rowsD, del, frz, frzOb])
  | fail)
      (refine EndW.frzN 1 ?_; simp [del, hne, Nat.add_assoc])
      refine EndW.norm ?_
      simp [St.norm, normOb, normD, normU, norm1, hne, Nat.add_assoc]
      (refine EndW.z ([(i, pOb l q4)]) (N := nx) Tryz.results139 (by simp [hne, hi] <;> omega) ?_; simp [hne, hi])
      exact PPost.at_ok (by simp [PR.bind, *]; rfl) (by simp [Exp.row_eq, Exp.op, Exp.n, Exp.unit, Exp.s, Exp.args]) rfl
theorem prefix_not0 {l : List Tok} (hl : TokOK l) {f p : Nat} {form : Int} (hE : ExpOK l f) (hp : p < l.length) (hf : 4 * (l.length - p) + 1 ≤ f)
  (hf0 : form = 0) (hf3 : form ≤ 3) (h1 : isB l p [105, 102] = false) (h2 : isB l p [110, 111, 116] = true) {i nx : Nat} (hi : i < nx) :
  RetX Tryz.prog 139 [.ptr i 0, intD form] [(i, pOb l p)] nx (PPost l i nx pairD (prefixP l (f + 1) p form)) := by
 have hne := ne_facts hi
 have hll := hl.len
 rw [prefixP]
 have hh1 := fun nx' (h : nx ≤ nx') => has_ret l p [105, 102] i nx' (by omega) hp hl.len
 rw [h1] at hh1
 simp only [if_true, Bool.false_eq_true, if_false] at hh1
 have hp2 := isB_lt hl h2
 have hh2 := fun nx' (h : nx ≤ nx') => has_ret l p [110, 111, 116] i nx' (by omega) hp hl.len
 rw [h2] at hh2
 simp only [if_true, Bool.false_eq_true, if_false] at hh2
 rw [if_neg (by simp [*]), if_pos ⟨hf3, h2⟩]
 have ha := fun nx' (h : nx ≤ nx') => hE (p + 1) 3 i nx' (by omega) hp2 (by omega) (by omega) (by omega)
 cases hr0 : expP l f (p + 1) 3 with
 | stop pos e =>
  simp only [hr0] at ha
  refine RetX.runW Tryz.func139 Tryz.ntmps139 rfl (by simp) fun Γ hn hpan => ?_
  repeat' (first
  | (refine V_run rfl ?_; simp [hne, hf0, hf3, del, Nat.add_assoc])
  | (refine CallP.ok1 (hh1 _ (by first | omega | (simp; done) | (simp; omega) | fail)) (by first | (simp [hne, hf0, hf3, del, Nat.add_assoc, getK_cons, getK, getK_append, getK_del]; done) | fail) (by rfl) (by first | assumption | (simp; done) | fail) (by rfl) (by simp) ?_; (try simp [hne, hf0, hf3, del, Nat.add_assoc]))
  | (refine CallP.ok1 (hh2 _ (by first | omega | (simp; done) | (simp; omega) | fail)) (by first | (simp [hne, hf0, hf3, del, Nat.add_assoc, getK_cons, getK, getK_append, getK_del]; done) | fail) (by rfl) (by first | assumption | (simp; done) | fail) (by rfl) (by simp) ?_; (try simp [hne, hf0, hf3, del, Nat.add_assoc]))
  | (refine CallP.pan1 (ha _ (by first | omega | (simp; done) | (simp; omega) | fail)) (by first | (simp [hne, hf0, hf3, del, Nat.add_assoc, getK_cons, getK, getK_append, getK_del]; done) | fail) (by rfl) (by first | assumption | (simp; done) | fail) (by rfl) (by simp) ?_; rintro ob' ⟨q', rfl⟩; refine ⟨_, Wk.refl _, ?_⟩)
  | fail)
  (refine hpan _ _ (PanG.k ([(i, pOb l q')]) (nx) (by simp [hn, hi, hne, getK_append, getK_del, getK_cons, getK] <;> omega) ?_); try simp)
  exact PPost.at_stop (by simp [PR.bind, *])
 | ok v0 q0 =>
  have ha := fun nx' h => exp_ok (ha nx' h) hr0
  refine RetX.runW Tryz.func139 Tryz.ntmps139 rfl (by simp) fun Γ hn hpan => ?_
  repeat' (first
  | (refine V_run rfl ?_; simp [hne, hf0, hf3, del, Nat.add_assoc])
  | (refine CallP.ok1 (hh1 _ (by first | omega | (simp; done) | (simp; omega) | fail)) (by first | (simp [hne, hf0, hf3, del, Nat.add_assoc, getK_cons, getK, getK_append, getK_del]; done) | fail) (by rfl) (by first | assumption | (simp; done) | fail) (by rfl) (by simp) ?_; (try simp [hne, hf0, hf3, del, Nat.add_assoc]))
  | (refine CallP.ok1 (hh2 _ (by first | omega | (simp; done) | (simp; omega) | fail)) (by first | (simp [hne, hf0, hf3, del, Nat.add_assoc, getK_cons, getK, getK_append, getK_del]; done) | fail) (by rfl) (by first | assumption | (simp; done) | fail) (by rfl) (by simp) ?_; (try simp [hne, hf0, hf3, del, Nat.add_assoc]))
  | (refine CallP.ok1 (ha _ (by first | omega | (simp; done) | (simp; omega) | fail)) (by first | (simp [hne, hf0, hf3, del, Nat.add_assoc, getK_cons, getK, getK_append, getK_del]; done) | fail) (by rfl) (by first | assumption | (simp; done) | fail) (by rfl) (by simp) ?_; (try simp [hne, hf0, hf3, del, Nat.add_assoc]))
  | fail)
  (refine EndW.frzN 1 ?_; simp [del, hne, Nat.add_assoc])
  refine EndW.norm ?_
  simp [St.norm, normOb, normD, normU, norm1, hne, Nat.add_assoc]
  (refine EndW.z ([(i, pOb l q0)]) (N := nx) Tryz.results139 (by simp [hne, hi] <;> omega) ?_; simp [hne, hi])
  exact PPost.at_ok (by simp [PR.bind, *]; rfl) (by simp [Exp.row_eq, Exp.op, Exp.n, Exp.unit, Exp.s, Exp.args]) rfl
theorem prefix_not1 {l : List Tok} (hl : TokOK l) {f p : Nat} {form : Int} (hE : ExpOK l f) (hp : p < l.length) (hf : 4 * (l.length - p) + 1 ≤ f)
  (hf0 : ¬ form = 0) (hf3 : form ≤ 3) (h2 : isB l p [110, 111, 116] = true) {i nx : Nat} (hi : i < nx) :
  RetX Tryz.prog 139 [.ptr i 0, intD form] [(i, pOb l p)] nx (PPost l i nx pairD (prefixP l (f + 1) p form)) := by
 have hne := ne_facts hi
 have hll := hl.len
 rw [prefixP]
 have hp2 := isB_lt hl h2
 have hh2 := fun nx' (h : nx ≤ nx') => has_ret l p [110, 111, 116] i nx' (by omega) hp hl.len
 rw [h2] at hh2
 simp only [if_true, Bool.false_eq_true, if_false] at hh2
 rw [if_neg (by simp [*]), if_pos ⟨hf3, h2⟩]
 have ha := fun nx' (h : nx ≤ nx') => hE (p + 1) 3 i nx' (by omega) hp2 (by omega) (by omega) (by omega)
 cases hr0 : expP l f (p + 1) 3 with
 | stop pos e =>
  simp only [hr0] at ha
  refine RetX.runW Tryz.func139 Tryz.ntmps139 rfl (by simp) fun Γ hn hpan => ?_
  repeat' (first
  | (refine V_run rfl ?_; simp [hne, hf0, hf3, del, Nat.add_assoc])
  | (refine CallP.ok1 (hh2 _ (by first | omega | (simp; done) | (simp; omega) | fail)) (by first | (simp [hne, hf0, hf3, del, Nat.add_assoc, getK_cons, getK, getK_append, getK_del]; done) | fail) (by rfl) (by first | assumption | (simp; done) | fail) (by rfl) (by simp) ?_; (try simp [hne, hf0, hf3, del, Nat.add_assoc]))
  | (refine CallP.pan1 (ha _ (by first | omega | (simp; done) | (simp; omega) | fail)) (by first | (simp [hne, hf0, hf3, del, Nat.add_assoc, getK_cons, getK, getK_append, getK_del]; done) | fail) (by rfl) (by first | assumption | (simp; done) | fail) (by rfl) (by simp) ?_; rintro ob' ⟨q', rfl⟩; refine ⟨_, Wk.refl _, ?_⟩)
  | fail)
  (refine hpan _ _ (PanG.k ([(i, pOb l q')]) (nx) (by simp [hn, hi, hne, getK_append, getK_del, getK_cons, getK] <;> omega) ?_); try simp)
  exact PPost.at_stop (by simp [PR.bind, *])
 | ok v0 q0 =>
  have ha := fun nx' h => exp_ok (ha nx' h) hr0
  refine RetX.runW Tryz.func139 Tryz.ntmps139 rfl (by simp) fun Γ hn hpan => ?_
  repeat' (first
  | (refine V_run rfl ?_; simp [hne, hf0, hf3, del, Nat.add_assoc])
  | (refine CallP.ok1 (hh2 _ (by first | omega | (simp; done) | (simp; omega) | fail)) (by first | (simp [hne, hf0, hf3, del, Nat.add_assoc, getK_cons, getK, getK_append, getK_del]; done) | fail) (by rfl) (by first | assumption | (simp; done) | fail) (by rfl) (by simp) ?_; (try simp [hne, hf0, hf3, del, Nat.add_assoc]))
  | (refine CallP.ok1 (ha _ (by first | omega | (simp; done) | (simp; omega) | fail)) (by first | (simp [hne, hf0, hf3, del, Nat.add_assoc, getK_cons, getK, getK_append, getK_del]; done) | fail) (by rfl) (by first | assumption | (simp; done) | fail) (by rfl) (by simp) ?_; (try simp [hne, hf0, hf3, del, Nat.add_assoc]))
  | fail)
  (refine EndW.frzN 1 ?_; simp [del, hne, Nat.add_assoc])
  refine EndW.norm ?_
  simp [St.norm, normOb, normD, normU, norm1, hne, Nat.add_assoc]
  (refine EndW.z ([(i, pOb l q0)]) (N := nx) Tryz.results139 (by simp [hne, hi] <;> omega) ?_; simp [hne, hi])
  exact PPost.at_ok (by simp [PR.bind, *]; rfl) (by simp [Exp.row_eq, Exp.op, Exp.n, Exp.unit, Exp.s, Exp.args]) rfl
theorem prefix_prim0 {l : List Tok} (hl : TokOK l) {f p : Nat} {form : Int} (hP : PrimOK l f) (hp : p < l.length) (hf : 4 * (l.length - p) + 1 ≤ f)
  (hf0 : form = 0) (hf3 : form ≤ 3) (h1 : isB l p [105, 102] = false) (h2 : isB l p [110, 111, 116] = false) {i nx : Nat} (hi : i < nx) :
  RetX Tryz.prog 139 [.ptr i 0, intD form] [(i, pOb l p)] nx (PPost l i nx pairD (prefixP l (f + 1) p form)) := by
 have hne := ne_facts hi
 have hll := hl.len
 rw [prefixP]
 have hh1 := fun nx' (h : nx ≤ nx') => has_ret l p [105, 102] i nx' (by omega) hp hl.len
 rw [h1] at hh1
 simp only [if_true, Bool.false_eq_true, if_false] at hh1
 have hh2 := fun nx' (h : nx ≤ nx') => has_ret l p [110, 111, 116] i nx' (by omega) hp hl.len
 rw [h2] at hh2
 simp only [if_true, Bool.false_eq_true, if_false] at hh2
 rw [if_neg (by simp [*]), if_neg (by simp [*])]
 have ha := fun nx' (h : nx ≤ nx') => hP p i nx' (by omega) hp (by omega)
 cases hr0 : primaryP l f p with
 | stop pos e =>
  simp only [hr0] at ha
  refine RetX.runW Tryz.func139 Tryz.ntmps139 rfl (by simp) fun Γ hn hpan => ?_
  repeat' (first
  | (refine V_run rfl ?_; simp [hne, hf0, hf3, del, Nat.add_assoc])
  | (refine CallP.ok1 (hh1 _ (by first | omega | (simp; done) | (simp; omega) | fail)) (by first | (simp [hne, hf0, hf3, del, Nat.add_assoc, getK_cons, getK, getK_append, getK_del]; done) | fail) (by rfl) (by first | assumption | (simp; done) | fail) (by rfl) (by simp) ?_; (try simp [hne, hf0, hf3, del, Nat.add_assoc]))
  | (refine CallP.ok1 (hh2 _ (by first | omega | (simp; done) | (simp; omega) | fail)) (by first | (simp [hne, hf0, hf3, del, Nat.add_assoc, getK_cons, getK, getK_append, getK_del]; done) | fail) (by rfl) (by first | assumption | (simp; done) | fail) (by rfl) (by simp) ?_; (try simp [hne, hf0, hf3, del, Nat.add_assoc]))
  | (refine CallP.pan1 (ha _ (by first | omega | (simp; done) | (simp; omega) | fail)) (by first | (simp [hne, hf0, hf3, del, Nat.add_assoc, getK_cons, getK, getK_append, getK_del]; done) | fail) (by rfl) (by first | assumption | (simp; done) | fail) (by rfl) (by simp) ?_; rintro ob' ⟨q', rfl⟩; refine ⟨_, Wk.refl _, ?_⟩)
  | fail)
  (refine hpan _ _ (PanG.k ([(i, pOb l q')]) (nx) (by simp [hn, hi, hne, getK_append, getK_del, getK_cons, getK] <;> omega) ?_); try simp)
  exact PPost.at_stop (by simp [PR.bind, *])
 | ok v0 q0 =>
  have ha := fun nx' h => exp_ok (ha nx' h) hr0
  refine RetX.runW Tryz.func139 Tryz.ntmps139 rfl (by simp) fun Γ hn hpan => ?_
  repeat' (first
  | (refine V_run rfl ?_; simp [hne, hf0, hf3, del, Nat.add_assoc])
  | (refine CallP.ok1 (hh1 _ (by first | omega | (simp; done) | (simp; omega) | fail)) (by first | (simp [hne, hf0, hf3, del, Nat.add_assoc, getK_cons, getK, getK_append, getK_del]; done) | fail) (by rfl) (by first | assumption | (simp; done) | fail) (by rfl) (by simp) ?_; (try simp [hne, hf0, hf3, del, Nat.add_assoc]))
  | (refine CallP.ok1 (hh2 _ (by first | omega | (simp; done) | (simp; omega) | fail)) (by first | (simp [hne, hf0, hf3, del, Nat.add_assoc, getK_cons, getK, getK_append, getK_del]; done) | fail) (by rfl) (by first | assumption | (simp; done) | fail) (by rfl) (by simp) ?_; (try simp [hne, hf0, hf3, del, Nat.add_assoc]))
  | (refine CallP.ok1 (ha _ (by first | omega | (simp; done) | (simp; omega) | fail)) (by first | (simp [hne, hf0, hf3, del, Nat.add_assoc, getK_cons, getK, getK_append, getK_del]; done) | fail) (by rfl) (by first | assumption | (simp; done) | fail) (by rfl) (by simp) ?_; (try simp [hne, hf0, hf3, del, Nat.add_assoc]))
  | fail)
  refine EndW.norm ?_
  simp [St.norm, normOb, normD, normU, norm1, hne, Nat.add_assoc]
  (refine EndW.z ([(i, pOb l q0)]) (N := nx) Tryz.results139 (by simp [hne, hi] <;> omega) ?_; simp [hne, hi])
  exact PPost.at_ok (by simp [PR.bind, *]; rfl) (by simp [Exp.row_eq, Exp.op, Exp.n, Exp.unit, Exp.s, Exp.args]) rfl
theorem prefix_prim1 {l : List Tok} (hl : TokOK l) {f p : Nat} {form : Int} (hP : PrimOK l f) (hp : p < l.length) (hf : 4 * (l.length - p) + 1 ≤ f)
  (hf0 : ¬ form = 0) (hf3 : form ≤ 3) (h2 : isB l p [110, 111, 116] = false) {i nx : Nat} (hi : i < nx) :
  RetX Tryz.prog 139 [.ptr i 0, intD form] [(i, pOb l p)] nx (PPost l i nx pairD (prefixP l (f + 1) p form)) := by
 have hne := ne_facts hi
 have hll := hl.len
 rw [prefixP]
 have hh2 := fun nx' (h : nx ≤ nx') => has_ret l p [110, 111, 116] i nx' (by omega) hp hl.len
 rw [h2] at hh2
 simp only [if_true, Bool.false_eq_true, if_false] at hh2
 rw [if_neg (by simp [*]), if_neg (by simp [*])]
 have ha := fun nx' (h : nx ≤ nx') => hP p i nx' (by omega) hp (by omega)
 cases hr0 : primaryP l f p with
 | stop pos e =>
  simp only [hr0] at ha
  refine RetX.runW Tryz.func139 Tryz.ntmps139 rfl (by simp) fun Γ hn hpan => ?_
  repeat' (first
  | (refine V_run rfl ?_; simp [hne, hf0, hf3, del, Nat.add_assoc])
  | (refine CallP.ok1 (hh2 _ (by first | omega | (simp; done) | (simp; omega) | fail)) (by first | (simp [hne, hf0, hf3, del, Nat.add_assoc, getK_cons, getK, getK_append, getK_del]; done) | fail) (by rfl) (by first | assumption | (simp; done) | fail) (by rfl) (by simp) ?_; (try simp [hne, hf0, hf3, del, Nat.add_assoc]))
  | (refine CallP.pan1 (ha _ (by first | omega | (simp; done) | (simp; omega) | fail)) (by first | (simp [hne, hf0, hf3, del, Nat.add_assoc, getK_cons, getK, getK_append, getK_del]; done) | fail) (by rfl) (by first | assumption | (simp; done) | fail) (by rfl) (by simp) ?_; rintro ob' ⟨q', rfl⟩; refine ⟨_, Wk.refl _, ?_⟩)
  | fail)
  (refine hpan _ _ (PanG.k ([(i, pOb l q')]) (nx) (by simp [hn, hi, hne, getK_append, getK_del, getK_cons, getK] <;> omega) ?_); try simp)
  exact PPost.at_stop (by simp [PR.bind, *])
 | ok v0 q0 =>
  have ha := fun nx' h => exp_ok (ha nx' h) hr0
  refine RetX.runW Tryz.func139 Tryz.ntmps139 rfl (by simp) fun Γ hn hpan => ?_
  repeat' (first
  | (refine V_run rfl ?_; simp [hne, hf0, hf3, del, Nat.add_assoc])
  | (refine CallP.ok1 (hh2 _ (by first | omega | (simp; done) | (simp; omega) | fail)) (by first | (simp [hne, hf0, hf3, del, Nat.add_assoc, getK_cons, getK, getK_append, getK_del]; done) | fail) (by rfl) (by first | assumption | (simp; done) | fail) (by rfl) (by simp) ?_; (try simp [hne, hf0, hf3, del, Nat.add_assoc]))
  | (refine CallP.ok1 (ha _ (by first | omega | (simp; done) | (simp; omega) | fail)) (by first | (simp [hne, hf0, hf3, del, Nat.add_assoc, getK_cons, getK, getK_append, getK_del]; done) | fail) (by rfl) (by first | assumption | (simp; done) | fail) (by rfl) (by simp) ?_; (try simp [hne, hf0, hf3, del, Nat.add_assoc]))
  | fail)
  refine EndW.norm ?_
  simp [St.norm, normOb, normD, normU, norm1, hne, Nat.add_assoc]
  (refine EndW.z ([(i, pOb l q0)]) (N := nx) Tryz.results139 (by simp [hne, hi] <;> omega) ?_; simp [hne, hi])
  exact PPost.at_ok (by simp [PR.bind, *]; rfl) (by simp [Exp.row_eq, Exp.op, Exp.n, Exp.unit, Exp.s, Exp.args]) rfl
theorem prefix_prim2 {l : List Tok} (hl : TokOK l) {f p : Nat} {form : Int} (hP : PrimOK l f) (hp : p < l.length) (hf : 4 * (l.length - p) + 1 ≤ f)
  (hf0 : ¬ form = 0) (hf3 : ¬ form ≤ 3) {i nx : Nat} (hi : i < nx) :
  RetX Tryz.prog 139 [.ptr i 0, intD form] [(i, pOb l p)] nx (PPost l i nx pairD (prefixP l (f + 1) p form)) := by
 have hne := ne_facts hi
 have hll := hl.len
 rw [prefixP]
 rw [if_neg (by simp [*]), if_neg (by simp [*])]
 have ha := fun nx' (h : nx ≤ nx') => hP p i nx' (by omega) hp (by omega)
 cases hr0 : primaryP l f p with
 | stop pos e =>
  simp only [hr0] at ha
  refine RetX.runW Tryz.func139 Tryz.ntmps139 rfl (by simp) fun Γ hn hpan => ?_
  repeat' (first
  | (refine V_run rfl ?_; simp [hne, hf0, hf3, del, Nat.add_assoc])
  | (refine CallP.pan1 (ha _ (by first | omega | (simp; done) | (simp; omega) | fail)) (by first | (simp [hne, hf0, hf3, del, Nat.add_assoc, getK_cons, getK, getK_append, getK_del]; done) | fail) (by rfl) (by first | assumption | (simp; done) | fail) (by rfl) (by simp) ?_; rintro ob' ⟨q', rfl⟩; refine ⟨_, Wk.refl _, ?_⟩)
  | fail)
  (refine hpan _ _ (PanG.k ([(i, pOb l q')]) (nx) (by simp [hn, hi, hne, getK_append, getK_del, getK_cons, getK] <;> omega) ?_); try simp)
  exact PPost.at_stop (by simp [PR.bind, *])
 | ok v0 q0 =>
  have ha := fun nx' h => exp_ok (ha nx' h) hr0
  refine RetX.runW Tryz.func139 Tryz.ntmps139 rfl (by simp) fun Γ hn hpan => ?_
  repeat' (first
  | (refine V_run rfl ?_; simp [hne, hf0, hf3, del, Nat.add_assoc])
  | (refine CallP.ok1 (ha _ (by first | omega | (simp; done) | (simp; omega) | fail)) (by first | (simp [hne, hf0, hf3, del, Nat.add_assoc, getK_cons, getK, getK_append, getK_del]; done) | fail) (by rfl) (by first | assumption | (simp; done) | fail) (by rfl) (by simp) ?_; (try simp [hne, hf0, hf3, del, Nat.add_assoc]))
  | fail)
  refine EndW.norm ?_
  simp [St.norm, normOb, normD, normU, norm1, hne, Nat.add_assoc]
  (refine EndW.z ([(i, pOb l q0)]) (N := nx) Tryz.results139 (by simp [hne, hi] <;> omega) ?_; simp [hne, hi])
  exact PPost.at_ok (by simp [PR.bind, *]; rfl) (by simp [Exp.row_eq, Exp.op, Exp.n, Exp.unit, Exp.s, Exp.args]) rfl
theorem prefix_step {l : List Tok} (hl : TokOK l) {f : Nat} (hE : ExpOK l f) (hP : PrimOK l f) : PreOK l (f + 1) := by
 intro p form i nx hi hp hf hm0 hm7
 have hf' : 4 * (l.length - p) + 1 ≤ f := by omega
 by_cases hf0 : form = 0
 ·have hf3 : form ≤ 3 := by omega
  cases h1 : isB l p [105, 102] with
  | true => exact prefix_if hl hE hp hf' hf0 h1 hi
  | false =>
   cases h2 : isB l p [110, 111, 116] with
   | true => exact prefix_not0 hl hE hp hf' hf0 hf3 h1 h2 hi
   | false => exact prefix_prim0 hl hP hp hf' hf0 hf3 h1 h2 hi
 ·by_cases hf3 : form ≤ 3
  ·cases h2 : isB l p [110, 111, 116] with
   | true => exact prefix_not1 hl hE hp hf' hf0 hf3 h2 hi
   | false => exact prefix_prim1 hl hP hp hf' hf0 hf3 h2 hi
  ·exact prefix_prim2 hl hP hp hf' hf0 hf3 hi
theorem eqC_fun (A B : Code) : Fun Tryz.prog 54 [.u (Vm.inss A), .u (Vm.inss B)] (· = .u (.bool (decide (A = B)))) := by
 simp only [Vm.inss]
 by_cases hl : A.length = B.length
 ·have hl' : (A.length : Int) = B.length := by omega
  refine Fun.run Tryz.func54 Tryz.ntmps54 Tryz.results54 rfl (by simp) fun Γ hn => ?_; simp only [entry, List.zipIdx_cons, List.zipIdx_nil, List.map_cons, List.map_nil, Nat.zero_add]
  refine V_len (x := 0) rfl fun hll => ?_
  simp at hll
  repeat' (first
  | (refine V_run rfl ?_; simp [hl, hl'])
  | fail)
  refine V_loopO (α := { i : Nat // i ≤ A.length ∧ A.take i = B.take i }) [0, 1, 11, 12] (fun i => [(13, .u (.int .i64 i.1))]) (fun i => []) 0 (fun i => A.length - i.1) ⟨0, by omega, rfl⟩ ?_ ?_
  ·exact (Wk.cut2 (by simp [hn, hl] <;> grind))
  rintro ⟨i, hi, hb⟩
  simp
  rcases hx : A[i]? with _ | a
  ·have hge : A.length ≤ i := by simpa using hx
   obtain rfl : i = A.length := by omega
   rw [List.take_of_length_le (Nat.le_refl _), List.take_of_length_le (by omega)] at hb
   subst hb
   repeat' (first
  | (refine V_run rfl ?_; simp [hx, hl])
  | fail)
   (refine Pst.of ?_; simp)
  ·have hlt : i < A.length := (List.getElem?_eq_some_iff.1 hx).1
   have hlt2 : i < B.length := by omega
   obtain ⟨b, hy⟩ : ∃ b, B[i]? = some b := ⟨_, List.getElem?_eq_getElem hlt2⟩
   have hi2 : (i : Int) < B.length := by omega
   by_cases hab : a = b
   ·have hsn : A.take (i + 1) = B.take (i + 1) := by
     rw [List.take_succ_eq_append_getElem hlt, List.take_succ_eq_append_getElem hlt2, hb, (List.getElem?_eq_some_iff.1 hx).2, (List.getElem?_eq_some_iff.1 hy).2, hab]
    subst hab
    have hax : A[i]'hlt = a := (List.getElem?_eq_some_iff.1 hx).2
    have hbx : B[i]'hlt2 = a := (List.getElem?_eq_some_iff.1 hy).2
    repeat' (first
  | (refine V_run rfl ?_; simp [hx, hy, hi2, hax, hbx])
  | (refine And.intro (by omega) ?_)
  | (refine ⟨hC _ (by kernel_rfl), hk _ (RN_K 8 _ _ _ ?_)⟩; clear hC hk C k; simp [hx, hy, hi2, hax, hbx])
  | (refine V_dx rfl (by kernel_rfl) (by first | (simp [hn]; done) | (simp [hn]; omega) | fail) fun C k hC hk => ?_; simp [hx, hy, hi2, hax, hbx])
  | fail)
    refine LoopW.next ⟨i + 1, by omega, hsn⟩ (by simp; omega) ?_
    exact (Wk.cut2 (by simp [hn, hl] <;> grind))
   ·have hne : A ≠ B := fun e => by subst e; rw [hx] at hy; cases hy; exact hab rfl
    have hax : A[i]'hlt = a := (List.getElem?_eq_some_iff.1 hx).2
    have hbx : B[i]'hlt2 = b := (List.getElem?_eq_some_iff.1 hy).2
    rw [decide_eq_false hne]
    have hfa : ¬ (a.op = b.op ∧ a.a = b.a ∧ a.s = b.s) := fun ⟨h1, h2, h3⟩ => hab (by cases a; cases b; simp_all)
    repeat' (first
  | (refine Cnd.of (fun hc => ?_) (fun hc => ?_) <;> (try (exfalso; omega)) <;> (try simp [hx, hy, hi2, hax, hbx]))
  | (refine V_run rfl ?_; simp [hx, hy, hi2, hax, hbx])
  | (refine And.intro (by omega) ?_)
  | (refine ⟨hC _ (by kernel_rfl), hk _ (RN_K 8 _ _ _ ?_)⟩; clear hC hk C k; simp [hx, hy, hi2, hax, hbx])
  | (refine V_dx rfl (by kernel_rfl) (by first | (simp [hn]; done) | (simp [hn]; omega) | fail) fun C k hC hk => ?_; simp [hx, hy, hi2, hax, hbx])
  | fail)
    (refine Pst.of ?_; simp)
    exact absurd (by assumption) hfa
 ·have hl' : ¬ (A.length : Int) = B.length := by omega
  have hne : ¬ A = B := fun e => hl (by rw [e])
  refine Fun.run Tryz.func54 Tryz.ntmps54 Tryz.results54 rfl (by simp) fun Γ hn => ?_
  repeat' (first
  | (refine V_run rfl ?_; simp [hl, hl'])
  | fail)
  (refine Pst.of ?_; simp)
  simp [hne]
theorem csame_fun (A B : Code) : Fun Tryz.prog 21 [.u (Vm.inss A), .u (Vm.inss B)] (· = .u (.bool (decide (A = B)))) := by
 have h := eqC_fun A B
 refine Fun.run Tryz.func21 Tryz.ntmps21 Tryz.results21 rfl (by simp) fun Γ hn => ?_
 repeat' (first
  | (refine V_run rfl ?_; simp)
  | (refine CallP.f2 rfl (h) (by first | simp <;> rfl | fail) ?_; simp)
  | fail)
 (refine Pst.of ?_; simp)
theorem rsameC_fun (A B : Code) : Fun Tryz.prog 16 [.u (Vm.inss A), .u (Vm.inss B)] (· = .u (.bool (decide (A = B)))) := by
 simp only [Vm.inss]
 by_cases hl : A.length = B.length
 ·have hl' : (A.length : Int) = B.length := by omega
  refine Fun.run Tryz.func16 Tryz.ntmps16 Tryz.results16 rfl (by simp) fun Γ hn => ?_; simp only [entry, List.zipIdx_cons, List.zipIdx_nil, List.map_cons, List.map_nil, Nat.zero_add]
  refine V_len (x := 0) rfl fun hll => ?_
  simp at hll
  repeat' (first
  | (refine V_run rfl ?_; simp [hl, hl'])
  | fail)
  refine V_loopO (α := { i : Nat // i ≤ A.length ∧ A.take i = B.take i }) [0, 1] (fun i => [(5, .u (.int .i64 i.1))]) (fun i => []) 0 (fun i => A.length - i.1) ⟨0, by omega, rfl⟩ ?_ ?_
  ·exact (Wk.cut2 (by simp [hn, hl] <;> grind))
  rintro ⟨i, hi, hb⟩
  simp
  rcases hx : A[i]? with _ | a
  ·have hge : A.length ≤ i := by simpa using hx
   obtain rfl : i = A.length := by omega
   rw [List.take_of_length_le (Nat.le_refl _), List.take_of_length_le (by omega)] at hb
   subst hb
   repeat' (first
  | (refine V_run rfl ?_; simp [hx, hl])
  | fail)
   (refine Pst.of ?_; simp)
  ·have hlt : i < A.length := (List.getElem?_eq_some_iff.1 hx).1
   have hlt2 : i < B.length := by omega
   obtain ⟨b, hy⟩ : ∃ b, B[i]? = some b := ⟨_, List.getElem?_eq_getElem hlt2⟩
   have hi2 : (i : Int) < B.length := by omega
   by_cases hab : a = b
   ·have hsn : A.take (i + 1) = B.take (i + 1) := by
     rw [List.take_succ_eq_append_getElem hlt, List.take_succ_eq_append_getElem hlt2, hb, (List.getElem?_eq_some_iff.1 hx).2, (List.getElem?_eq_some_iff.1 hy).2, hab]
    subst hab
    have hax : A[i]'hlt = a := (List.getElem?_eq_some_iff.1 hx).2
    have hbx : B[i]'hlt2 = a := (List.getElem?_eq_some_iff.1 hy).2
    repeat' (first
  | (refine Cnd.of (fun hc => ?_) (fun hc => ?_) <;> (try (exfalso; omega)) <;> (try simp [hx, hy, hi2, hax, hbx]))
  | (refine V_run rfl ?_; simp [hx, hy, hi2, hax, hbx])
  | (refine And.intro (by omega) ?_)
  | (refine ⟨hC _ (by kernel_rfl), hk _ (RN_K 8 _ _ _ ?_)⟩; clear hC hk C k; simp [hx, hy, hi2, hax, hbx])
  | (refine V_dx rfl (by kernel_rfl) (by first | (simp [hn]; done) | (simp [hn]; omega) | fail) fun C k hC hk => ?_; simp [hx, hy, hi2, hax, hbx])
  | fail)
    refine LoopW.next ⟨i + 1, by omega, hsn⟩ (by simp; omega) ?_
    exact (Wk.cut2 (by simp [hn, hl] <;> grind))
   ·have hne : A ≠ B := fun e => by subst e; rw [hx] at hy; cases hy; exact hab rfl
    have hax : A[i]'hlt = a := (List.getElem?_eq_some_iff.1 hx).2
    have hbx : B[i]'hlt2 = b := (List.getElem?_eq_some_iff.1 hy).2
    rw [decide_eq_false hne]
    have hfa : ¬ (a.op = b.op ∧ a.a = b.a ∧ a.s = b.s) := fun ⟨h1, h2, h3⟩ => hab (by cases a; cases b; simp_all)
    repeat' (first
  | (refine Cnd.of (fun hc => ?_) (fun hc => ?_) <;> (try (exfalso; omega)) <;> (try simp [hx, hy, hi2, hax, hbx]))
  | (refine V_run rfl ?_; simp [hx, hy, hi2, hax, hbx])
  | (refine And.intro (by omega) ?_)
  | (refine ⟨hC _ (by kernel_rfl), hk _ (RN_K 8 _ _ _ ?_)⟩; clear hC hk C k; simp [hx, hy, hi2, hax, hbx])
  | (refine V_dx rfl (by kernel_rfl) (by first | (simp [hn]; done) | (simp [hn]; omega) | fail) fun C k hC hk => ?_; simp [hx, hy, hi2, hax, hbx])
  | fail)
    (refine Pst.of ?_; simp)
    exact absurd (by assumption) hfa
 ·have hl' : ¬ (A.length : Int) = B.length := by omega
  have hne : ¬ A = B := fun e => hl (by rw [e])
  refine Fun.run Tryz.func16 Tryz.ntmps16 Tryz.results16 rfl (by simp) fun Γ hn => ?_
  repeat' (first
  | (refine V_run rfl ?_; simp [hl, hl'])
  | fail)
  (refine Pst.of ?_; simp)
  simp [hne]
end Go.Proofs.YtkdhmbhbbciedaaGreatDoor
namespace Go.Proofs.YtkdhmbhbbciedaaGreatDoor
open Go Go.VL Go.Shelf Go.RowKit
/-- The objects of Read ahead of a round. -/
def readO (L : Code) (i : Nat) : List (Nat × Ob) := [(0, .box [.vec (i + 4) i]), (i + 4, .vec 44 3 (insR (L.take i)))]
theorem cutU_eq (t : W8) : ∃ (w r : W8) (b : Bool), cutU 32 t = .tup [.u (.str w), .u (.str r), .u (.bool b)] ∧ insP t = (if idxS wordsL w 0 = 1 then ⟨1, 0, r⟩ else ⟨idxS wordsL w 0, atoiV r, []⟩) ∧ r.length ≤ t.length := by
 cases hc : cutB 32 t with
 | none => exact ⟨t, [], false, by simp [cutU, hc], by simp [insP, hc], by simp⟩
 | some p => exact ⟨p.1, p.2, true, by simp [cutU, hc], by simp [insP, hc], Nat.le_of_lt (cut_len (p := p.1) hc)⟩
end Go.Proofs.YtkdhmbhbbciedaaGreatDoor
namespace Go.Proofs.YtkdhmbhbbciedaaGreatDoor
open Go Go.VL
theorem primary_min {l : List Tok} (hl : TokOK l) {f p : Nat} (hE : ExpOK l f) (hf : 4 * (l.length - p) ≤ f) {t : Tok} (ht : l[p]? = some t) (hk : ¬ t.kind = 2) (h1 : isB l p [116, 114, 117, 101] = false) (h2 : isB l p [102, 97, 108, 115, 101] = false)
  (h3 : isB l p [109, 105, 110] = true) (h4 : isB l p [109, 97, 120] = false) {i nx : Nat} (hi : i < nx) :
  RetX Tryz.prog 170 [.ptr i 0] [(i, pOb l p)] nx (PPost l i nx expD (primaryP l (f + 1) p)) := primary_mm hl hE hf ht hk h1 h2 (.inr ⟨h3, h4⟩) hi
end Go.Proofs.YtkdhmbhbbciedaaGreatDoor
namespace Go.Proofs.YtkdhmbhbbciedaaGreatDoor
open Go Go.VL
attribute [local simp] exS_some hcons hstep evPure opd uOf putOK St.put St.at getK binD binI binS binB nilD aggD eqUs cmpK lookD lookR rangeD rangeS Go.VL.nextD Go.VL.nextS entryD keyD valU keyU lookK mkV entD_nil allUE makeMapD mapUpdD mapEff updK valM Key.kk shiftI arith unD convD pickD loadD cellsAt fieldAddrD fieldD indexAddrD indexSlD arrAddr indexD sliceD cutD lenD minmaxD nilCheckD buildD fillD cellsD isOne ones setAll mkAgg allU allocD boxD storeD St.add buildSliceD appendD rowsOf makeD setOb getK_setOb getK_del getK_cons stripL strip guardTmp entry chunks zcells valD argsV argsW argW argU1 argU0 argsU0 argsU1 calleeOf scalarD scalarU delAll effD St.effS RK_seq RK_seq_ret RK_seq_exit RK_blk RK_blk_ret RK_blk_exit RK_loop RK_loop_ret RK_loop_exit RK_done vs_seq vs_block vs_cond vs_region vs_loop applyW mkD rdIds lentIds callOf calleeOf freeOp D.ids Op.operands Call.operands isEffOp makeIfD makeFuncD typeAssertD conc concs conc1 uOfV panicD IntKind.bits allU2 List.take_of_length_le List.range_succ HR_nil HR_cons HR_grd v2_seq v2_block v2_skip v2_exit v2_ret v2_cond v2_region v2_draw v2_loop RN_0 RN_done RN_seq RN_seq_ret RN_seq_exit RN_blk RN_blk_ret RN_blk_exit RN_loop RN_loop_ret RN_loop_exit Cnd_tf Cnd_ft EndV getK_append frzN frz1 frz_env frz_obs St.frz St.frzS frzS fv fzVec fzMap fzBox frzObS frz_entD frz_rowsD frz frzOb normD normU norm1 normOb St.norm St.lp St.only keepE wkE wkO wkU Ob.under D.under under_rowsD under_entD H4_nil H4_cons H4_grd h4s resD oneOrTup pureD List.zipIdx_cons List.zipIdx_nil List.map_cons List.map_nil Nat.zero_add
attribute [local irreducible] V G H HD HD2 RunK Eff CallP CallV EndOK Fun Ret FinOK LoopI LoopW EndW HR vs2 RN Cnd H4
theorem lex_fun (s : List UInt8) : Fun Tryz.prog 138 [.u (.str s)] (· = lexOut (lexL s)) := by
 unfold lexL
 by_cases hlong : 2000 < s.length
 ·have hlong2 : 2000 < (s.length : Int) := by omega
  rw [if_pos hlong]
  refine Fun.runW Tryz.func138 Tryz.ntmps138 rfl (by simp) fun Γ hn => ?_
  repeat' (first
  | (refine V_run rfl ?_; simp [hlong, hlong2])
  | fail)
  refine EndW.norm (EndW.here ?_)
  (refine EndOK.val (.inr rfl) ?_; simp [Tryz.results138])
  simp [lexOut]
 rw [if_neg hlong]
 have hlong2 : ¬ 2000 < (s.length : Int) := by omega
 obtain ⟨R, hR⟩ : ∃ R, R = lexF (s.length + 1) s 0 := ⟨_, rfl⟩
 rw [← hR]
 refine Fun.runW Tryz.func138 Tryz.ntmps138 rfl (by simp) fun Γ hn => ?_
 repeat' (first
  | (refine V_run rfl ?_; simp [hlong, hlong2])
  | fail)
 refine V_wk _ (Wk.own 5 148 4 (by decide) rfl) ?_
 simp [St.own]
 refine V_loopO (α := { x : List Tok × Nat × Nat // x.2.1 ≤ s.length ∧ s.length < x.2.1 + x.2.2 ∧ x.1.length ≤ x.2.1 ∧ R = prepE x.1 (lexF x.2.2 s x.2.1) }) [0] (fun x => [(5, .vec 0 x.1.1.length), (6, .u (.int .i64 x.1.2.1))]) (fun x => [(0, .vec 148 4 (tokR x.1.1))]) 1 (fun x => x.1.2.2) ⟨([], 0, s.length + 1), by simp, by simp, by simp, by rw [prepE_nil, hR]⟩ ?_ ?_
 ·exact (Wk.cut2 (by simp [hn, tokR] <;> grind))
 rintro ⟨⟨acc, p, f⟩, h1, h2, h3, h4⟩
 simp only at h1 h2 h3 h4
 simp
 obtain ⟨f', rfl⟩ : ∃ f', f = f' + 1 := ⟨f - 1, by omega⟩
 rw [lexF] at h4
 have hsp := span_fun (s.drop p) (by rw [List.length_drop]; omega) 166 isBlank (fun c _ => blank_fun c) (by simp)
 have hle := spanL_le isBlank (s.drop p)
 rw [List.length_drop] at hle
 obtain ⟨b, hb⟩ : ∃ b, b = spanL isBlank (s.drop p) := ⟨_, rfl⟩
 rw [← hb] at hsp hle h4
 have hp1 : (p : Int) ≤ s.length := by omega
 have hpb : (p : Int) + b ≤ s.length := by omega
 rcases hd : s.drop (p + b) with _ | ⟨c, r⟩
 ·have hdl : (s.drop (p + b)).length = 0 := by rw [hd]; rfl
  rw [List.length_drop] at hdl
  have hpe : p + b = s.length := by omega
  have hpe2 : (p : Int) + b = s.length := by omega
  rw [hd] at h4
  simp only at h4
  have hap : tokR acc ++ [[D.u (.int .i64 0), D.u (.str []), D.u (.int .i64 0), D.u (.int .i64 (s.length : Int))]] = tokR (acc ++ [⟨0, [], 0, s.length⟩]) := by simp [tokR]
  have hlr : lenR 4 (tokR acc) := fun r hr => by obtain ⟨t, _, rfl⟩ := List.mem_map.1 hr; rfl
  rw [hpe] at h4
  repeat' (first
  | (refine V_run rfl ?_; simp [h1, hp1, hpe2, tokR_len, hap, hlr])
  | (refine And.intro (by omega) ?_)
  | (refine CallP.f2 rfl (hsp) (by first | simp [h1, hp1, hpe2, tokR_len, hap, hlr] <;> rfl | fail) ?_; simp [h1, hp1, hpe2, tokR_len, hap, hlr])
  | fail)
  (refine EndW.frzN 3 ?_; simp [del, tokR_all, tokR_len, List.length_append])
  refine EndW.norm (EndW.here ?_)
  (refine EndOK.val (.inr rfl) ?_; simp [Tryz.results138, tokR_all, tokR_len, List.length_append])
  rw [h4]
  simp [prepE, lexOut]
 ·have hdl : (s.drop (p + b)).length = r.length + 1 := by rw [hd]; rfl
  rw [List.length_drop] at hdl
  have hpe : ¬ p + b = s.length := by omega
  have hpe2 : ¬ (p : Int) + b = s.length := by omega
  have hnx := next_fun (s.drop (p + b)) (by rw [hd]; simp) (by rw [List.length_drop]; omega)
  unfold nextD at hnx
  rw [hd] at h4
  simp only at h4
  rw [hd] at hnx
  have hpb2 : ((p : Int) + b).toNat = p + b := by omega
  have hpb3 : p + b ≤ s.length := by omega
  cases hno : nextO (c :: r) with
  | error e =>
   rw [hno] at h4 hnx
   have he : e ≠ 0 := by
    unfold nextO at hno
    simp only at hno
    split at hno
    ·split at hno <;> cases hno
     omega
    ·split at hno
     ·split at hno <;> cases hno
      omega
     ·split at hno <;> cases hno
      omega
   repeat' (first
  | (refine V_run rfl ?_; simp [h1, hp1, hpe, hpe2, hd, he, hpb, hpb2, hpb3])
  | (refine And.intro (by omega) ?_)
  | ((first | refine CallP.f2 rfl (hsp) (by first | simp [h1, hp1, hpe, hpe2, hd, he, hpb, hpb2, hpb3] <;> rfl | fail) ?_ | refine CallP.f2 rfl (hnx) (by first | simp [h1, hp1, hpe, hpe2, hd, he, hpb, hpb2, hpb3] <;> rfl | fail) ?_ | fail); simp [h1, hp1, hpe, hpe2, hd, he, hpb, hpb2, hpb3])
  | fail)
   refine EndW.norm (EndW.here ?_)
   (refine EndOK.val (.inr rfl) ?_; simp [Tryz.results138])
   rw [h4]
   simp [prepE, lexOut]
  | ok t =>
   rw [hno] at h4 hnx
   obtain ⟨ht1, ht2⟩ := nextO_text hno
   simp only [List.length_cons] at ht2
   have hap : tokR acc ++ [[D.u (.int .i64 t.kind), D.u (.str t.text), D.u (.int .i64 t.n), D.u (.int .i64 ((p : Int) + b))]] = tokR (acc ++ [{ t with pos := ((p + b : Nat) : Int) }]) := by simp [tokR]
   have hlr : lenR 4 (tokR acc) := fun r hr => by obtain ⟨t, _, rfl⟩ := List.mem_map.1 hr; rfl
   repeat' (first
  | (refine V_run rfl ?_; simp [h1, hp1, hpe, hpe2, hd, hpb, hpb2, hpb3, tokR_len, hap, hlr])
  | (refine And.intro (by omega) ?_)
  | ((first | refine CallP.f2 rfl (hsp) (by first | simp [h1, hp1, hpe, hpe2, hd, hpb, hpb2, hpb3, tokR_len, hap, hlr] <;> rfl | fail) ?_ | refine CallP.f2 rfl (hnx) (by first | simp [h1, hp1, hpe, hpe2, hd, hpb, hpb2, hpb3, tokR_len, hap, hlr] <;> rfl | fail) ?_ | fail); simp [h1, hp1, hpe, hpe2, hd, hpb, hpb2, hpb3, tokR_len, hap, hlr])
  | fail)
   refine LoopW.next ⟨(acc ++ [{ t with pos := ((p + b : Nat) : Int) }], p + b + t.text.length, f'), by simp; omega, by simp; omega, by simp; omega, ?_⟩ (by simp) ?_
   ·rw [h4]
    simp only
    cases lexF f' s (p + b + t.text.length) <;> simp [prepE]
   ·skip
    exact (Wk.ren ((fun i => if i = 0 then 3 else i)) rfl (by first | (simp [hn]; done) | (intro i hi; rw [hn] at hi; constructor <;> (try simp) <;> (try (intro _)) <;> omega)) (by simp [wkER, St.lp, keepE, getK_cons, getK, getK_del, getK_setOb, D.under, D.le, D.ren, pure_tokR, under_tokR] <;> (try (intros; simp_all; done)) <;> (try omega)) (by simp [wkR, St.lp, getK_cons, getK, getK_del, getK_setOb, obR, leU, pureRow, pureRows, Ob.under, D.under, D.le, D.ren, pure_tokR, under_tokR] <;> (try (intros; simp_all; done)) <;> (try omega)) (by simp [pure_tokR, under_tokR]))
theorem clet_fun (lets : List Let) (y z : U) (n : Nat) (s : List UInt8) (hn' : n ≤ lets.length) (hn2 : n ≤ 1000) : Fun Tryz.prog 66 [.u (.row [letsU lets, y, z] 0), .u (.int .i64 n), .u (.str s)] (· = .u (.int .i64 (ixO (lastI lets n s)))) := by
 generalize hR : lastI lets n s = R
 simp only [letsU]
 refine Fun.run Tryz.func66 Tryz.ntmps66 Tryz.results66 rfl (by simp) fun Γ hn => ?_
 repeat' (first
  | (refine V_run rfl ?_; simp)
  | (refine And.intro (by omega) ?_)
  | fail)
 refine V_loopF (α := { i : Nat // i ≤ n ∧ lastI lets i s = R }) [0, 2] (fun i => [(7, .u (.int .i64 ((i.1 : Int) - 1)))]) (fun i => i.1) ⟨n, Nat.le_refl _, hR⟩ ?_ ?_
 ·exact (Wk.cut2 (by simp [hn] <;> grind))
 rintro ⟨i, hi, hinv⟩
 simp
 cases i with
 | zero =>
  have hinv2 := hinv
  rw [lastI] at hinv2
  subst hinv2
  repeat' (first
  | (refine V_run rfl ?_; simp)
  | fail)
  (refine Pst.of ?_; simp)
  rfl
 | succ j =>
  have hj : j < lets.length := by omega
  have hl : lets[j]? = some lets[j] := List.getElem?_eq_getElem hj
  have hsub : ((j + 1 : Nat) : Int) - 1 = (j : Int) := by omega
  have hsub2 : (j : Int) + 1 - 1 = (j : Int) := by omega
  generalize lets[j] = l at hl
  have hinv2 := hinv
  rw [lastI, hl] at hinv2
  simp only at hinv2
  by_cases hnm : l.name = s
  ·rw [if_pos hnm] at hinv2
   subst hinv2
   repeat' (first
  | (refine V_run rfl ?_; simp [hsub, hsub2, hl, hnm])
  | fail)
   (refine Pst.of ?_; simp)
   rfl
  ·rw [if_neg hnm] at hinv2
   repeat' (first
  | (refine V_run rfl ?_; simp [hsub, hsub2, hl, hnm])
  | (refine And.intro (by omega) ?_)
  | fail)
   refine LoopW.next ⟨j, by omega, hinv2⟩ (by simp) ?_
   exact (Wk.cut2 (by simp [hn] <;> grind))
theorem share_fun' (lets : List Let) (shs : List Bool) (z : U) (n : Nat) (hn' : n ≤ lets.length) (hn1 : n ≤ shs.length) (hn2 : n ≤ 1000) : ∀ (d : Nat) (e : Exp), rightB d e = true → Fun Tryz.prog 35 [.u (.row [letsU lets, boolsU shs, z] 0), .u (.int .i64 n), eagg e] (· = .u (.bool (shareS (nmS lets shs n) e)))
 | 0, e, h => by simp [rightB] at h
 | d + 1, e, h => by
  obtain ⟨h1, h2, h3, h4⟩ := right_args h
  rw [shareS_eq]
  by_cases h0 : e.op = 0
  ·rw [if_pos h0]
   refine Fun.run Tryz.func35 Tryz.ntmps35 Tryz.results35 rfl (by simp) fun Γ hn => ?_; simp only [entry, List.zipIdx_cons, List.zipIdx_nil, List.map_cons, List.map_nil, Nat.zero_add]
   simp only [eagg]
   repeat' (first
  | (refine V_run rfl ?_; simp [h0])
  | fail)
   (refine Pst.of ?_; simp)
  rw [if_neg h0]
  by_cases hnm : e.op = 1
  ·rw [if_pos hnm]
   have hlet := clet_fun lets (boolsU shs) z n e.s hn' hn2
   cases hi : lastI lets n e.s with
   | none =>
    rw [hi] at hlet
    simp only [ixO, boolsU, letsU] at hlet
    refine Fun.run Tryz.func35 Tryz.ntmps35 Tryz.results35 rfl (by simp) fun Γ hn => ?_; simp only [entry, List.zipIdx_cons, List.zipIdx_nil, List.map_cons, List.map_nil, Nat.zero_add]
    simp only [eagg, boolsU, letsU]
    repeat' (first
  | (refine V_run rfl ?_; simp [h0, hnm])
  | (refine CallP.f2 rfl (hlet) (by first | simp [h0, hnm] <;> rfl | fail) ?_; simp [h0, hnm])
  | fail)
    (refine Pst.of ?_; simp)
    simp [nmS, hi]
   | some i =>
    rw [hi] at hlet
    simp only [ixO, boolsU, letsU] at hlet
    obtain ⟨q1, _⟩ := lastI_some hi
    have q2 : i < shs.length := by omega
    have q3 : shs[i]? = some shs[i] := List.getElem?_eq_getElem q2
    have q4 : shs.getD i false = shs[i] := by rw [List.getD_eq_getElem?_getD, q3]; rfl
    have q5 : (i : Int) < shs.length := by omega
    have q6 : ¬ (i : Int) < 0 := by omega
    refine Fun.run Tryz.func35 Tryz.ntmps35 Tryz.results35 rfl (by simp) fun Γ hn => ?_; simp only [entry, List.zipIdx_cons, List.zipIdx_nil, List.map_cons, List.map_nil, Nat.zero_add]
    simp only [eagg, boolsU, letsU]
    repeat' (first
  | (refine V_run rfl ?_; simp [h0, hnm, q2, q6])
  | (refine CallP.f2 rfl (hlet) (by first | simp [h0, hnm, q2, q6] <;> rfl | fail) ?_; simp [h0, hnm, q2, q6])
  | fail)
    (refine Pst.of ?_; simp)
    simp [nmS, hi, q2]
  rw [if_neg hnm]
  have hr := h4 h0 hnm
  by_cases hA : e.op = 2 ∨ e.op = 3 ∨ e.op = 6 ∨ e.op = 7
  ·rw [if_pos hA]
   have hl : e.args.length = 2 := by
    rcases hA with ha | ha | ha | ha <;> rw [ha] at h1 <;> simp [operandsI] at h1 <;> omega
   obtain ⟨a, b, hab⟩ : ∃ a b, e.args = [a, b] := by
    match hq : e.args, hl with
    | [a, b], _ => exact ⟨a, b, rfl⟩
   have h5 := share_fun' lets shs z n hn' hn1 hn2 d a (hr a (by simp [hab]))
   simp only [eagg, boolsU, letsU] at h5
   rw [hab, shareN]
   rcases hA with ha | ha | ha | ha
   all_goals
    refine Fun.run Tryz.func35 Tryz.ntmps35 Tryz.results35 rfl (by simp) fun Γ hn => ?_; simp only [entry, List.zipIdx_cons, List.zipIdx_nil, List.map_cons, List.map_nil, Nat.zero_add]
    simp only [eagg, boolsU, letsU]
    repeat' (first
  | (refine V_run rfl ?_; simp [ha, hab, a.row_eq, b.row_eq])
  | (refine CallP.f2 rfl (h5) (by first | simp [ha, hab, a.row_eq, b.row_eq] <;> rfl | fail) ?_; simp [ha, hab, a.row_eq, b.row_eq])
  | fail)
    (refine Pst.of ?_; simp)
  rw [if_neg hA]
  by_cases hB : e.op = 4
  ·rw [if_pos hB]
   have hl : e.args.length = 2 := by rw [hB] at h1; simp [operandsI] at h1; omega
   obtain ⟨a, b, hab⟩ : ∃ a b, e.args = [a, b] := by
    match hq : e.args, hl with
    | [a, b], _ => exact ⟨a, b, rfl⟩
   have h5 := share_fun' lets shs z n hn' hn1 hn2 d a (hr a (by simp [hab]))
   have h6 := share_fun' lets shs z n hn' hn1 hn2 d b (hr b (by simp [hab]))
   simp only [eagg, boolsU, letsU] at h5 h6
   rw [hab, shareN, shareN, shareN]
   generalize shareS (nmS lets shs n) a = x1 at h5 ⊢
   generalize shareS (nmS lets shs n) b = x2 at h6 ⊢
   refine Fun.run Tryz.func35 Tryz.ntmps35 Tryz.results35 rfl (by simp) fun Γ hn => ?_; simp only [entry, List.zipIdx_cons, List.zipIdx_nil, List.map_cons, List.map_nil, Nat.zero_add]
   simp only [eagg, boolsU, letsU]
   repeat' (first
  | (refine Cnd.of (fun hc => ?_) (fun hc => ?_) <;> (try (exfalso; omega)) <;> (try simp [hB, hab, a.row_eq, b.row_eq]))
  | (refine V_run rfl ?_; simp [hB, hab, a.row_eq, b.row_eq])
  | ((first | refine CallP.f2 rfl (h5) (by first | simp [hB, hab, a.row_eq, b.row_eq] <;> rfl | fail) ?_ | refine CallP.f2 rfl (h6) (by first | simp [hB, hab, a.row_eq, b.row_eq] <;> rfl | fail) ?_ | fail); simp [hB, hab, a.row_eq, b.row_eq])
  | fail)
   all_goals
    (refine Pst.of ?_; simp)
   all_goals (simp_all; done)
  rw [if_neg hB]
  by_cases hC' : e.op = 13
  ·rw [if_pos hC']
   have hl : e.args.length = 3 := by rw [hC'] at h1; simp [operandsI] at h1; omega
   obtain ⟨a, b, c, hab⟩ : ∃ a b c, e.args = [a, b, c] := by
    match hq : e.args, hl with
    | [a, b, c], _ => exact ⟨a, b, c, rfl⟩
   have h5 := share_fun' lets shs z n hn' hn1 hn2 d b (hr b (by simp [hab]))
   simp only [eagg, boolsU, letsU] at h5
   rw [hab, shareN, shareN]
   refine Fun.run Tryz.func35 Tryz.ntmps35 Tryz.results35 rfl (by simp) fun Γ hn => ?_; simp only [entry, List.zipIdx_cons, List.zipIdx_nil, List.map_cons, List.map_nil, Nat.zero_add]
   simp only [eagg, boolsU, letsU]
   repeat' (first
  | (refine V_run rfl ?_; simp [hC', hab, a.row_eq, b.row_eq, c.row_eq])
  | (refine CallP.f2 rfl (h5) (by first | simp [hC', hab, a.row_eq, b.row_eq, c.row_eq] <;> rfl | fail) ?_; simp [hC', hab, a.row_eq, b.row_eq, c.row_eq])
  | fail)
   (refine Pst.of ?_; simp)
  rw [if_neg hC']
  have hD : ¬ e.op = 2 ∧ ¬ e.op = 3 ∧ ¬ e.op = 6 ∧ ¬ e.op = 7 := by omega
  obtain ⟨g1, g2, g3, g4⟩ := hD
  refine Fun.run Tryz.func35 Tryz.ntmps35 Tryz.results35 rfl (by simp) fun Γ hn => ?_; simp only [entry, List.zipIdx_cons, List.zipIdx_nil, List.map_cons, List.map_nil, Nat.zero_add]
  simp only [eagg, boolsU, letsU]
  repeat' (first
  | (refine V_run rfl ?_; simp [h0, hnm, g1, g2, g3, g4, hB, hC'])
  | fail)
  (refine Pst.of ?_; simp)
theorem plain_fun (lets : List Let) (shs : List Bool) (z : U) (n : Nat) (hn' : n ≤ lets.length) (hn1 : n ≤ shs.length) (hn2 : n ≤ 1000) (d : Nat) (e : Exp) (h : rightB (d + 1) e = true) (hop : 2 ≤ e.op ∧ e.op ≤ 9 ∨ e.op = 12) :
  Fun Tryz.prog 68 [.u (.row [letsU lets, boolsU shs, z] 0), .u (.int .i64 n), eagg e] (· = .u (.int .i64 (plainOp (shareS (nmS lets shs n)) e.op e.args))) := by
 obtain ⟨h1, h2, h3, h4⟩ := right_args h
 have hr := h4 (by omega) (by omega)
 by_cases hB : e.op = 4
 ·have hl : e.args.length = 2 := by rw [hB] at h1; simp [operandsI] at h1; omega
  obtain ⟨a, b, hab⟩ : ∃ a b, e.args = [a, b] := by
   match hq : e.args, hl with
   | [a, b], _ => exact ⟨a, b, rfl⟩
  have h5 := share_fun' lets shs z n hn' hn1 hn2 d a (hr a (by simp [hab]))
  have h6 := share_fun' lets shs z n hn' hn1 hn2 d b (hr b (by simp [hab]))
  simp only [eagg, boolsU, letsU] at h5 h6
  have hp : plainOp (shareS (nmS lets shs n)) e.op e.args = if (shareS (nmS lets shs n) a || shareS (nmS lets shs n) b) = true then 6 else 4 := by simp [plainOp, hB, hab]
  rw [hp]
  generalize shareS (nmS lets shs n) a = x1 at h5 ⊢
  generalize shareS (nmS lets shs n) b = x2 at h6 ⊢
  refine Fun.run Tryz.func68 Tryz.ntmps68 Tryz.results68 rfl (by simp) fun Γ hn => ?_; simp only [entry, List.zipIdx_cons, List.zipIdx_nil, List.map_cons, List.map_nil, Nat.zero_add]
  simp only [eagg, boolsU, letsU]
  repeat' (first
  | (refine Cnd.of (fun hc => ?_) (fun hc => ?_) <;> (try (exfalso; omega)) <;> (try simp [hB, hab, a.row_eq, b.row_eq]))
  | (refine V_run rfl ?_; simp [hB, hab, a.row_eq, b.row_eq])
  | ((first | refine CallP.f2 rfl (h5) (by first | simp [hB, hab, a.row_eq, b.row_eq] <;> rfl | fail) ?_ | refine CallP.f2 rfl (h6) (by first | simp [hB, hab, a.row_eq, b.row_eq] <;> rfl | fail) ?_ | fail); simp [hB, hab, a.row_eq, b.row_eq])
  | fail)
  all_goals
   (refine Pst.of ?_; simp)
  all_goals (simp_all; done)
 ·rcases (show e.op = 2 ∨ e.op = 3 ∨ e.op = 5 ∨ e.op = 6 ∨ e.op = 7 ∨ e.op = 8 ∨ e.op = 9 ∨ e.op = 12 by omega) with ho | ho | ho | ho | ho | ho | ho | ho
  all_goals
   have hp : ∃ r, plainOp (shareS (nmS lets shs n)) e.op e.args = r ∧ r = plainOp (shareS (nmS lets shs n)) e.op [] := ⟨_, rfl, by simp [plainOp, ho]⟩
   obtain ⟨r, hp1, hp2⟩ := hp
   rw [hp1]
   rw [ho] at hp2
   simp only [plainOp, if_true, if_false, if_pos, if_neg, Int.reduceEq] at hp2
   subst hp2
   refine Fun.run Tryz.func68 Tryz.ntmps68 Tryz.results68 rfl (by simp) fun Γ hn => ?_; simp only [entry, List.zipIdx_cons, List.zipIdx_nil, List.map_cons, List.map_nil, Nat.zero_add]
   simp only [eagg, boolsU, letsU]
   repeat' (first
  | (refine V_run rfl ?_; simp [ho])
  | fail)
   (refine Pst.of ?_; simp)
theorem full_fun (x y : U) (code : Code) : Fun Tryz.prog 37 [.u (.row [x, y, Vm.inss code] 0)] (· = .u (.bool (decide (2000 ≤ code.length)))) := by
 simp only [Vm.inss]
 refine Fun.run Tryz.func37 Tryz.ntmps37 Tryz.results37 rfl (by simp) fun Γ hn => ?_
 repeat' (first
  | (refine V_run rfl ?_; simp)
  | fail)
 all_goals
  (refine Pst.of ?_; simp)
 all_goals first | omega | (simp; omega)
theorem cneeds_fun (op : Int) : Fun Tryz.prog 48 [.u (.int .i64 op)] (· = .tup [.u (.int .i64 (needI op)), .u (.int .i64 (leavesI op))]) := by
 refine Fun.run Tryz.func48 Tryz.ntmps48 Tryz.results48 rfl (by simp) fun Γ hn => ?_
 repeat' (first
  | (refine Cnd.of (fun hc => ?_) (fun hc => ?_) <;> (try (exfalso; omega)) <;> (try simp))
  | (refine V_run rfl ?_; simp)
  | fail)
 all_goals
  (refine Pst.of ?_; simp)
 all_goals (unfold needI leavesI; simp_all)
theorem formed_fun (l : Code) (i : Nat) (x : Ins) (hx : l[i]? = some x) (hl : l.length ≤ 1000000) : Fun Tryz.prog 47 [.u (Vm.inss l), .u (.int .i64 i)] (· = .u (.bool (formI x i l.length))) := by
 have hi := (List.getElem?_eq_some_iff.1 hx).1
 have hnam := name_fun x.s
 unfold formI
 generalize nameB x.s = nm at hnam ⊢
 obtain ⟨op, a, s⟩ := x
 simp only [Vm.inss] at hnam ⊢
 refine Fun.run Tryz.func47 Tryz.ntmps47 Tryz.results47 rfl (by simp) fun Γ hn => ?_
 repeat' (first
  | (refine Cnd.of (fun hc => ?_) (fun hc => ?_) <;> (try (exfalso; omega)) <;> (try simp [hx, Vm.Ins.row]))
  | (refine V_run rfl ?_; simp [hx, Vm.Ins.row])
  | (refine CallP.f2 rfl (hnam) (by first | simp [hx, Vm.Ins.row] <;> rfl | fail) ?_; simp [hx, Vm.Ins.row])
  | fail)
 all_goals
  (refine Pst.of ?_; simp)
 all_goals grind
theorem cright_fun (l : Code) (hll : l.length ≤ 1000000) : Fun Tryz.prog 17 [.u (Vm.inss l)] (· = .u (.bool (rightC l))) := by
 have hl1 : ((l.length : Int) + 1).toNat = l.length + 1 := by omega
 simp only [Vm.inss]
 refine Fun.run Tryz.func17 Tryz.ntmps17 Tryz.results17 rfl (by simp) fun Γ hn => ?_; simp only [entry, List.zipIdx_cons, List.zipIdx_nil, List.map_cons, List.map_nil, Nat.zero_add]
 by_cases h0 : l.length = 0
 ·have h0' : l = [] := by simpa using h0
  subst h0'
  repeat' (first
  | (refine V_run rfl ?_; simp)
  | fail)
  (refine Pst.of ?_; simp)
  simp [rightC]
 have h0' : ¬ l = [] := by simpa using h0
 by_cases h2 : 2000 < l.length
 ·have h2' : (2000 : Int) < l.length := by omega
  repeat' (first
  | (refine V_run rfl ?_; simp [h0', h2, h2'])
  | fail)
  (refine Pst.of ?_; simp)
  unfold rightC
  rw [decide_eq_false (show ¬ l.length ≤ 2000 by omega)]
  simp
 have h2' : ¬ (2000 : Int) < l.length := by omega
 repeat' (first
  | (refine V_run rfl ?_; simp [h0', h2, h2', hl1])
  | (refine And.intro (by omega) ?_)
  | fail)
 refine V_loopO (α := { i : Nat // i ≤ l.length ∧ ∀ j x, j < i → l[j]? = some x → formI x j l.length = true }) [0, 3, 26] (fun i => [(27, .u (.int .i64 i.1))]) (fun i => [(0, .vec 3 1 (intR (hi1 l.length i.1)))]) 1 (fun i => l.length - i.1) ⟨0, by omega, by omega⟩ ?_ ?_
 ·exact (Wk.cut2 (by simp [hn, hi1_zero, intR_rep, under_intR] <;> grind))
 rintro ⟨i, hi, hf⟩
 simp
 rcases hx : l[i]? with _ | x
 ·have hge : l.length ≤ i := by simpa using hx
  obtain rfl : i = l.length := by omega
  have hfm : formsB l = true := forms_take fun j x hj => hf j x (List.getElem?_eq_some_iff.1 hj).1 hj
  repeat' (first
  | (refine V_run rfl ?_; simp [hx])
  | fail)
  refine V_loopO (α := HiAt l) [0, 3, 39, 40] (fun s => [(41, .u (.int .i64 s.i))]) (fun s => [(0, .vec 3 1 (intR s.hi))]) 1 (fun s => l.length - s.i) ⟨0, _, by omega, rfl, by simp, fun z hz => by
   rcases List.mem_cons.1 hz with rfl | hz
   ·omega
   ·rw [List.eq_of_mem_replicate hz]; omega⟩ ?_ ?_
  ·exact (Wk.cut2 (by simp [hn, hi1_all, under_intR] <;> grind))
  rintro ⟨i, hi, hle, go, len, lo⟩
  simp
  rcases hy : l[i]? with _ | y
  ·have hge : l.length ≤ i := by simpa using hy
   obtain rfl : i = l.length := by omega
   obtain ⟨w, hw⟩ : ∃ w, hi[l.length]? = some w := ⟨_, List.getElem?_eq_getElem (by omega)⟩
   have hR : rightC l = decide (w < 0) := by
    have : hi.getD l.length (-1) = w := by simp [List.getD, hw]
    unfold rightC
    rw [go, hfm, decide_eq_true (show 0 < l.length by omega), decide_eq_true (show l.length ≤ 2000 by omega)]
    simp only [this, Bool.true_and]
   rw [hR]
   repeat' (first
  | (refine V_run rfl ?_; simp [hy, intR_get, intR_len, hw])
  | (refine And.intro ?_ (by omega))
  | fail)
   (refine Pst.of ?_; simp)
  have hlt : i < l.length := (List.getElem?_eq_some_iff.1 hy).1
  have h5 := cneeds_fun y.op
  obtain ⟨v, hv⟩ : ∃ v, hi[i]? = some v := ⟨_, List.getElem?_eq_getElem (by omega)⟩
  have hvb := lo v (List.mem_of_getElem? hv)
  have hst := rgo_step go hy hv
  obtain ⟨n1, n2⟩ := needI_le y.op
  obtain ⟨m1, m2⟩ := leavesI_le y.op
  by_cases hv0 : v < 0
  ·rw [if_pos hv0] at hst
   repeat' (first
  | (refine Cnd.of (fun hc => ?_) (fun hc => ?_) <;> (try (exfalso; omega)) <;> (try simp [hy, intR_get, intR_len, hv, hv0]))
  | (refine V_run rfl ?_; simp [hy, intR_get, intR_len, hv, hv0])
  | (refine And.intro (by omega) ?_)
  | (refine And.intro ?_ (by omega))
  | (refine CallP.f2 rfl (h5) (by first | simp [hy, intR_get, intR_len, hv, hv0] <;> rfl | fail) ?_; simp [hy, intR_get, intR_len, hv, hv0])
  | fail)
   refine LoopW.next ⟨i + 1, hi, by omega, hst, len, fun z hz => by have := lo z hz; omega⟩ (by simp; omega) ?_
   exact (Wk.cut2 (by simp [hn, under_intR] <;> grind))
  rw [if_neg hv0] at hst
  by_cases hbad : v < needI y.op ∨ (y.op = 14 ∧ v ≠ 1)
  ·rw [if_pos hbad] at hst
   rw [right_none hst hlt]
   rcases hbad with hb1 | ⟨hb1, hb2⟩
   ·repeat' (first
  | (refine Cnd.of (fun hc => ?_) (fun hc => ?_) <;> (try (exfalso; omega)) <;> (try simp [hy, intR_get, intR_len, hv, hv0, hb1]))
  | (refine V_run rfl ?_; simp [hy, intR_get, intR_len, hv, hv0, hb1])
  | (refine And.intro (by omega) ?_)
  | (refine And.intro ?_ (by omega))
  | (refine CallP.f2 rfl (h5) (by first | simp [hy, intR_get, intR_len, hv, hv0, hb1] <;> rfl | fail) ?_; simp [hy, intR_get, intR_len, hv, hv0, hb1])
  | fail)
    (refine Pst.of ?_; simp)
   ·repeat' (first
  | (refine Cnd.of (fun hc => ?_) (fun hc => ?_) <;> (try (exfalso; omega)) <;> (try simp [hy, intR_get, intR_len, hv, hv0, hb2, ((propext (iff_true_intro hb1)) : (y.op = 14) = True)]))
  | (refine V_run rfl ?_; simp [hy, intR_get, intR_len, hv, hv0, hb2, ((propext (iff_true_intro hb1)) : (y.op = 14) = True)])
  | (refine And.intro (by omega) ?_)
  | (refine And.intro ?_ (by omega))
  | (refine CallP.f2 rfl (h5) (by first | simp [hy, intR_get, intR_len, hv, hv0, hb2, ((propext (iff_true_intro hb1)) : (y.op = 14) = True)] <;> rfl | fail) ?_; simp [hy, intR_get, intR_len, hv, hv0, hb2, ((propext (iff_true_intro hb1)) : (y.op = 14) = True)])
  | fail)
    all_goals
     (refine Pst.of ?_; simp)
  rw [if_neg hbad] at hst
  have hb1 : ¬ v < needI y.op := fun h => hbad (.inl h)
  by_cases h14 : y.op = 14
  ·have hv1 : v = 1 := Classical.byContradiction fun h => hbad (.inr ⟨h14, h⟩)
   have hn14 : nextI y i = [] := by simp [nextI, h14]
   rw [hn14] at hst
   simp only [setsH] at hst
   subst hv1
   repeat' (first
  | (refine Cnd.of (fun hc => ?_) (fun hc => ?_) <;> (try (exfalso; omega)) <;> (try simp [hy, intR_get, intR_len, hv, hb1, ((propext (iff_true_intro h14)) : (y.op = 14) = True)]))
  | (refine V_once ?_)
  | (refine V_run rfl ?_; simp [hy, intR_get, intR_len, hv, hb1, ((propext (iff_true_intro h14)) : (y.op = 14) = True)])
  | (refine And.intro (by omega) ?_)
  | (refine And.intro ?_ (by omega))
  | (refine CallP.f2 rfl (h5) (by first | simp [hy, intR_get, intR_len, hv, hb1, ((propext (iff_true_intro h14)) : (y.op = 14) = True)] <;> rfl | fail) ?_; simp [hy, intR_get, intR_len, hv, hb1, ((propext (iff_true_intro h14)) : (y.op = 14) = True)])
  | fail)
   refine LoopW.next ⟨i + 1, hi, by omega, hst, len, fun z hz => by have := lo z hz; omega⟩ (by simp; omega) ?_
   exact (Wk.cut2 (by simp [hn, under_intR] <;> grind))
  have hfo := forms_at hfm hy
  obtain ⟨ks, hks, hcase⟩ : ∃ ks : List Nat, nextI y i = ks ∧ (((y.op = 12) = True ∧ ((12 : Int) = 13) = False ∧ ks = [y.a.toNat] ∧ ((y.a.toNat : Nat) : Int) = y.a) ∨ ((y.op = 12) = False ∧ (y.op = 13) = True ∧ ks = [i + 1, y.a.toNat] ∧ ((y.a.toNat : Nat) : Int) = y.a) ∨
    ((y.op = 12) = False ∧ (y.op = 13) = False ∧ ks = [i + 1] ∧ ((i + 1 : Nat) : Int) = i + 1)) := by
   refine ⟨_, rfl, ?_⟩
   unfold nextI
   unfold formI at hfo
   by_cases h12 : y.op = 12
   ·simp [h12] at hfo ⊢; omega
   by_cases h13 : y.op = 13
   ·simp [h13] at hfo ⊢; omega
   ·simp [h12, h13, h14]
  rw [hks] at hst
  have hk1 : ∀ k ∈ ks, i < k ∧ k ≤ l.length := hks ▸ next_in hfm hy
  have hvi : v ≤ i := hvb.2
  rcases hcase with ⟨hA, hB, hE, hat⟩ | ⟨hA, hB, hE, hat⟩ | ⟨hA, hB, hE, hat⟩
  all_goals
   have hL := congrArg List.length hE
   simp at hL
   repeat' (first
  | (refine Cnd.of (fun hc => ?_) (fun hc => ?_) <;> (try (exfalso; omega)) <;> (try simp [hy, intR_get, intR_len, hv, hv0, hb1, (eq_false h14 : (y.op = 14) = False), hA, hB]))
  | (refine V_run rfl ?_; simp [hy, intR_get, intR_len, hv, hv0, hb1, (eq_false h14 : (y.op = 14) = False), hA, hB])
  | (refine And.intro (by omega) ?_)
  | (refine And.intro ?_ (by omega))
  | (refine CallP.f2 rfl (h5) (by first | simp [hy, intR_get, intR_len, hv, hv0, hb1, (eq_false h14 : (y.op = 14) = False), hA, hB] <;> rfl | fail) ?_; simp [hy, intR_get, intR_len, hv, hv0, hb1, (eq_false h14 : (y.op = 14) = False), hA, hB])
  | fail)
   refine V_loopO (α := NxAt ks (v - needI y.op + leavesI y.op) hi i) [0, 3, 5, 7, 8, 39, 40, 41, 96, 97] (fun s => [(98, .u (.int .i64 s.j))])
    (fun s => [(0, .vec 3 1 (intR s.hj)), (2, .vec 3 1 (intR (ks.map fun k : Nat => (k : Int))))]) 3 (fun s => ks.length - s.j) ⟨0, hi, by omega, by simp, rfl, rfl, fun z hz => by have := lo z hz; omega⟩ ?_ ?_
   ·exact (Wk.cut2 (by simp [hn, hE, intR, hat] <;> grind))
   rintro ⟨j, hj, hjle, hgo, hlen, hat2, hjlo⟩
   simp
   have hvj : hj[i]? = some v := hat2.trans hv
   rcases hz : ks[j]? with _ | k
   ·have hge : ks.length ≤ j := by simpa using hz
    rw [hgo, List.drop_of_length_le hge] at hst
    simp only [setsH] at hst
    repeat' (first
  | (refine Cnd.of (fun hc => ?_) (fun hc => ?_) <;> (try (exfalso; omega)) <;> (try simp [hz, intR_get, intR_len]))
  | (refine V_run rfl ?_; simp [hz, intR_get, intR_len])
  | (refine And.intro (by omega) ?_)
  | fail)
    refine LoopW.next ⟨i + 1, hj, by omega, hst, by omega, fun z hz => by have := hjlo z hz; omega⟩ (by simp; omega) ?_
    exact (Wk.cut2 (by simp [hn, under_intR] <;> grind))
   ·have hjl := (List.getElem?_eq_some_iff.1 hz).1
    obtain ⟨k1, k2⟩ := hk1 k (List.mem_of_getElem? hz)
    obtain ⟨w, hw⟩ : ∃ w, hj[k]? = some w := ⟨_, List.getElem?_eq_getElem (by omega)⟩
    have hwb := hjlo w (List.mem_of_getElem? hw)
    have hsH : setH hj k (v - needI y.op + leavesI y.op) = if 0 ≤ w ∧ w ≠ v - needI y.op + leavesI y.op then none else some (hj.set k (v - needI y.op + leavesI y.op)) := by
     unfold setH
     simp [List.getD, hw]
    rw [setsH_drop hz, hsH] at hgo
    by_cases hbd : 0 ≤ w ∧ w ≠ v - needI y.op + leavesI y.op
    ·rw [if_pos hbd] at hgo
     rw [hgo] at hst
     rw [right_none hst hlt]
     obtain ⟨hbd1, hbd2⟩ := hbd
     repeat' (first
  | (refine Cnd.of (fun hc => ?_) (fun hc => ?_) <;> (try (exfalso; omega)) <;> (try simp [hz, intR_get, intR_len, hvj, hw, hbd1, hbd2]))
  | (refine V_run rfl ?_; simp [hz, intR_get, intR_len, hvj, hw, hbd1, hbd2])
  | (refine And.intro (by omega) ?_)
  | (refine And.intro ?_ (by omega))
  | fail)
     (refine Pst.of ?_; simp)
    ·rw [if_neg hbd] at hgo
     repeat' (first
  | (refine Cnd.of (fun hc => ?_) (fun hc => ?_) <;> (try (exfalso; omega)) <;> (try simp [hz, intR_get, intR_len, hvj, hw, intR_set]))
  | (refine V_run rfl ?_; simp [hz, intR_get, intR_len, hvj, hw, intR_set])
  | (refine And.intro (by omega) ?_)
  | (refine And.intro ?_ (by omega))
  | fail)
     all_goals
      refine LoopW.next ⟨j + 1, hj.set k (v - needI y.op + leavesI y.op), by omega, hgo, by simp [hlen], by rw [List.getElem?_set_ne (by omega)]; exact hat2, fun z hz => ?_⟩ (by simp; omega) ?_
      ·rcases List.mem_or_eq_of_mem_set hz with hz | hz
       ·exact hjlo z hz
       ·omega
      exact (Wk.cut2 (by simp [hn, under_intR] <;> grind))
 ·have hlt : i < l.length := (List.getElem?_eq_some_iff.1 hx).1
  have h4 := formed_fun l i x hx (by omega)
  have ht : ((i : Int) + 1).toNat = i + 1 := by omega
  simp only [Vm.inss] at h4
  by_cases hfx : formI x i l.length = true
  ·rw [hfx] at h4
   repeat' (first
  | (refine V_run rfl ?_; simp [hlt, ht, intR_getE, intR_len, intR_set, hi1_len hi, hi1_set hlt])
  | (refine And.intro (by omega) ?_)
  | (refine CallP.f2 rfl (h4) (by first | simp [hlt, ht, intR_getE, intR_len, intR_set, hi1_len hi, hi1_set hlt] <;> rfl | fail) ?_; simp [hlt, ht, intR_getE, intR_len, intR_set, hi1_len hi, hi1_set hlt])
  | fail)
   refine LoopW.next ⟨i + 1, by omega, fun j y hj hy => ?_⟩ (by simp; omega) ?_
   ·rcases Nat.lt_succ_iff_lt_or_eq.1 hj with h1 | h1
    ·exact hf j y h1 hy
    ·subst h1; rw [hx] at hy; cases hy; exact hfx
   exact (Wk.cut2 (by simp [hn, under_intR] <;> grind))
  ·rw [Bool.not_eq_true] at hfx
   rw [hfx] at h4
   repeat' (first
  | (refine V_run rfl ?_; simp [hlt])
  | (refine CallP.f2 rfl (h4) (by first | simp [hlt] <;> rfl | fail) ?_; simp [hlt])
  | fail)
   (refine Pst.of ?_; simp)
   have : formsB l = false := by
    rw [← Bool.not_eq_true]
    intro h
    rw [forms_at h hx] at hfx
    cases hfx
   simp [rightC, this]
abbrev oagg (o : Opr) : D := .u (.agg [.str o.text, .int .i64 o.op, .int .i64 o.form])
abbrev oprsU (l : List Opr) : U := .sl (l.map fun o => [.str o.text, .int .i64 o.op, .int .i64 o.form])
theorem operators_fun : Fun Tryz.prog 141 [] (· = .u (oprsU oprs)) := by
 unfold oprsU oprs
 refine Fun.runW Tryz.func141 Tryz.ntmps141 rfl (by simp) fun Γ hn => ?_
 repeat' (first
  | (refine V_run rfl ?_; simp [zcells, chunks])
  | fail)
 (refine EndW.frzN 1 ?_; simp [del])
 refine EndW.here ?_
 (refine EndOK.val (.inr rfl) ?_; simp [Tryz.results141])
theorem expC_fun (l : List Tok) (q : Nat) (o : Opr) (hq : q < l.length) (hl : l.length ≤ 1000000) : Fun Tryz.prog 142 (oagg o :: [U.row [pRow l q] 0].map .u) (· = .u (.bool (isB l q o.text))) := by
 have h1 := is_fun l q o.text hq hl
 simp only [List.map_cons, List.map_nil, oagg]
 refine Fun.run Tryz.func142 Tryz.ntmps142 Tryz.results142 rfl (by simp) fun Γ hn => ?_
 repeat' (first
  | (refine V_run rfl ?_; simp)
  | (refine CallP.f2 rfl (h1) (by first | simp <;> rfl | fail) ?_; simp)
  | fail)
 (refine Pst.of ?_; simp)
theorem indexO_fun (l : List (Opr)) (f : FuncId) (caps : List U) (p : Opr → Bool) (hf : ∀ n ∈ l, Fun Tryz.prog f (oagg n :: caps.map .u) (· = .u (.bool (p n)))) (hcl : callable Tryz.prog f = true)
  (hca : ∀ o, argsW o (caps.map .u) = some (caps.map .u, [])) : Fun Tryz.prog 140 [.u (oprsU l), .fnc (.func f) (caps.map .u)] (· = .u (.int .i64 (idxP p l 0))) := by
 refine Fun.run Tryz.func140 Tryz.ntmps140 Tryz.results140 rfl (by simp) fun Γ hn => ?_; simp only [entry, List.zipIdx_cons, List.zipIdx_nil, List.map_cons, List.map_nil, Nat.zero_add]
 simp only [oprsU]
 refine V_len (x := 0) rfl fun hl => ?_
 simp at hl
 repeat' (first
  | (refine V_run rfl ?_; simp)
  | fail)
 refine V_loopF (α := { i : Nat // i ≤ l.length ∧ ∀ c ∈ l.take i, p c = false }) [0, 1, 7] (fun i => [(8, .u (.int .i64 i.1))]) (fun i => l.length - i.1) ⟨0, by omega, by simp⟩ ?_ ?_
 ·exact (Wk.env rfl rfl rfl (by simp [wkE, St.lp, keepE, getK_cons, getK] <;> (try (intros; simp_all; done)) <;> (try (intros; omega)) <;> (try grind)))
 rintro ⟨i, hi, hb⟩
 simp
 rcases hx : l[i]? with _ | n
 ·have hge : l.length ≤ i := by simpa using hx
  repeat' (first
  | (refine Cnd.of (fun hc => ?_) (fun hc => ?_) <;> (try (exfalso; omega)) <;> (try simp [hx]))
  | (refine V_run rfl ?_; simp [hx])
  | fail)
  (refine Pst.of ?_; simp)
  rw [List.take_of_length_le hge] at hb
  exact (idxP_none hb).symm
 ·have hlt : i < l.length := (List.getElem?_eq_some_iff.1 hx).1
  have h1 := hf n (List.mem_of_getElem? hx)
  simp only [oagg] at h1
  cases hp : p n
  ·rw [hp] at h1
   repeat' (first
  | (refine Cnd.of (fun hc => ?_) (fun hc => ?_) <;> (try (exfalso; omega)) <;> (try simp [hx, hca]))
  | (refine V_run rfl ?_; simp [hx, hca])
  | (refine And.intro (by omega) ?_)
  | (refine CallP.f2 rfl (h1) (by first | simp [hx, hca] <;> rfl | fail) ?_; simp [hx, hca])
  | fail)
   refine LoopW.next ⟨i + 1, by omega, take_succ_all hx hb hp⟩ (by simp; omega) ?_
   exact (Wk.env rfl rfl rfl (by simp [wkE, St.lp, keepE, getK_cons, getK] <;> (try (intros; simp_all; done)) <;> (try (intros; omega)) <;> (try grind)))
  ·rw [hp] at h1
   repeat' (first
  | (refine Cnd.of (fun hc => ?_) (fun hc => ?_) <;> (try (exfalso; omega)) <;> (try simp [hx, hca]))
  | (refine V_run rfl ?_; simp [hx, hca])
  | (refine And.intro (by omega) ?_)
  | (refine CallP.f2 rfl (h1) (by first | simp [hx, hca] <;> rfl | fail) ?_; simp [hx, hca])
  | fail)
   (refine Pst.of ?_; simp)
   rw [idxP_at hb hx hp]
   omega
theorem idxP_find {p : Opr → Bool} : ∀ (L : List Opr) (k : Int), (L.find? p = none → idxP p L k = -1) ∧ ∀ x, L.find? p = some x → ∃ j : Nat, L[j]? = some x ∧ idxP p L k = k + j
 | [], k => ⟨fun _ => rfl, fun x h => by simp at h⟩
 | a :: L, k => by
  by_cases h : p a = true
  ·refine ⟨fun h1 => by simp [h] at h1, fun x h1 => ?_⟩
   rw [List.find?_cons, h] at h1
   cases h1
   exact ⟨0, rfl, by rw [idxP, if_pos h]; simp⟩
  ·have h' : p a = false := by simpa using h
   obtain ⟨h1, h2⟩ := idxP_find L (k + 1)
   refine ⟨fun h3 => ?_, fun x h3 => ?_⟩
   ·rw [List.find?_cons, h'] at h3
    rw [idxP, if_neg h]
    exact h1 h3
   ·rw [List.find?_cons, h'] at h3
    obtain ⟨j, h4, h5⟩ := h2 x h3
    exact ⟨j + 1, h4, by rw [idxP, if_neg h, h5]; omega⟩
theorem indexO_ret (l : List Tok) (q : Nat) (hq : q < l.length) (hl : l.length ≤ 1000000) : Fun Tryz.prog 140 [.u (oprsU oprs), .fnc (.func 142) [.u (.row [pRow l q] 0)]]
  (· = .u (.int .i64 (idxP (fun o => isB l q o.text) oprs 0))) :=
 indexO_fun oprs 142 [U.row [pRow l q] 0] (fun o => isB l q o.text) (fun o _ => expC_fun l q o hq hl) rfl (fun o => rfl)
end Go.Proofs.YtkdhmbhbbciedaaGreatDoor
namespace Go.Proofs.YtkdhmbhbbciedaaGreatDoor
open Go Go.VL
attribute [local simp] HS exS_some hcons hstep evPure opd uOf putOK St.put St.at getK binD binI binS binB nilD aggD eqUs cmpK lookD lookR rangeD rangeS Go.VL.nextD Go.VL.nextS entryD keyD valU keyU lookK mkV entD_nil allUE makeMapD mapUpdD mapEff updK valM Key.kk shiftI arith unD convD pickD loadD cellsAt fieldAddrD fieldD indexAddrD indexSlD arrAddr indexD sliceD cutD lenD minmaxD nilCheckD buildD fillD cellsD isOne ones setAll mkAgg allU allocD boxD storeD St.add buildSliceD appendD rowsOf makeD setOb getK_setOb getK_del getK_cons stripL strip guardTmp entry chunks zcells valD argsV argsW argW argU1 argU0 argsU0 argsU1 calleeOf scalarD scalarU delAll effD St.effS RK_seq RK_seq_ret RK_seq_exit RK_blk RK_blk_ret RK_blk_exit RK_loop RK_loop_ret RK_loop_exit RK_done vs_seq vs_block vs_cond vs_region vs_loop applyW mkD rdIds lentIds callOf calleeOf freeOp D.ids Op.operands Call.operands isEffOp makeIfD makeFuncD typeAssertD conc concs conc1 uOfV panicD IntKind.bits allU2 List.take_of_length_le List.range_succ HR_nil HR_cons HR_grd v2_seq v2_block v2_skip v2_exit v2_ret v2_cond v2_region v2_draw v2_loop RN_0 RN_done RN_seq RN_seq_ret RN_seq_exit RN_blk RN_blk_ret RN_blk_exit RN_loop RN_loop_ret RN_loop_exit Cnd_tf Cnd_ft EndV getK_append frzN frz1 frz_env frz_obs St.frz St.frzS frzS fv fzVec fzMap fzBox frzObS frz_entD frz_rowsD frz frzOb normD normU norm1 normOb St.norm St.lp St.only keepE wkE wkO wkU Ob.under D.under under_rowsD under_entD H4_nil H4_cons H4_grd h4s resD oneOrTup pureD List.zipIdx_cons List.zipIdx_nil List.map_cons List.map_nil Nat.zero_add
attribute [local irreducible] V G H HD HD2 HD4 HD4h RetX RunK Eff CallP CallV EndOK Fun Ret FinOK LoopI LoopW EndW HR vs2 RN Cnd H4
theorem exp_over (lets : List Let) (shs : List Bool) (m n : Nat) (e : Exp) (c : Code) (q nx : Nat) (hm : m < nx) (hq : q < nx) (hmq : m ≠ q) (hl : 2000 < c.length) : RetX Tryz.prog 36 [.ptr m 0, .u (.int .i64 n), eagg e] [(m, cOb lets shs q c), (q, kOb c)] nx
  fun r o n' => r = .val (.tup []) ∧ o = [(m, cOb lets shs nx c), (nx, kOb c)] ∧ n' = nx + 1 := by
 have hne := nef hm
 have hne2 := nef hq
 have hm1 : m < nx + 1 := by omega
 have hp := pure_insR c
 simp only [eagg]
 refine RetX.runW Tryz.func36 Tryz.ntmps36 rfl (by simp) fun Γ hn hpan => ?_
 repeat' (first
  | (refine Cnd.of (fun hc => ?_) (fun hc => ?_) <;> (try (exfalso; omega)) <;> (try simp [hne, hne2, hmq, Ne.symm hmq, Nat.add_assoc, del, hl, cOb]))
  | (refine V_run rfl ?_; simp [hne, hne2, hmq, Ne.symm hmq, Nat.add_assoc, del, hl, cOb])
  | fail)
 refine EndW.wk { n := _, env := [], obs := [(m, cOb lets shs nx c), (nx, kOb c)], next := nx + 1 } (Wk.ren ((fun i => if i = nx then q else i)) rfl (by first | (simp [hn]; done) | (intro i hi; rw [hn] at hi; constructor <;> (try simp) <;> (try (intro _)) <;> omega)) (by simp [wkER, St.lp, keepE, getK_cons, getK, getK_del, getK_setOb, D.under, D.le, D.ren, hne, hne2, hmq, Ne.symm hmq, hm1, hp, cOb, kOb, letsU] <;> (try (intros; simp_all; done)) <;> (try omega)) (by simp [wkR, St.lp, getK_cons, getK, getK_del, getK_setOb, obR, leU, pureRow, pureRows, Ob.under, D.under, D.le, D.ren, hne, hne2, hmq, Ne.symm hmq, hm1, hp, cOb, kOb, letsU] <;> (try (intros; simp_all; done)) <;> (try omega)) (by simp [hne, hne2, hmq, Ne.symm hmq, hm1, hp, cOb, kOb, letsU])) ?_
 (refine EndW.h Tryz.results36 ?_; simp)
theorem exp_num {lets shs m n e} (h0 : e.op = 0) : ExpX lets shs m n e (fun c => if 2000 < c.length then c else putC c ⟨0, e.n, []⟩) := by
 intro c q nx hm hq hmq hl
 have hne := nef hm
 have hne2 := nef hq
 have hm1 : m < nx + 1 := by omega
 simp only
 by_cases hg : 2000 < c.length
 ·rw [if_pos hg]; exact exp_over lets shs m n e c q nx hm hq hmq hg
 rw [if_neg hg]
 have hp := pure_insR (putC c ⟨0, e.n, []⟩)
 have a1 := put_x lets shs c ⟨0, e.n, []⟩ m q (nx + 1) (by omega) (by omega) hmq (by omega)
 generalize putC c ⟨0, e.n, []⟩ = c1 at *
 simp only [eagg]
 refine RetX.runW Tryz.func36 Tryz.ntmps36 rfl (by simp) fun Γ hn hpan => ?_
 repeat' (first
  | (refine Cnd.of (fun hc => ?_) (fun hc => ?_) <;> (try (exfalso; omega)) <;> (try simp [hne, hne2, hmq, Ne.symm hmq, Nat.add_assoc, del, hg, h0, cOb]))
  | (refine V_run rfl ?_; simp [hne, hne2, hmq, Ne.symm hmq, Nat.add_assoc, del, hg, h0, cOb])
  | (refine CallP.okL (a1) (by first | (simp [hne, hne2, hmq, Ne.symm hmq, Nat.add_assoc, del, hg, h0, cOb, getK_cons, getK, getK_append, getK_del, getK_setOb, applyW, del]; done) | fail) (by rfl) (by first | assumption | (simp; done) | fail) (by rfl) (by simp) ?_; (try simp [hne, hne2, hmq, Ne.symm hmq, Nat.add_assoc, del, hg, h0, cOb, delL, del]))
  | fail)
 refine EndW.wk { n := _, env := [], obs := [(m, cOb lets shs nx c1), (nx, kOb c1)], next := nx + 1 } (Wk.ren ((fun i => if i = nx then nx + 1 else i)) rfl (by first | (simp [hn]; done) | (intro i hi; rw [hn] at hi; constructor <;> (try simp) <;> (try (intro _)) <;> omega)) (by simp [wkER, St.lp, keepE, getK_cons, getK, getK_del, getK_setOb, D.under, D.le, D.ren, hne, hne2, hmq, Ne.symm hmq, hm1, hp, cOb, kOb, letsU] <;> (try (intros; simp_all; done)) <;> (try omega)) (by simp [wkR, St.lp, getK_cons, getK, getK_del, getK_setOb, obR, leU, pureRow, pureRows, Ob.under, D.under, D.le, D.ren, hne, hne2, hmq, Ne.symm hmq, hm1, hp, cOb, kOb, letsU] <;> (try (intros; simp_all; done)) <;> (try omega)) (by simp [hne, hne2, hmq, Ne.symm hmq, hm1, hp, cOb, kOb, letsU])) ?_
 (refine EndW.h Tryz.results36 ?_; simp)
theorem exp_name (lets : List Let) (shs : List Bool) (m n : Nat) (e : Exp) (h0 : e.op = 1) (hn' : n ≤ lets.length) (hn2 : n ≤ 1000) (hB : ∀ i l, i < n → lets[i]? = some l → ∃ F, ExpX lets shs m i l.body F ∧ F = genT (nmC lets (shF lets) i) (shF lets i) l.body) :
  ExpX lets shs m n e (fun c => if 2000 < c.length then c else nmC lets (shF lets) n e.s c) := by
 intro c q nx hm hq hmq hl
 have hne := nef hm
 have hne2 := nef hq
 have hm1 : m < nx + 1 := by omega
 simp only
 by_cases hg : 2000 < c.length
 ·rw [if_pos hg]; exact exp_over lets shs m n e c q nx hm hq hmq hg
 rw [if_neg hg]
 have hlet := clet_fun lets (boolsU shs) (Vm.inss c) n e.s hn' hn2
 have e1 := allU2_insR c
 have e2 := insR_take c
 have e3 := insR_len c
 rw [nmC_last e.s hn']
 cases hi : lastI lets n e.s with
 | none =>
  simp only
  rw [hi] at hlet
  have hp := pure_insR (putC c ⟨1, 0, e.s⟩)
  have a1 := put_x lets shs c ⟨1, 0, e.s⟩ m q (nx + 1) (by omega) (by omega) hmq (by omega)
  generalize putC c ⟨1, 0, e.s⟩ = c1 at *
  simp only [ixO, boolsU, letsU, Vm.inss] at hlet a1 ⊢
  simp only [eagg]
  refine RetX.runW Tryz.func36 Tryz.ntmps36 rfl (by simp) fun Γ hn hpan => ?_
  repeat' (first
  | (refine Cnd.of (fun hc => ?_) (fun hc => ?_) <;> (try (exfalso; omega)) <;> (try simp [hne, hne2, hmq, Ne.symm hmq, Nat.add_assoc, del, hg, h0, cOb, kOb, boolsU, letsU, e1, e2, e3]))
  | (refine V_run rfl ?_; simp [hne, hne2, hmq, Ne.symm hmq, Nat.add_assoc, del, hg, h0, cOb, kOb, boolsU, letsU, e1, e2, e3])
  | (refine CallP.f2 rfl (hlet) (by first | simp [hne, hne2, hmq, Ne.symm hmq, Nat.add_assoc, del, hg, h0, cOb, kOb, boolsU, letsU, e1, e2, e3] <;> rfl | fail) ?_; simp [hne, hne2, hmq, Ne.symm hmq, Nat.add_assoc, del, hg, h0, cOb, kOb, boolsU, letsU, e1, e2, e3])
  | (refine CallP.okL (a1) (by first | (simp [hne, hne2, hmq, Ne.symm hmq, Nat.add_assoc, del, hg, h0, cOb, kOb, boolsU, letsU, e1, e2, e3, getK_cons, getK, getK_append, getK_del, getK_setOb, applyW, del]; done) | fail) (by rfl) (by first | assumption | (simp; done) | fail) (by rfl) (by simp) ?_; (try simp [hne, hne2, hmq, Ne.symm hmq, Nat.add_assoc, del, hg, h0, cOb, kOb, boolsU, letsU, e1, e2, e3, delL, del]))
  | fail)
  refine EndW.wk { n := _, env := [], obs := [(m, cOb lets shs nx c1), (nx, kOb c1)], next := nx + 1 } (Wk.ren ((fun i => if i = nx then nx + 1 else i)) rfl (by first | (simp [hn]; done) | (intro i hi; rw [hn] at hi; constructor <;> (try simp) <;> (try (intro _)) <;> omega)) (by simp [wkER, St.lp, keepE, getK_cons, getK, getK_del, getK_setOb, D.under, D.le, D.ren, hne, hne2, hmq, Ne.symm hmq, hm1, hp, cOb, kOb, letsU, boolsU] <;> (try (intros; simp_all; done)) <;> (try omega)) (by simp [wkR, St.lp, getK_cons, getK, getK_del, getK_setOb, obR, leU, pureRow, pureRows, Ob.under, D.under, D.le, D.ren, hne, hne2, hmq, Ne.symm hmq, hm1, hp, cOb, kOb, letsU, boolsU] <;> (try (intros; simp_all; done)) <;> (try omega)) (by simp [hne, hne2, hmq, Ne.symm hmq, hm1, hp, cOb, kOb, letsU, boolsU])) ?_
  (refine EndW.h Tryz.results36 ?_; simp)
  all_goals simp [letsU, boolsU]
 | some i =>
  obtain ⟨w1, l, w2, w3⟩ := lastI_some hi
  obtain ⟨F, hF, hFe⟩ := hB i l w1 w2
  simp only [w2]
  rw [← hFe]
  rw [hi] at hlet
  have hp := pure_insR (F c)
  have a1 := hF c q (nx + 1) (by omega) (by omega) hmq (by omega)
  generalize F c = c1 at *
  have hi0 : ¬ (i : Int) < 0 := by omega
  have hil : i < lets.length := by omega
  simp only [ixO, boolsU, letsU, Vm.inss] at hlet
  simp only [eagg, letsU, boolsU] at a1 ⊢
  refine RetX.runW Tryz.func36 Tryz.ntmps36 rfl (by simp) fun Γ hn hpan => ?_
  repeat' (first
  | (refine Cnd.of (fun hc => ?_) (fun hc => ?_) <;> (try (exfalso; omega)) <;> (try simp [hne, hne2, hmq, Ne.symm hmq, Nat.add_assoc, del, hg, h0, cOb, kOb, boolsU, letsU, e1, e2, e3, w2, hi0]))
  | (refine V_run rfl ?_; simp [hne, hne2, hmq, Ne.symm hmq, Nat.add_assoc, del, hg, h0, cOb, kOb, boolsU, letsU, e1, e2, e3, w2, hi0])
  | (refine CallP.f2 rfl (hlet) (by first | simp [hne, hne2, hmq, Ne.symm hmq, Nat.add_assoc, del, hg, h0, cOb, kOb, boolsU, letsU, e1, e2, e3, w2, hi0] <;> rfl | fail) ?_; simp [hne, hne2, hmq, Ne.symm hmq, Nat.add_assoc, del, hg, h0, cOb, kOb, boolsU, letsU, e1, e2, e3, w2, hi0])
  | (refine CallP.okL (a1) (by first | (simp [hne, hne2, hmq, Ne.symm hmq, Nat.add_assoc, del, hg, h0, cOb, kOb, boolsU, letsU, e1, e2, e3, w2, hi0, getK_cons, getK, getK_append, getK_del, getK_setOb, applyW, del]; done) | fail) (by rfl) (by first | assumption | (simp; done) | fail) (by rfl) (by simp) ?_; (try simp [hne, hne2, hmq, Ne.symm hmq, Nat.add_assoc, del, hg, h0, cOb, kOb, boolsU, letsU, e1, e2, e3, w2, hi0, delL, del]))
  | fail)
  refine EndW.wk { n := _, env := [], obs := [(m, cOb lets shs nx c1), (nx, kOb c1)], next := nx + 1 } (Wk.ren ((fun i => if i = nx then nx + 1 else i)) rfl (by first | (simp [hn]; done) | (intro i hi; rw [hn] at hi; constructor <;> (try simp) <;> (try (intro _)) <;> omega)) (by simp [wkER, St.lp, keepE, getK_cons, getK, getK_del, getK_setOb, D.under, D.le, D.ren, hne, hne2, hmq, Ne.symm hmq, hm1, hp, cOb, kOb, letsU, boolsU] <;> (try (intros; simp_all; done)) <;> (try omega)) (by simp [wkR, St.lp, getK_cons, getK, getK_del, getK_setOb, obR, leU, pureRow, pureRows, Ob.under, D.under, D.le, D.ren, hne, hne2, hmq, Ne.symm hmq, hm1, hp, cOb, kOb, letsU, boolsU] <;> (try (intros; simp_all; done)) <;> (try omega)) (by simp [hne, hne2, hmq, Ne.symm hmq, hm1, hp, cOb, kOb, letsU, boolsU])) ?_
  (refine EndW.h Tryz.results36 ?_; simp)
  all_goals simp [letsU, boolsU]
theorem exp_choice {lets shs m n e F} (h0 : e.op = 10 ∨ e.op = 11 ∨ e.op = 13) (hF : ChoX lets shs m n e F) : ExpX lets shs m n e (fun c => if 2000 < c.length then c else F c) := by
 intro c q nx hm hq hmq hl
 have hne := nef hm
 have hne2 := nef hq
 have hm1 : m < nx + 1 := by omega
 simp only
 by_cases hg : 2000 < c.length
 ·rw [if_pos hg]; exact exp_over lets shs m n e c q nx hm hq hmq hg
 rw [if_neg hg]
 have hp := pure_insR (F c)
 have a1 := hF c q (nx + 1) (by omega) (by omega) hmq (by omega)
 generalize F c = c1 at *
 simp only [eagg] at a1 ⊢
 rcases h0 with h0 | h0 | h0
 all_goals
  rw [h0] at a1
  refine RetX.runW Tryz.func36 Tryz.ntmps36 rfl (by simp) fun Γ hn hpan => ?_
  repeat' (first
  | (refine Cnd.of (fun hc => ?_) (fun hc => ?_) <;> (try (exfalso; omega)) <;> (try simp [hne, hne2, hmq, Ne.symm hmq, Nat.add_assoc, del, hg, h0, cOb]))
  | (refine V_run rfl ?_; simp [hne, hne2, hmq, Ne.symm hmq, Nat.add_assoc, del, hg, h0, cOb])
  | (refine CallP.okL (a1) (by first | (simp [hne, hne2, hmq, Ne.symm hmq, Nat.add_assoc, del, hg, h0, cOb, getK_cons, getK, getK_append, getK_del, getK_setOb, applyW, del]; done) | fail) (by rfl) (by first | assumption | (simp; done) | fail) (by rfl) (by simp) ?_; (try simp [hne, hne2, hmq, Ne.symm hmq, Nat.add_assoc, del, hg, h0, cOb, delL, del]))
  | fail)
  refine EndW.wk { n := _, env := [], obs := [(m, cOb lets shs nx c1), (nx, kOb c1)], next := nx + 1 } (Wk.ren ((fun i => if i = nx then nx + 1 else i)) rfl (by first | (simp [hn]; done) | (intro i hi; rw [hn] at hi; constructor <;> (try simp) <;> (try (intro _)) <;> omega)) (by simp [wkER, St.lp, keepE, getK_cons, getK, getK_del, getK_setOb, D.under, D.le, D.ren, hne, hne2, hmq, Ne.symm hmq, hm1, hp, cOb, kOb, letsU] <;> (try (intros; simp_all; done)) <;> (try omega)) (by simp [wkR, St.lp, getK_cons, getK, getK_del, getK_setOb, obR, leU, pureRow, pureRows, Ob.under, D.under, D.le, D.ren, hne, hne2, hmq, Ne.symm hmq, hm1, hp, cOb, kOb, letsU] <;> (try (intros; simp_all; done)) <;> (try omega)) (by simp [hne, hne2, hmq, Ne.symm hmq, hm1, hp, cOb, kOb, letsU])) ?_
  (refine EndW.h Tryz.results36 ?_; simp)
theorem genA_snoc {nm sh} {x : Exp} : ∀ {l : List Exp} {i : Nat} (c : Code), l[i]? = some x → genA nm sh (l.take (i + 1)) c = genT nm sh x (genA nm sh (l.take i) c)
 | [], _, _, h => by simp at h
 | a :: l, 0, c, h => by simp at h; subst h; simp [genA]
 | a :: l, i + 1, c, h => by
  rw [List.take_succ_cons, List.take_succ_cons, genA, genA]
  exact genA_snoc (l := l) _ (by simpa using h)
theorem exp_plain (lets : List Let) (m n d : Nat) (e : Exp) (ho : 2 ≤ e.op ∧ e.op ≤ 9 ∨ e.op = 12) (hn' : n ≤ lets.length) (hn2 : n ≤ 1000) (hr : ∀ l ∈ lets, rightB 12 l.body = true) (hll : lets.length ≤ 20) (he : rightB (d + 1) e = true) (hd : d ≤ 11)
  (hE : ∀ x ∈ e.args, ExpX lets (shsL lets lets.length) m n x (genT (nmC lets (shF lets) n) (shF lets n) x)) :
  ExpX lets (shsL lets lets.length) m n e (fun c => if 2000 < c.length then c else putC (genA (nmC lets (shF lets) n) (shF lets n) e.args c) ⟨plainOp (shF lets n) e.op e.args, 0, []⟩) := by
 intro c q nx hm hq hmq hl
 have hne := nef hm
 have hne2 := nef hq
 have hm1 : m < nx + 1 := by omega
 simp only
 by_cases hg : 2000 < c.length
 ·rw [if_pos hg]; exact exp_over lets _ m n e c q nx hm hq hmq hg
 rw [if_neg hg]
 have hlen3 : e.args.length ≤ 3 := by
  have h1 := (right_args he).1
  unfold operandsI at h1
  repeat' split at h1
  all_goals omega
 have hpl := fun z => plain_fun lets (shsL lets lets.length) z n hn' (by rw [shsL_len (Nat.le_refl _)]; exact hn') hn2 d e he ho
 rw [plainOp_eq hr hll hn' (Nat.le_refl _) he hd (by omega) (by omega)] at hpl
 have hcap : ∀ i, (genA (nmC lets (shF lets) n) (shF lets n) (e.args.take i) c).length ≤ 2001 := fun i => genA_cap (nmC_cap n) _ c hl
 have hall : genA (nmC lets (shF lets) n) (shF lets n) (e.args.take e.args.length) c = genA (nmC lets (shF lets) n) (shF lets n) e.args c := by rw [List.take_length]
 have hz : genA (nmC lets (shF lets) n) (shF lets n) (e.args.take 0) c = c := by rw [List.take_zero, genA]
 have hsn : ∀ i x, e.args[i]? = some x → genA (nmC lets (shF lets) n) (shF lets n) (e.args.take (i + 1)) c = genT (nmC lets (shF lets) n) (shF lets n) x (genA (nmC lets (shF lets) n) (shF lets n) (e.args.take i) c) := fun i x h => genA_snoc c h
 rw [← hall]
 generalize plainOp (shF lets n) e.op e.args = po at *
 generalize hCi : (fun i => genA (nmC lets (shF lets) n) (shF lets n) (e.args.take i) c) = Ci at *
 have hCi' : ∀ i, genA (nmC lets (shF lets) n) (shF lets n) (e.args.take i) c = Ci i := fun i => by rw [← hCi]
 simp only [hCi'] at hcap hsn hz ⊢
 generalize shsL lets lets.length = shs at *
 have hp := pure_insR (putC (Ci e.args.length) ⟨po, 0, []⟩)
 have hmb : m < nx + 1 + 1 := by omega
 have hop0 : ¬ e.op = 0 ∧ ¬ e.op = 1 ∧ ¬ e.op = 10 ∧ ¬ e.op = 11 ∧ ¬ e.op = 13 := by omega
 obtain ⟨o1, o2, o3, o4, o5⟩ := hop0
 simp only [eagg, letsU, boolsU] at hpl ⊢
 refine RetX.runW Tryz.func36 Tryz.ntmps36 rfl (by simp) fun Γ hn hpan => ?_
 repeat' (first
  | (refine Cnd.of (fun hc => ?_) (fun hc => ?_) <;> (try (exfalso; omega)) <;> (try simp [hne, hne2, hmq, Ne.symm hmq, Nat.add_assoc, del, hg, cOb, o1, o2, o3, o4, o5]))
  | (refine V_run rfl ?_; simp [hne, hne2, hmq, Ne.symm hmq, Nat.add_assoc, del, hg, cOb, o1, o2, o3, o4, o5])
  | fail)
 refine V_loopO (α := { i : Nat // i ≤ e.args.length }) [0, 1, 5, 18, 19] (fun i => [(20, .u (.int .i64 i.1))])
  (fun i => [(nx, .box [.u (.int .i64 e.op), .u (.int .i64 e.n), .u (.int .i64 e.unit), .u (.str e.s), .u (.sl (e.args.map Exp.row))]), (m, cOb lets shs (nx + 1) (Ci i.1)), (nx + 1, kOb (Ci i.1))]) (nx + 2) (fun i => e.args.length - i.1) ⟨0, by omega⟩ ?_ ?_
 ·have hp0 := pure_insR (Ci 0)
  rw [hz] at hp0
  simp only [hz]
  exact (Wk.ren ((fun i => if i = nx + 1 then q else i)) rfl (by first | (simp [hn]; done) | (intro i hi; rw [hn] at hi; constructor <;> (try simp) <;> (try (intro _)) <;> omega)) (by simp [wkER, St.lp, keepE, getK_cons, getK, getK_del, getK_setOb, D.under, D.le, D.ren, hne, hne2, hmq, Ne.symm hmq, hmb, hp0, cOb, kOb, letsU, boolsU] <;> (try (intros; simp_all; done)) <;> (try omega)) (by simp [wkR, St.lp, getK_cons, getK, getK_del, getK_setOb, obR, leU, pureRow, pureRows, Ob.under, D.under, D.le, D.ren, hne, hne2, hmq, Ne.symm hmq, hmb, hp0, cOb, kOb, letsU, boolsU] <;> (try (intros; simp_all; done)) <;> (try omega)) (by simp [hne, hne2, hmq, Ne.symm hmq, hmb, hp0, cOb, kOb, letsU, boolsU]))
 rintro ⟨i, hi⟩
 simp
 by_cases hil : i < e.args.length
 ·have hx : e.args[i]? = some e.args[i] := List.getElem?_eq_getElem hil
  have hmem := List.mem_of_getElem? hx
  have hs1 := hsn i _ hx
  have a1 := hE _ hmem (Ci i) (nx + 1) (nx + 3) (by omega) (by omega) (by omega) (hcap i)
  rw [← hs1] at a1
  have hp1 := pure_insR (Ci (i + 1))
  generalize e.args[i] = x at *
  have hxr := x.row_eq
  simp only [eagg] at a1
  repeat' (first
  | (refine Cnd.of (fun hc => ?_) (fun hc => ?_) <;> (try (exfalso; omega)) <;> (try simp [hne, hne2, hmq, Ne.symm hmq, Nat.add_assoc, del, cOb, hx, hxr]))
  | (refine V_run rfl ?_; simp [hne, hne2, hmq, Ne.symm hmq, Nat.add_assoc, del, cOb, hx, hxr])
  | (refine And.intro (by omega) ?_)
  | (refine CallP.okL (a1) (by first | (simp [hne, hne2, hmq, Ne.symm hmq, Nat.add_assoc, del, cOb, hx, hxr, getK_cons, getK, getK_append, getK_del, getK_setOb, applyW, del]; done) | fail) (by rfl) (by first | assumption | (simp; done) | fail) (by rfl) (by simp) ?_; (try simp [hne, hne2, hmq, Ne.symm hmq, Nat.add_assoc, del, cOb, hx, hxr, delL, del]))
  | fail)
  refine LoopW.next ⟨i + 1, by omega⟩ (by simp; omega) ?_
  exact (Wk.ren ((fun i => if i = nx + 1 then nx + 3 else i)) rfl (by first | (simp [hn]; done) | (intro i hi; rw [hn] at hi; constructor <;> (try simp) <;> (try (intro _)) <;> omega)) (by simp [wkER, St.lp, keepE, getK_cons, getK, getK_del, getK_setOb, D.under, D.le, D.ren, hne, hne2, hmq, Ne.symm hmq, hmb, hp1, cOb, kOb, letsU, boolsU] <;> (try (intros; simp_all; done)) <;> (try omega)) (by simp [wkR, St.lp, getK_cons, getK, getK_del, getK_setOb, obR, leU, pureRow, pureRows, Ob.under, D.under, D.le, D.ren, hne, hne2, hmq, Ne.symm hmq, hmb, hp1, cOb, kOb, letsU, boolsU] <;> (try (intros; simp_all; done)) <;> (try omega)) (by simp [hne, hne2, hmq, Ne.symm hmq, hmb, hp1, cOb, kOb, letsU, boolsU]))
 obtain rfl : i = e.args.length := by omega
 have e1 := allU2_insR (Ci e.args.length)
 have e2 := insR_take (Ci e.args.length)
 have e3 := insR_len (Ci e.args.length)
 have h5 := hpl (Vm.inss (Ci e.args.length))
 have a2 := put_x lets shs (Ci e.args.length) ⟨po, 0, []⟩ m (nx + 1) (nx + 2) (by omega) (by omega) (by omega) (by have := hcap e.args.length; omega)
 generalize putC (Ci e.args.length) ⟨po, 0, []⟩ = c2 at *
 generalize Ci e.args.length = c1 at *
 simp only [Vm.inss, letsU, boolsU] at h5 a2
 repeat' (first
  | (refine V_run rfl ?_; simp [hne, hne2, hmq, Ne.symm hmq, Nat.add_assoc, del, cOb, kOb, letsU, boolsU, e1, e2, e3])
  | (refine CallP.f2 rfl (h5) (by first | simp [hne, hne2, hmq, Ne.symm hmq, Nat.add_assoc, del, cOb, kOb, letsU, boolsU, e1, e2, e3] <;> rfl | fail) ?_; simp [hne, hne2, hmq, Ne.symm hmq, Nat.add_assoc, del, cOb, kOb, letsU, boolsU, e1, e2, e3])
  | (refine CallP.okL (a2) (by first | (simp [hne, hne2, hmq, Ne.symm hmq, Nat.add_assoc, del, cOb, kOb, letsU, boolsU, e1, e2, e3, getK_cons, getK, getK_append, getK_del, getK_setOb, applyW, del]; done) | fail) (by rfl) (by first | assumption | (simp; done) | fail) (by rfl) (by simp) ?_; (try simp [hne, hne2, hmq, Ne.symm hmq, Nat.add_assoc, del, cOb, kOb, letsU, boolsU, e1, e2, e3, delL, del]))
  | fail)
 refine EndW.wk { n := _, env := [], obs := [(m, cOb lets shs nx c2), (nx, kOb c2)], next := nx + 1 } (Wk.ren ((fun i => if i = nx then nx + 2 else i)) rfl (by first | (simp [hn]; done) | (intro i hi; rw [hn] at hi; constructor <;> (try simp) <;> (try (intro _)) <;> omega)) (by simp [wkER, St.lp, keepE, getK_cons, getK, getK_del, getK_setOb, D.under, D.le, D.ren, hne, hne2, hmq, Ne.symm hmq, hm1, hp, cOb, kOb, letsU, boolsU] <;> (try (intros; simp_all; done)) <;> (try omega)) (by simp [wkR, St.lp, getK_cons, getK, getK_del, getK_setOb, obR, leU, pureRow, pureRows, Ob.under, D.under, D.le, D.ren, hne, hne2, hmq, Ne.symm hmq, hm1, hp, cOb, kOb, letsU, boolsU] <;> (try (intros; simp_all; done)) <;> (try omega)) (by simp [hne, hne2, hmq, Ne.symm hmq, hm1, hp, cOb, kOb, letsU, boolsU])) ?_
 (refine EndW.h Tryz.results36 ?_; simp)
 all_goals simp [letsU, boolsU]
theorem primary_name {l : List Tok} (hl : TokOK l) {f p : Nat} {t : Tok} (ht : l[p]? = some t) (hk : ¬ t.kind = 2) (h1 : isB l p [116, 114, 117, 101] = false) (h2 : isB l p [102, 97, 108, 115, 101] = false)
  (h3 : isB l p [109, 105, 110] = false) (h4 : isB l p [109, 97, 120] = false) (h5 : isB l p [40] = false) {i nx : Nat} (hi : i < nx) :
  RetX Tryz.prog 170 [.ptr i 0] [(i, pOb l p)] nx (PPost l i nx expD (primaryP l (f + 1) p)) := by
 have hne := ne_facts hi
 have hp := (List.getElem?_eq_some_iff.1 ht).1
 have hnx := pnext_fun l p t ht hl.len
 have hll := hl.len
 rw [primaryP, ht]
 have hh1 := fun nx' (h : nx ≤ nx') => has_ret l p [116, 114, 117, 101] i nx' (by omega) hp hl.len
 have hh2 := fun nx' (h : nx ≤ nx') => has_ret l p [102, 97, 108, 115, 101] i nx' (by omega) hp hl.len
 have hm1 := is_fun l p [109, 105, 110] hp hl.len
 have hm2 := is_fun l p [109, 97, 120] hp hl.len
 have hh3 := fun nx' (h : nx ≤ nx') => has_ret l p [40] i nx' (by omega) hp hl.len
 have hnm := name_fun t.text
 have hc1 := fun nx' (h : nx ≤ nx') => check_ok l p 12 i nx' (by omega)
 have hc2 := fun nx' (h : nx ≤ nx') => check_pan l p t 12 i nx' (by omega) ht hl.len
 simp only [hk, h1, h2, h3, h4, h5, if_false, if_true, Bool.false_eq_true, or_self] at hh1 hh2 hm1 hm2 hh3 ⊢
 by_cases hw : t.kind = 1
 ·cases hb : nameB t.text with
  | true =>
   simp only [hb, hw, and_self, if_true] at hnm ⊢
   refine RetX.runW Tryz.func170 Tryz.ntmps170 rfl (by simp) fun Γ hn hpan => ?_
   repeat' (first
  | (refine V_run rfl ?_; simp [hne, hk, hw, del, Nat.add_assoc])
  | (refine And.intro (by omega) ?_)
  | ((first | refine CallP.f2 rfl (hnx) (by first | simp [hne, hk, hw, del, Nat.add_assoc] <;> rfl | fail) ?_ | refine CallP.f2 rfl (hm1) (by first | simp [hne, hk, hw, del, Nat.add_assoc] <;> rfl | fail) ?_ | refine CallP.f2 rfl (hm2) (by first | simp [hne, hk, hw, del, Nat.add_assoc] <;> rfl | fail) ?_ | refine CallP.f2 rfl (hnm) (by first | simp [hne, hk, hw, del, Nat.add_assoc] <;> rfl | fail) ?_ | fail); simp [hne, hk, hw, del, Nat.add_assoc])
  | (refine CallP.ok1 (hh1 _ (by first | omega | (simp; done) | (simp; omega) | fail)) (by first | (simp [hne, hk, hw, del, Nat.add_assoc, getK_cons, getK, getK_append, getK_del]; done) | fail) (by rfl) (by first | assumption | (simp; done) | fail) (by rfl) (by simp) ?_; (try simp [hne, hk, hw, del, Nat.add_assoc]))
  | (refine CallP.ok1 (hh2 _ (by first | omega | (simp; done) | (simp; omega) | fail)) (by first | (simp [hne, hk, hw, del, Nat.add_assoc, getK_cons, getK, getK_append, getK_del]; done) | fail) (by rfl) (by first | assumption | (simp; done) | fail) (by rfl) (by simp) ?_; (try simp [hne, hk, hw, del, Nat.add_assoc]))
  | (refine CallP.ok1 (hh3 _ (by first | omega | (simp; done) | (simp; omega) | fail)) (by first | (simp [hne, hk, hw, del, Nat.add_assoc, getK_cons, getK, getK_append, getK_del]; done) | fail) (by rfl) (by first | assumption | (simp; done) | fail) (by rfl) (by simp) ?_; (try simp [hne, hk, hw, del, Nat.add_assoc]))
  | (refine CallP.ok1 (hc1 _ (by first | omega | (simp; done) | (simp; omega) | fail)) (by first | (simp [hne, hk, hw, del, Nat.add_assoc, getK_cons, getK, getK_append, getK_del]; done) | fail) (by rfl) (by first | assumption | (simp; done) | fail) (by rfl) (by simp) ?_; (try simp [hne, hk, hw, del, Nat.add_assoc]))
  | fail)
   refine EndW.norm ?_
   simp [St.norm, normOb, normD, normU, norm1, hne]
   (refine EndW.z ([(i, pOb l (p + 1))]) (N := nx) Tryz.results170 (by simp [hne, hi] <;> omega) ?_; simp [hne, hi])
   exact PPost.at_ok rfl (by simp [Exp.row]) rfl
  | false =>
   simp only [hb, hw, Bool.false_eq_true, and_false, if_false] at hnm ⊢
   refine RetX.runW Tryz.func170 Tryz.ntmps170 rfl (by simp) fun Γ hn hpan => ?_
   repeat' (first
  | (refine V_run rfl ?_; simp [hne, hk, hw, del, Nat.add_assoc])
  | ((first | refine CallP.f2 rfl (hnx) (by first | simp [hne, hk, hw, del, Nat.add_assoc] <;> rfl | fail) ?_ | refine CallP.f2 rfl (hm1) (by first | simp [hne, hk, hw, del, Nat.add_assoc] <;> rfl | fail) ?_ | refine CallP.f2 rfl (hm2) (by first | simp [hne, hk, hw, del, Nat.add_assoc] <;> rfl | fail) ?_ | refine CallP.f2 rfl (hnm) (by first | simp [hne, hk, hw, del, Nat.add_assoc] <;> rfl | fail) ?_ | fail); simp [hne, hk, hw, del, Nat.add_assoc])
  | (refine CallP.ok1 (hh1 _ (by first | omega | (simp; done) | (simp; omega) | fail)) (by first | (simp [hne, hk, hw, del, Nat.add_assoc, getK_cons, getK, getK_append, getK_del]; done) | fail) (by rfl) (by first | assumption | (simp; done) | fail) (by rfl) (by simp) ?_; (try simp [hne, hk, hw, del, Nat.add_assoc]))
  | (refine CallP.ok1 (hh2 _ (by first | omega | (simp; done) | (simp; omega) | fail)) (by first | (simp [hne, hk, hw, del, Nat.add_assoc, getK_cons, getK, getK_append, getK_del]; done) | fail) (by rfl) (by first | assumption | (simp; done) | fail) (by rfl) (by simp) ?_; (try simp [hne, hk, hw, del, Nat.add_assoc]))
  | (refine CallP.ok1 (hh3 _ (by first | omega | (simp; done) | (simp; omega) | fail)) (by first | (simp [hne, hk, hw, del, Nat.add_assoc, getK_cons, getK, getK_append, getK_del]; done) | fail) (by rfl) (by first | assumption | (simp; done) | fail) (by rfl) (by simp) ?_; (try simp [hne, hk, hw, del, Nat.add_assoc]))
  | (refine CallP.pan1 (hc2 _ (by first | omega | (simp; done) | (simp; omega) | fail)) (by first | (simp [hne, hk, hw, del, Nat.add_assoc, getK_cons, getK, getK_append, getK_del]; done) | fail) (by rfl) (by first | assumption | (simp; done) | fail) (by rfl) (by simp) ?_; rintro ob' ⟨q', rfl⟩; refine ⟨_, Wk.refl _, ?_⟩)
  | fail)
   (refine hpan _ _ (PanG.k ([(i, pOb l q')]) (nx) (by simp [hn, hi, hne, getK_append, getK_del, getK_cons, getK] <;> omega) ?_); try simp)
   exact PPost.at_stop rfl
 ·simp only [hw, false_and, if_false]
  refine RetX.runW Tryz.func170 Tryz.ntmps170 rfl (by simp) fun Γ hn hpan => ?_
  repeat' (first
  | (refine V_run rfl ?_; simp [hne, hk, hw, del, Nat.add_assoc])
  | ((first | refine CallP.f2 rfl (hnx) (by first | simp [hne, hk, hw, del, Nat.add_assoc] <;> rfl | fail) ?_ | refine CallP.f2 rfl (hm1) (by first | simp [hne, hk, hw, del, Nat.add_assoc] <;> rfl | fail) ?_ | refine CallP.f2 rfl (hm2) (by first | simp [hne, hk, hw, del, Nat.add_assoc] <;> rfl | fail) ?_ | refine CallP.f2 rfl (hnm) (by first | simp [hne, hk, hw, del, Nat.add_assoc] <;> rfl | fail) ?_ | fail); simp [hne, hk, hw, del, Nat.add_assoc])
  | (refine CallP.ok1 (hh1 _ (by first | omega | (simp; done) | (simp; omega) | fail)) (by first | (simp [hne, hk, hw, del, Nat.add_assoc, getK_cons, getK, getK_append, getK_del]; done) | fail) (by rfl) (by first | assumption | (simp; done) | fail) (by rfl) (by simp) ?_; (try simp [hne, hk, hw, del, Nat.add_assoc]))
  | (refine CallP.ok1 (hh2 _ (by first | omega | (simp; done) | (simp; omega) | fail)) (by first | (simp [hne, hk, hw, del, Nat.add_assoc, getK_cons, getK, getK_append, getK_del]; done) | fail) (by rfl) (by first | assumption | (simp; done) | fail) (by rfl) (by simp) ?_; (try simp [hne, hk, hw, del, Nat.add_assoc]))
  | (refine CallP.ok1 (hh3 _ (by first | omega | (simp; done) | (simp; omega) | fail)) (by first | (simp [hne, hk, hw, del, Nat.add_assoc, getK_cons, getK, getK_append, getK_del]; done) | fail) (by rfl) (by first | assumption | (simp; done) | fail) (by rfl) (by simp) ?_; (try simp [hne, hk, hw, del, Nat.add_assoc]))
  | (refine CallP.pan1 (hc2 _ (by first | omega | (simp; done) | (simp; omega) | fail)) (by first | (simp [hne, hk, hw, del, Nat.add_assoc, getK_cons, getK, getK_append, getK_del]; done) | fail) (by rfl) (by first | assumption | (simp; done) | fail) (by rfl) (by simp) ?_; rintro ob' ⟨q', rfl⟩; refine ⟨_, Wk.refl _, ?_⟩)
  | fail)
  (refine hpan _ _ (PanG.k ([(i, pOb l q')]) (nx) (by simp [hn, hi, hne, getK_append, getK_del, getK_cons, getK] <;> omega) ?_); try simp)
  exact PPost.at_stop rfl
theorem isB_text {l : List Tok} {p : Nat} {w : List UInt8} {t : Tok} (ht : l[p]? = some t) (h : isB l p w = true) : t.text = w := by
 unfold isB at h
 rw [ht] at h
 simp only [Bool.and_eq_true, decide_eq_true_eq] at h
 exact h.2
theorem primary_step {l : List Tok} (hl : TokOK l) {f : Nat} (hE : ExpOK l f) : PrimOK l (f + 1) := by
 intro p i nx hi hp hf
 obtain ⟨t, ht⟩ : ∃ t, l[p]? = some t := ⟨_, List.getElem?_eq_getElem hp⟩
 by_cases hk : t.kind = 2
 ·exact primary_num hl ht hk hi
 cases h1 : isB l p [116, 114, 117, 101] with
 | true => exact primary_true hl ht hk h1 hi
 | false =>
 cases h2 : isB l p [102, 97, 108, 115, 101] with
 | true => exact primary_false hl ht hk h1 h2 hi
 | false =>
 cases h3 : isB l p [109, 105, 110] with
 | true =>
  cases h4 : isB l p [109, 97, 120] with
  | true => exact absurd ((isB_text ht h3).symm.trans (isB_text ht h4)) (by decide)
  | false => exact primary_min hl hE (by omega) ht hk h1 h2 h3 h4 hi
 | false =>
 cases h4 : isB l p [109, 97, 120] with
 | true => exact primary_max hl hE (by omega) ht hk h1 h2 h3 h4 hi
 | false =>
 cases h5 : isB l p [40] with
 | true => exact primary_paren hl hE (by omega) ht hk h1 h2 h3 h4 h5 hi
 | false => exact primary_name hl ht hk h1 h2 h3 h4 h5 hi
theorem pre_ok {l : List Tok} {F : FuncId} {r : PR (Exp × Int)} {e : Exp × Int} {q i nx : Nat} {ds : List D} {obs : List (Nat × Ob)} (h : RetX Tryz.prog F ds obs nx (PPost l i nx pairD r)) (hr : r = .ok e q) :
  RetX Tryz.prog F ds obs nx fun r o n => r = .val (.tup [.u (.agg [.int .i64 e.1.op, .int .i64 e.1.n, .int .i64 e.1.unit, .str e.1.s, .sl (e.1.args.map Exp.row)]), .u (.int .i64 e.2)]) ∧ o = [(i, pOb l q)] ∧ n = nx := by
 subst hr
 rw [← Exp.row_eq]
 exact h
abbrev expOb (e : Exp) : Ob := .box [.u (.int .i64 e.op), .u (.int .i64 e.n), .u (.int .i64 e.unit), .u (.str e.s), .u (.sl (e.args.map Exp.row))]
theorem exp_step {l : List Tok} (hl : TokOK l) {f : Nat} (hE : ∀ g, g < f → ExpOK l g) (hP : PreOK l f) : ExpOK l (f + 1) := by
 intro p form i nx hi hp hf hm0 hm7
 have hne := ne_facts hi
 have hll := hl.len
 rw [expP]
 have ha := fun nx' (h : nx ≤ nx') => hP p form i nx' (by omega) hp (by omega) hm0 hm7
 have hop := operators_fun
 cases hr0 : prefixP l f p form with
 | stop pos e =>
  simp only [hr0] at ha
  refine RetX.runW Tryz.func106 Tryz.ntmps106 rfl (by simp) fun Γ hn hpan => ?_
  repeat' (first
  | (refine V_run rfl ?_; simp [hne, del, Nat.add_assoc])
  | (refine CallP.pan1 (ha _ (by first | omega | (simp; done) | (simp; omega) | fail)) (by first | (simp [hne, del, Nat.add_assoc, getK_cons, getK, getK_append, getK_del]; done) | fail) (by rfl) (by first | assumption | (simp; done) | fail) (by rfl) (by simp) ?_; rintro ob' ⟨q', rfl⟩; refine ⟨_, Wk.refl _, ?_⟩)
  | fail)
  (refine hpan _ _ (PanG.k ([(i, pOb l q')]) (nx) (by simp [hn, hi, hne, getK_append, getK_del, getK_cons, getK] <;> omega) ?_); try simp)
  exact PPost.at_stop (by simp [PR.bind, *])
 | ok v0 q0 =>
  have ha := fun nx' h => pre_ok (ha nx' h) hr0
  obtain ⟨g0a, g0b⟩ := (parse_le hl f).2.2.1 _ _ _ _ hr0 hp
  generalize hR : (PR.ok v0 q0).bind (fun e q => loopP l f form e.1 e.2 q) = R
  have hR' : R = loopP l f form v0.1 v0.2 q0 := hR.symm
  refine RetX.runW Tryz.func106 Tryz.ntmps106 rfl (by simp) fun Γ hn hpan => ?_
  repeat' (first
  | (refine V_run rfl ?_; simp [hne, del, Nat.add_assoc])
  | (refine CallP.ok1 (ha _ (by first | omega | (simp; done) | (simp; omega) | fail)) (by first | (simp [hne, del, Nat.add_assoc, getK_cons, getK, getK_append, getK_del]; done) | fail) (by rfl) (by first | assumption | (simp; done) | fail) (by rfl) (by simp) ?_; (try simp [hne, del, Nat.add_assoc]))
  | fail)
  refine V_loopO (α := { x : Exp × Int × Nat × Nat // x.2.2.1 < l.length ∧ 4 * (l.length - x.2.2.1) + 2 ≤ x.2.2.2 ∧ x.2.2.2 ≤ f ∧ R = loopP l x.2.2.2 form x.1 x.2.1 x.2.2.1 }) [0, 1, 2, 4, 5] (fun x => [(6, .u (.int .i64 x.1.2.1))])
   (fun x => [(nx + 2, expOb x.1.1), (nx + 1, .box [.u (.int .i64 0), .u (.int .i64 0), .u (.int .i64 0), .u (.str []), .u .nil]), (nx, .box [.ptr i 0]), (i, pOb l x.1.2.2.1)]) (nx + 3) (fun x => x.1.2.2.2) ⟨(v0.1, v0.2, q0, f), g0b, (by show 4 * (l.length - q0) + 2 ≤ f; omega), (by show f ≤ f; omega), hR'⟩ ?_ ?_
  ·have hi3 : i < nx + 3 := by omega
   exact (Wk.cut2 (by simp [hn, hi, hi3, hne] <;> grind))
  rintro ⟨⟨e, own, q, g⟩, h1, h2, h2b, h3⟩
  simp only at h1 h2 h2b h3
  simp
  obtain ⟨g, rfl⟩ : ∃ g', g = g' + 1 := ⟨g - 1, by omega⟩
  rw [loopP] at h3
  have hix := indexO_ret l q h1 hl.len
  cases hx : oprAt l q with
  | none =>
   rw [(idxP_find oprs 0).1 hx] at hix
   rw [hx] at h3
   repeat' (first
  | (refine V_run rfl ?_; simp [hne, del, Nat.add_assoc])
  | ((first | refine CallP.f2 rfl (hop) (by first | simp [hne, del, Nat.add_assoc] <;> rfl | fail) ?_ | refine CallP.f2 rfl (hix) (by first | simp [hne, del, Nat.add_assoc] <;> rfl | fail) ?_ | fail); simp [hne, del, Nat.add_assoc])
  | fail)
   refine EndW.norm ?_
   simp [St.norm, normOb, normD, normU, norm1, hne, Nat.add_assoc]
   (refine EndW.z ([(i, pOb l q)]) (N := nx) Tryz.results106 (by simp [hne, hi] <;> omega) ?_; simp [hne, hi])
   exact PPost.at_ok h3 (by simp [Exp.row_eq]) rfl
  | some x =>
   obtain ⟨k, hk1, hk2⟩ := (idxP_find oprs 0).2 x hx
   rw [hk2] at hix
   rw [hx] at h3
   simp only at h3
   have hqb := isB_lt hl (by have := List.find?_some (p := fun o : Opr => isB l q o.text) hx; exact this)
   have hk0 : ¬ ((k : Int) < 0) := by omega
   have hkl : k < 8 := (List.getElem?_eq_some_iff.1 hk1).1
   rw [show (0 : Int) + k = (k : Int) by omega] at hix
   have hfm : 0 ≤ x.form ∧ x.form ≤ 6 := by
    have := List.mem_of_getElem? hk1
    simp only [oprs, List.mem_cons, List.not_mem_nil, or_false] at this
    rcases this with rfl | rfl | rfl | rfl | rfl | rfl | rfl | rfl <;> decide
   obtain ⟨hf0, hf6⟩ := hfm
   generalize hL : oprs = L at hop hix hk1
   by_cases c1 : x.form < form
   ·rw [if_pos (Or.inl c1)] at h3
    repeat' (first
  | (refine V_run rfl ?_; simp [hne, del, Nat.add_assoc, hk0, hk1, c1])
  | ((first | refine CallP.f2 rfl (hop) (by first | simp [hne, del, Nat.add_assoc, hk0, hk1, c1] <;> rfl | fail) ?_ | refine CallP.f2 rfl (hix) (by first | simp [hne, del, Nat.add_assoc, hk0, hk1, c1] <;> rfl | fail) ?_ | fail); simp [hne, del, Nat.add_assoc, hk0, hk1, c1])
  | fail)
    refine EndW.norm ?_
    simp [St.norm, normOb, normD, normU, norm1, hne, Nat.add_assoc]
    (refine EndW.z ([(i, pOb l q)]) (N := nx) Tryz.results106 (by simp [hne, hi] <;> omega) ?_; simp [hne, hi])
    exact PPost.at_ok h3 (by simp [Exp.row_eq]) rfl
   ·by_cases c2 : own < x.form
    ·rw [if_pos (Or.inr (Or.inl c2))] at h3
     repeat' (first
  | (refine V_run rfl ?_; simp [hne, del, Nat.add_assoc, hk0, hk1, c1, c2])
  | ((first | refine CallP.f2 rfl (hop) (by first | simp [hne, del, Nat.add_assoc, hk0, hk1, c1, c2] <;> rfl | fail) ?_ | refine CallP.f2 rfl (hix) (by first | simp [hne, del, Nat.add_assoc, hk0, hk1, c1, c2] <;> rfl | fail) ?_ | fail); simp [hne, del, Nat.add_assoc, hk0, hk1, c1, c2])
  | fail)
     refine EndW.norm ?_
     simp [St.norm, normOb, normD, normU, norm1, hne, Nat.add_assoc]
     (refine EndW.z ([(i, pOb l q)]) (N := nx) Tryz.results106 (by simp [hne, hi] <;> omega) ?_; simp [hne, hi])
     exact PPost.at_ok h3 (by simp [Exp.row_eq]) rfl
    ·by_cases c3 : own = 4 ∧ x.form = 4
     ·rw [if_pos (Or.inr (Or.inr c3))] at h3
      obtain ⟨c4, c5⟩ := c3
      repeat' (first
  | (refine Cnd.of (fun hc => ?_) (fun hc => ?_) <;> (try (exfalso; omega)) <;> (try simp [hne, del, Nat.add_assoc, hk0, hk1, c1, c2, c4, c5]))
  | (refine V_run rfl ?_; simp [hne, del, Nat.add_assoc, hk0, hk1, c1, c2, c4, c5])
  | ((first | refine CallP.f2 rfl (hop) (by first | simp [hne, del, Nat.add_assoc, hk0, hk1, c1, c2, c4, c5] <;> rfl | fail) ?_ | refine CallP.f2 rfl (hix) (by first | simp [hne, del, Nat.add_assoc, hk0, hk1, c1, c2, c4, c5] <;> rfl | fail) ?_ | fail); simp [hne, del, Nat.add_assoc, hk0, hk1, c1, c2, c4, c5])
  | fail)
      refine EndW.norm ?_
      simp [St.norm, normOb, normD, normU, norm1, hne, Nat.add_assoc]
      (refine EndW.z ([(i, pOb l q)]) (N := nx) Tryz.results106 (by simp [hne, hi] <;> omega) ?_; simp [hne, hi])
      exact PPost.at_ok h3 (by simp [Exp.row_eq]) rfl
     ·rw [if_neg (by rintro (h | h | h) <;> contradiction)] at h3
      have hb := fun nx' (h : nx ≤ nx') => hE g (by omega) (q + 1) (x.form + 1) i nx' (by omega) hqb (by omega) (by omega) (by omega)
      cases hr1 : expP l g (q + 1) (x.form + 1) with
      | stop pos err =>
       simp only [hr1] at hb
       rw [hr1] at h3
       by_cases c4 : own = 4
       ·have c5 : ¬ x.form = 4 := fun h => c3 ⟨c4, h⟩
        repeat' (first
  | (refine HD4_pan1 (fun nx' h' => hb nx' (by simp at h'; omega)) (by first | (simp [hne, del, Nat.add_assoc, hk0, hk1, c1, c2, c4, c5, getK_cons, getK, getK_append, getK_del, getK_setOb, applyW]; done) | fail) (by rfl) (by first | assumption | simp) (by rfl) (by simp) ?_ ?_; rintro env' ob' n' hn' ⟨q', rfl⟩; refine ⟨_, Wk.refl _, ?_⟩)
  | (refine HD4_skipS rfl (by simp) ?_; simp)
  | (refine Cnd.of (fun hc => ?_) (fun hc => ?_) <;> (try (exfalso; omega)) <;> (try simp [hne, del, Nat.add_assoc, hk0, hk1, c1, c2, c4, c5]))
  | (refine V_run rfl ?_; simp [hne, del, Nat.add_assoc, hk0, hk1, c1, c2, c4, c5])
  | (refine And.intro (by omega) ?_)
  | (refine HD4_nilS (hC _ (okP4_ren [i] nx (by simp <;> omega) (by simp <;> omega) (by apply Exists.intro; apply And.intro; (focus (repeat' (first | exact KF.nil | exact KL.nil | apply KF.cons | apply KL.cons 0 rfl | apply KL.cons 1 rfl | apply KL.cons 2 rfl | apply KL.cons 3 rfl | apply KL.cons 4 rfl | apply KL.cons 5 rfl | apply KL.cons 6 rfl | apply KL.cons 7 rfl | apply KL.cons 8 rfl | apply KL.cons 9 rfl))); kernel_rfl))) rfl; done)
  | (refine V_dx rfl (by kernel_rfl) (by first | (simp [hn]; done) | (simp [hn]; omega) | fail) fun C k hC hk => ?_; simp [hne, del, Nat.add_assoc, hk0, hk1, c1, c2, c4, c5])
  | ((first | refine CallP.f2 rfl (hop) (by first | simp [hne, del, Nat.add_assoc, hk0, hk1, c1, c2, c4, c5] <;> rfl | fail) ?_ | refine CallP.f2 rfl (hix) (by first | simp [hne, del, Nat.add_assoc, hk0, hk1, c1, c2, c4, c5] <;> rfl | fail) ?_ | fail); simp [hne, del, Nat.add_assoc, hk0, hk1, c1, c2, c4, c5])
  | fail)
        (refine hpan _ _ (PanG.k ([(i, pOb l q')]) (nx) (by simp [hn, hi, hne, getK_append, getK_del, getK_cons, getK] <;> omega) ?_); try simp)
        exact PPost.at_stop h3
       ·repeat' (first
  | (refine HD4_pan1 (fun nx' h' => hb nx' (by simp at h'; omega)) (by first | (simp [hne, del, Nat.add_assoc, hk0, hk1, c1, c2, c4, getK_cons, getK, getK_append, getK_del, getK_setOb, applyW]; done) | fail) (by rfl) (by first | assumption | simp) (by rfl) (by simp) ?_ ?_; rintro env' ob' n' hn' ⟨q', rfl⟩; refine ⟨_, Wk.refl _, ?_⟩)
  | (refine HD4_skipS rfl (by simp) ?_; simp)
  | (refine V_run rfl ?_; simp [hne, del, Nat.add_assoc, hk0, hk1, c1, c2, c4])
  | (refine And.intro (by omega) ?_)
  | (refine HD4_nilS (hC _ (okP4_ren [i] nx (by simp <;> omega) (by simp <;> omega) (by apply Exists.intro; apply And.intro; (focus (repeat' (first | exact KF.nil | exact KL.nil | apply KF.cons | apply KL.cons 0 rfl | apply KL.cons 1 rfl | apply KL.cons 2 rfl | apply KL.cons 3 rfl | apply KL.cons 4 rfl | apply KL.cons 5 rfl | apply KL.cons 6 rfl | apply KL.cons 7 rfl | apply KL.cons 8 rfl | apply KL.cons 9 rfl))); kernel_rfl))) rfl; done)
  | (refine V_dx rfl (by kernel_rfl) (by first | (simp [hn]; done) | (simp [hn]; omega) | fail) fun C k hC hk => ?_; simp [hne, del, Nat.add_assoc, hk0, hk1, c1, c2, c4])
  | ((first | refine CallP.f2 rfl (hop) (by first | simp [hne, del, Nat.add_assoc, hk0, hk1, c1, c2, c4] <;> rfl | fail) ?_ | refine CallP.f2 rfl (hix) (by first | simp [hne, del, Nat.add_assoc, hk0, hk1, c1, c2, c4] <;> rfl | fail) ?_ | fail); simp [hne, del, Nat.add_assoc, hk0, hk1, c1, c2, c4])
  | fail)
        (refine hpan _ _ (PanG.k ([(i, pOb l q')]) (nx) (by simp [hn, hi, hne, getK_append, getK_del, getK_cons, getK] <;> omega) ?_); try simp)
        exact PPost.at_stop h3
      | ok e2 q2 =>
       have hb := fun nx' h => exp_ok (hb nx' h) hr1
       obtain ⟨g1a, g1b⟩ := (parse_le hl g).1 _ _ _ _ hr1 hqb
       rw [hr1] at h3
       by_cases c4 : own = 4
       ·have c5 : ¬ x.form = 4 := fun h => c3 ⟨c4, h⟩
        repeat' (first
  | (refine HD4_ok1 (fun nx' h' => hb nx' (by simp at h'; omega)) (by first | (simp [hne, del, Nat.add_assoc, hk0, hk1, c1, c2, c4, c5, getK_cons, getK, getK_append, getK_del, getK_setOb, applyW]; done) | fail) (by rfl) (by first | assumption | simp) (by rfl) (by simp [D.under, Ob.under]) (by simp) ?_; (try simp [hne, del, Nat.add_assoc, hk0, hk1, c1, c2, c4, c5]))
  | (refine Cnd.of (fun hc => ?_) (fun hc => ?_) <;> (try (exfalso; omega)) <;> (try simp [hne, del, Nat.add_assoc, hk0, hk1, c1, c2, c4, c5]))
  | (refine V_run rfl ?_; simp [hne, del, Nat.add_assoc, hk0, hk1, c1, c2, c4, c5])
  | (refine And.intro (by omega) ?_)
  | (refine ⟨hC _ (okP4_ren [i] nx (by simp <;> omega) (by simp <;> omega) (by apply Exists.intro; apply And.intro; (focus (repeat' (first | exact KF.nil | exact KL.nil | apply KF.cons | apply KL.cons 0 rfl | apply KL.cons 1 rfl | apply KL.cons 2 rfl | apply KL.cons 3 rfl | apply KL.cons 4 rfl | apply KL.cons 5 rfl | apply KL.cons 6 rfl | apply KL.cons 7 rfl | apply KL.cons 8 rfl | apply KL.cons 9 rfl))); kernel_rfl)), hk _ (RN_K 8 _ _ _ ?_)⟩; clear hC hk C k; simp [hne, del, Nat.add_assoc, hk0, hk1, c1, c2, c4, c5])
  | (refine V_dx rfl (by kernel_rfl) (by first | (simp [hn]; done) | (simp [hn]; omega) | fail) fun C k hC hk => ?_; simp [hne, del, Nat.add_assoc, hk0, hk1, c1, c2, c4, c5])
  | (refine H4_HD4 rfl ?_; simp [hne, del, Nat.add_assoc, hk0, hk1, c1, c2, c4, c5])
  | ((first | refine CallP.f2 rfl (hop) (by first | simp [hne, del, Nat.add_assoc, hk0, hk1, c1, c2, c4, c5] <;> rfl | fail) ?_ | refine CallP.f2 rfl (hix) (by first | simp [hne, del, Nat.add_assoc, hk0, hk1, c1, c2, c4, c5] <;> rfl | fail) ?_ | fail); simp [hne, del, Nat.add_assoc, hk0, hk1, c1, c2, c4, c5])
  | fail)
        have hi3 : i < nx + 3 := by omega
        refine LoopW.next ⟨(.mk x.op 0 0 [] [e, e2], x.form, q2, g), g1b, (by show 4 * (l.length - q2) + 2 ≤ g; omega), (by show g ≤ f; omega), h3⟩ (by show g < g + 1; omega) ?_
        refine Wk.trans (Wk.frzN 1 _) ?_
        simp [hne, Nat.add_assoc, frzN, frz1, frz_env, frz_obs, St.frz, St.frzS, frzS, fv, fzVec, fzMap, fzBox, frzObS, frz_entD, frz_rowsD, del, frz, frzOb]
        exact (Wk.cut2 (by simp [hn, hi, hi3, hne, Exp.row_eq, Exp.op, Exp.n, Exp.unit, Exp.s, Exp.args] <;> grind))
       ·repeat' (first
  | (refine HD4_ok1 (fun nx' h' => hb nx' (by simp at h'; omega)) (by first | (simp [hne, del, Nat.add_assoc, hk0, hk1, c1, c2, c4, getK_cons, getK, getK_append, getK_del, getK_setOb, applyW]; done) | fail) (by rfl) (by first | assumption | simp) (by rfl) (by simp [D.under, Ob.under]) (by simp) ?_; (try simp [hne, del, Nat.add_assoc, hk0, hk1, c1, c2, c4]))
  | (refine V_run rfl ?_; simp [hne, del, Nat.add_assoc, hk0, hk1, c1, c2, c4])
  | (refine And.intro (by omega) ?_)
  | (refine ⟨hC _ (okP4_ren [i] nx (by simp <;> omega) (by simp <;> omega) (by apply Exists.intro; apply And.intro; (focus (repeat' (first | exact KF.nil | exact KL.nil | apply KF.cons | apply KL.cons 0 rfl | apply KL.cons 1 rfl | apply KL.cons 2 rfl | apply KL.cons 3 rfl | apply KL.cons 4 rfl | apply KL.cons 5 rfl | apply KL.cons 6 rfl | apply KL.cons 7 rfl | apply KL.cons 8 rfl | apply KL.cons 9 rfl))); kernel_rfl)), hk _ (RN_K 8 _ _ _ ?_)⟩; clear hC hk C k; simp [hne, del, Nat.add_assoc, hk0, hk1, c1, c2, c4])
  | (refine V_dx rfl (by kernel_rfl) (by first | (simp [hn]; done) | (simp [hn]; omega) | fail) fun C k hC hk => ?_; simp [hne, del, Nat.add_assoc, hk0, hk1, c1, c2, c4])
  | (refine H4_HD4 rfl ?_; simp [hne, del, Nat.add_assoc, hk0, hk1, c1, c2, c4])
  | ((first | refine CallP.f2 rfl (hop) (by first | simp [hne, del, Nat.add_assoc, hk0, hk1, c1, c2, c4] <;> rfl | fail) ?_ | refine CallP.f2 rfl (hix) (by first | simp [hne, del, Nat.add_assoc, hk0, hk1, c1, c2, c4] <;> rfl | fail) ?_ | fail); simp [hne, del, Nat.add_assoc, hk0, hk1, c1, c2, c4])
  | fail)
        have hi3 : i < nx + 3 := by omega
        refine LoopW.next ⟨(.mk x.op 0 0 [] [e, e2], x.form, q2, g), g1b, (by show 4 * (l.length - q2) + 2 ≤ g; omega), (by show g ≤ f; omega), h3⟩ (by show g < g + 1; omega) ?_
        refine Wk.trans (Wk.frzN 1 _) ?_
        simp [hne, Nat.add_assoc, frzN, frz1, frz_env, frz_obs, St.frz, St.frzS, frzS, fv, fzVec, fzMap, fzBox, frzObS, frz_entD, frz_rowsD, del, frz, frzOb]
        exact (Wk.cut2 (by simp [hn, hi, hi3, hne, Exp.row_eq, Exp.op, Exp.n, Exp.unit, Exp.s, Exp.args] <;> grind))
theorem open_ok (s : List UInt8) (l : List Tok) (nx : Nat) (h : lexL s = .ok l) :
  RetX Tryz.prog 103 [.u (.str s)] [] nx (fun r o n => r = .val (.tup [.ptr nx 0, .u (.int .i64 0), .u (.int .i64 0)]) ∧ o = [(nx, pOb l 0)] ∧ n = nx + 1) := by
 have h1 := lex_fun s
 rw [h] at h1
 simp only [lexOut] at h1
 refine RetX.runW Tryz.func103 Tryz.ntmps103 rfl (by simp) fun Γ hn hpan => ?_
 repeat' (first
  | (refine V_run rfl ?_; simp)
  | (refine CallP.f2 rfl (h1) (by first | simp <;> rfl | fail) ?_; simp)
  | fail)
 (refine EndW.h Tryz.results103 ?_; simp)
theorem open_err (s : List UInt8) (p : Nat) (e : Int) (nx : Nat) (h : lexL s = .error (p, e)) :
  RetX Tryz.prog 103 [.u (.str s)] [] nx (fun r o n => r = .val (.tup [.ptr nx 0, .u (.int .i64 p), .u (.int .i64 e)]) ∧ o = [(nx, pOb [] 0)] ∧ n = nx + 1) := by
 have h1 := lex_fun s
 rw [h] at h1
 simp only [lexOut] at h1
 refine RetX.runW Tryz.func103 Tryz.ntmps103 rfl (by simp) fun Γ hn hpan => ?_
 repeat' (first
  | (refine V_run rfl ?_; simp)
  | (refine CallP.f2 rfl (h1) (by first | simp <;> rfl | fail) ?_; simp)
  | fail)
 (refine EndW.h Tryz.results103 ?_; simp)
theorem caught_none (i j nx : Nat) (hi : i < nx) (hj : j < nx) (hij : i ≠ j) (p e : Int) :
  RetX Tryz.prog 105 [.u (.oth .nilIface), .ptr i 0, .ptr j 0] [(i, .box [.u (.int .i64 p)]), (j, .box [.u (.int .i64 e)])] nx
   (fun r o n => r = .val (.u (.bool false)) ∧ o = [(i, .box [.u (.int .i64 p)]), (j, .box [.u (.int .i64 e)])] ∧ n = nx) := by
 have hne := ne_facts hi
 have hne2 := ne_facts hj
 refine RetX.runW Tryz.func105 Tryz.ntmps105 rfl (by simp) fun Γ hn hpan => ?_
 repeat' (first
  | (refine V_run rfl ?_; simp [hne, hne2, hij, Ne.symm hij])
  | fail)
 refine ⟨(true, [.int .i64 0, .int .i64 0]), rfl, ?_⟩
 simp [hne, hne2, hij, Ne.symm hij]
 repeat' (first | fail)
 (refine EndW.z ([(i, .box [.u (.int .i64 p)]), (j, .box [.u (.int .i64 e)])]) (N := nx) Tryz.results105 (by simp [hne, hne2, hij, Ne.symm hij, hi, hj] <;> omega) ?_; simp [hne, hne2, hij, Ne.symm hij, hi, hj])
theorem caught_stop (i j nx : Nat) (hi : i < nx) (hj : j < nx) (hij : i ≠ j) (p e pos err : Int) :
  RetX Tryz.prog 105 [.u (.oth (.iface 179 (.agg #[.int .i64 pos, .int .i64 err]))), .ptr i 0, .ptr j 0] [(i, .box [.u (.int .i64 p)]), (j, .box [.u (.int .i64 e)])] nx
   (fun r o n => r = .val (.u (.bool true)) ∧ o = [(i, .box [.u (.int .i64 pos)]), (j, .box [.u (.int .i64 err)])] ∧ n = nx) := by
 have hne := ne_facts hi
 have hne2 := ne_facts hj
 refine RetX.runW Tryz.func105 Tryz.ntmps105 rfl (by simp) fun Γ hn hpan => ?_
 repeat' (first
  | (refine V_run rfl ?_; simp [hne, hne2, hij, Ne.symm hij])
  | (refine ⟨hC _ (okP4_ren [i, j] nx (by simp <;> omega) (by simp <;> omega) (by apply Exists.intro; apply And.intro; (focus (repeat' (first | exact KF.nil | exact KL.nil | apply KF.cons | apply KL.cons 0 rfl | apply KL.cons 1 rfl | apply KL.cons 2 rfl | apply KL.cons 3 rfl | apply KL.cons 4 rfl | apply KL.cons 5 rfl | apply KL.cons 6 rfl | apply KL.cons 7 rfl | apply KL.cons 8 rfl | apply KL.cons 9 rfl))); kernel_rfl)), hk _ (RN_K 8 _ _ _ ?_)⟩; clear hC hk C k; simp [hne, hne2, hij, Ne.symm hij])
  | (refine V_dx rfl (by kernel_rfl) (by first | (simp [hn]; done) | (simp [hn]; omega) | fail) fun C k hC hk => ?_; simp [hne, hne2, hij, Ne.symm hij])
  | fail)
 (refine EndW.z ([(i, .box [.u (.int .i64 pos)]), (j, .box [.u (.int .i64 err)])]) (N := nx) Tryz.results105 (by simp [hne, hne2, hij, Ne.symm hij, hi, hj] <;> omega) ?_; simp [hne, hne2, hij, Ne.symm hij, hi, hj])
theorem pdef_ret (i j q nx : Nat) (hi : i < nx) (hj : j < nx) (hq : q < nx) (hij : i ≠ j) (hiq : i ≠ q) (hjq : j ≠ q) (p e : Int) (cells : List U) :
  RetDf Tryz.prog 104 [.ptr i 0, .ptr j 0, .ptr q 0] [(i, .box [.u (.int .i64 p)]), (j, .box [.u (.int .i64 e)]), (q, .box (cells.map .u))] nx .returning
   (fun u o n => settle u = .returning ∧ n = nx ∧ o = [(i, .box [.u (.int .i64 p)]), (j, .box [.u (.int .i64 e)]), (q, .box (cells.map .u))]) := by
 have hne := ne_facts hi
 have hne2 := ne_facts hj
 have hne3 := ne_facts hq
 have hc0 := caught_none i j nx hi hj hij p e
 refine RetDf.of_body Tryz.func104 rfl (by simp) (by simp) rfl fun Γ hn => ?_
 simp [entry, recU, Tryz.ntmps104]
 refine CallP.x2 hc0 (by simp [getK]) (by simp [getK, hij, Ne.symm hij]) hij rfl rfl (by simp) (by simp) (fun d o1 nx' hnx h => ?_) (fun ch o1 nx' hnx h => by cases h.1)
 obtain ⟨h1, rfl, h4⟩ := h
 have h4 := h4.symm
 subst h4
 cases h1
 simp [del, hij, Ne.symm hij, hiq, hjq, Ne.symm hiq, Ne.symm hjq]
 repeat' (first
  | (refine V_run rfl ?_; simp [hij, hiq, hjq])
  | fail)
 (refine ⟨by simp, { n := _, env := [], obs := [(i, .box [.u (.int .i64 p)]), (j, .box [.u (.int .i64 e)]), (q, .box (cells.map .u))], next := nx }, (Wk.cut rfl (by simp [hn]) (by simp [wkO, getK_cons, getK, getK_append, getK_del, Ob.under, D.under, under_rowsD, under_entD, hi, hj, hq, hne, hne2, hne3, hij, hiq, hjq, Ne.symm hij, Ne.symm hiq, Ne.symm hjq]) (by simp [wkU, keepE, getK_cons, getK, D.under, hi, hj, hq, hne, hne2, hne3, hij, hiq, hjq, Ne.symm hij, Ne.symm hiq, Ne.symm hjq]) (by simp [wkE, keepE, getK_cons, getK, hi, hj, hq, hne, hne2, hne3, hij, hiq, hjq, Ne.symm hij, Ne.symm hiq, Ne.symm hjq])), by simp [hn], ?_⟩; try simp)
 all_goals rfl
end Go.Proofs.YtkdhmbhbbciedaaGreatDoor
namespace Go.Proofs.YtkdhmbhbbciedaaGreatDoor
open Go Go.VL
theorem ExpX.cast {lets shs m n e F F'} (h : ExpX lets shs m n e F) (e' : F = F') : ExpX lets shs m n e F' := e' ▸ h
theorem exp_all {lets : List Let} (hr : ∀ l ∈ lets, rightB 12 l.body = true) (hll : lets.length ≤ 20) (m : Nat) : ∀ (n : Nat), n ≤ lets.length → ∀ (d : Nat), d ≤ 12 → ∀ e : Exp, rightB d e = true →
  ExpX lets (shsL lets lets.length) m n e (genT (nmC lets (shF lets) n) (shF lets n) e) := by
 intro n
 induction n using Nat.strongRecOn with
 | ind n ihn =>
 intro hn d
 induction d with
 | zero => intro _ e he; simp [rightB] at he
 | succ d ih =>
  intro hd e he
  obtain ⟨h1, h2, h3, h4⟩ := right_args he
  have hcap := fun x => genT_cap (sh := shF lets n) (nmC_cap (lets := lets) (sh := shF lets) n) x
  have hpre := fun x => genT_pre (sh := shF lets n) (nmC_pre (lets := lets) (sh := shF lets) n) x
  by_cases h0 : e.op = 0
  ·refine (exp_num h0).cast (funext fun c => ?_)
   rw [genT_eq, if_pos h0]
  by_cases hnm : e.op = 1
  ·refine (exp_name lets _ m n e hnm hn (by omega) fun i l hi hl => ⟨_, ihn i hi (by omega) 12 (by omega) l.body (hr l (List.mem_of_getElem? hl)), rfl⟩).cast (funext fun c => ?_)
   rw [genT_eq, if_neg h0, if_pos hnm]
  have hargs := h4 h0 hnm
  have hE : ∀ x ∈ e.args, ExpX lets (shsL lets lets.length) m n x (genT (nmC lets (shF lets) n) (shF lets n) x) := fun x hx => ih (by omega) x (hargs x hx)
  by_cases hA : e.op = 10
  ·obtain ⟨a, b, hab⟩ : ∃ a b, e.args = [a, b] := by
    have hl : e.args.length = 2 := by rw [hA] at h1; simp [operandsI] at h1; omega
    match hq : e.args, hl with
    | [a, b], _ => exact ⟨a, b, rfl⟩
   refine (exp_choice (.inl hA) (choice_and hA hab (hE a (by simp [hab])) (hcap a) (hpre a) (hE b (by simp [hab])) (hcap b) (hpre b))).cast (funext fun c => ?_)
   rw [genT_eq, if_neg h0, if_neg hnm, if_pos hA, hab, genN_at (i := 0) (e := a) rfl, genN_at (i := 1) (e := b) rfl]
  by_cases hO : e.op = 11
  ·obtain ⟨a, b, hab⟩ : ∃ a b, e.args = [a, b] := by
    have hl : e.args.length = 2 := by rw [hO] at h1; simp [operandsI] at h1; omega
    match hq : e.args, hl with
    | [a, b], _ => exact ⟨a, b, rfl⟩
   refine (exp_choice (.inr (.inl hO)) (choice_or hO hab (hE a (by simp [hab])) (hcap a) (hpre a) (hE b (by simp [hab])) (hcap b) (hpre b))).cast (funext fun c => ?_)
   rw [genT_eq, if_neg h0, if_neg hnm, if_neg hA, if_pos hO, hab, genN_at (i := 0) (e := a) rfl, genN_at (i := 1) (e := b) rfl]
  by_cases hI : e.op = 13
  ·obtain ⟨a, b, z, hab⟩ : ∃ a b z, e.args = [a, b, z] := by
    have hl : e.args.length = 3 := by rw [hI] at h1; simp [operandsI] at h1; omega
    match hq : e.args, hl with
    | [a, b, z], _ => exact ⟨a, b, z, rfl⟩
   refine (exp_choice (.inr (.inr hI)) (choice_if hI hab (hE a (by simp [hab])) (hcap a) (hpre a) (hE b (by simp [hab])) (hcap b) (hpre b) (hE z (by simp [hab])) (hcap z) (hpre z))).cast (funext fun c => ?_)
   rw [genT_eq, if_neg h0, if_neg hnm, if_neg hA, if_neg hO, if_pos hI, hab, genN_at (i := 0) (e := a) rfl, genN_at (i := 1) (e := b) rfl, genN_at (i := 2) (e := z) rfl]
  refine (exp_plain lets m n d e (by omega) hn (by omega) hr hll he (by omega) hE).cast (funext fun c => ?_)
  rw [genT_eq, if_neg h0, if_neg hnm, if_neg hA, if_neg hO, if_neg hI]
abbrev boolR' (l : List Bool) : List (List D) := l.map fun b => [.u (.bool b)]
theorem allU2_boolR (l : List Bool) : allU2 (boolR' l) = some (l.map fun b => [.bool b]) := by
 have : boolR' l = (l.map fun b => [U.bool b]).map (·.map D.u) := by simp [boolR']
 rw [this, allU2_map]
theorem boolR_take (l : List Bool) : (boolR' l).take l.length = boolR' l := by have : (boolR' l).length = l.length := by simp [boolR']
                                                                               rw [← this, List.take_length]
theorem pure_boolR' (l : List Bool) : pureRows (boolR' l) := by
 induction l with
 | nil => simp [boolR', pureRows]
 | cons a l ih => simp only [boolR'] at ih; simp [boolR', pureRows, pureRow, ih]
theorem boolR_lenR (l : List Bool) : lenR 1 (boolR' l) := by intro r hr; obtain ⟨i, _, rfl⟩ := List.mem_map.1 hr; rfl
end Go.Proofs.YtkdhmbhbbciedaaGreatDoor
namespace Go.Proofs.YtkdhmbhbbciedaaGreatDoor
open Go Go.VL Go.Shelf Go.RowKit
attribute [local simp] HS exS_some hcons hstep evPure opd uOf putOK St.put St.at getK binD binI binS binB nilD aggD eqUs cmpK lookD lookR rangeD rangeS Go.VL.nextD Go.VL.nextS entryD keyD valU keyU lookK mkV entD_nil allUE makeMapD mapUpdD mapEff updK valM Key.kk shiftI arith unD convD pickD loadD cellsAt fieldAddrD fieldD indexAddrD indexSlD arrAddr indexD sliceD cutD lenD minmaxD nilCheckD buildD fillD cellsD isOne ones setAll mkAgg allU allocD boxD storeD St.add buildSliceD appendD rowsOf makeD setOb getK_setOb getK_del getK_cons stripL strip guardTmp entry chunks zcells valD argsV argsW argW argU1 argU0 argsU0 argsU1 calleeOf scalarD scalarU delAll effD St.effS RK_seq RK_seq_ret RK_seq_exit RK_blk RK_blk_ret RK_blk_exit RK_loop RK_loop_ret RK_loop_exit RK_done vs_seq vs_block vs_cond vs_region vs_loop applyW mkD rdIds lentIds callOf calleeOf freeOp D.ids Op.operands Call.operands isEffOp makeIfD makeFuncD typeAssertD conc concs conc1 uOfV panicD IntKind.bits allU2 List.take_of_length_le List.range_succ
attribute [local irreducible] V G H HD HD2 HD4 HD4h RetX RunK Eff CallP CallV EndOK Fun Ret FinOK LoopI LoopW EndW
theorem byte_inf : byteInf Tryz.prog 86 9 = some u8T := by kernel_rfl
theorem write_used (l s : W8) (i j nx : Nat) (hi : i < nx) (hj : j < nx) (hij : i ≠ j) (hlen : l.length + s.length ≤ 140737488355328) :
  RetX Tryz.prog 49 [.ptr i 0, .u (.str s)] [(i, .box [.ptr i 0, .vec j l.length]), (j, .vec u8T 1 (bytesR l))] nx
   (fun r o n => r = .val (.tup [.u (.int .i64 s.length), .u (.oth .nilIface)]) ∧ o = [(i, .box [.ptr i 0, .vec nx (l.length + s.length)]), (nx, .vec u8T 1 (bytesR (l ++ s)))] ∧ n = nx + 1) := by
 have hne := ne_facts hi
 have hne2 := ne_facts hj
 have hcp := fun nx' (h : nx ≤ nx') => copy_used i nx' (by omega) (.vec j l.length)
 have hbi := byte_inf
 have hca : callable Tryz.prog 83 = true := by kernel_rfl
 have hbl := bytesU_len l
 rw [show bytesR (l ++ s) = rowsD (bytesU l ++ bytesU s) by rw [bytesR, bytesU_app]]
 (refine RetX.of_bodyW Tryz.func49 rfl (by simp) fun Γ hn hpan => ?_); simp only [entry, List.zipIdx_cons, List.zipIdx_nil, List.map_cons, List.map_nil, Nat.zero_add, Tryz.ntmps49]
 repeat' (first
  | (refine H_appendS ?_; simp [appendSD, hne, hne2, hij, Ne.symm hij, del, hbi, hbl, hlen])
  | (refine H_cons ?_; simp [hne, hne2, hij, Ne.symm hij, del, hbi, hbl, hlen])
  | (refine H_nil ?_; simp [hne, hne2, hij, Ne.symm hij, del, hbi, hbl, hlen])
  | (refine V_sseq ?_; simp [hne, hne2, hij, Ne.symm hij, del, hbi, hbl, hlen])
  | (refine V_ret ?_; simp only [RunK])
  | (refine CallP.ok1 (hcp _ (by first | omega | (simp; done) | (simp; omega) | fail)) (by first | (simp [hne, hne2, hij, Ne.symm hij, del, hbi, hbl, hlen, getK_cons, getK, getK_append, getK_del]; done) | fail) (by rfl) (by first | assumption | (simp; done) | fail) (by rfl) (by simp) ?_; (try simp [hne, hne2, hij, Ne.symm hij, del, hbi, hbl, hlen]))
  | fail)
 (refine EndW.here ?_; (first | (refine EndOK.fin (.inr rfl) ?_) | (refine EndOK.fin (.inl rfl) ?_)); simp [resD, oneOrTup, Tryz.results49, hne, hne2, hi, hj, hij, Ne.symm hij]; refine FinOK.cut [(i, .box [.ptr i 0, .vec nx (l.length + s.length)]), (nx, .vec u8T 1 (rowsD (bytesU l) ++ rowsD (bytesU s)))] (nx + 1) (by simp [getK_cons, getK, getK_append, getK_del, Ob.under, D.under, under_rowsD, under_entD, hne, hne2, hi, hj, hij, Ne.symm hij] <;> omega) (by simp [D.under]) (by simp [hn]) ?_; try simp)
theorem write_new (s : W8) (i nx : Nat) (hi : i < nx) (hlen : s.length ≤ 140737488355328) :
  RetX Tryz.prog 49 [.ptr i 0, .u (.str s)] [(i, .nw bT)] nx
   (fun r o n => r = .val (.tup [.u (.int .i64 s.length), .u (.oth .nilIface)]) ∧ o = [(i, .box [.ptr i 0, .vec (nx + 1) s.length]), (nx + 1, .vec u8T 1 (bytesR s))] ∧ n = nx + 2) := by
 have hne := ne_facts hi
 have hcp := fun nx' (h : nx ≤ nx') => copy_new i nx' (by omega)
 have hbi := byte_inf
 have hca : callable Tryz.prog 83 = true := by kernel_rfl
 (refine RetX.of_bodyW Tryz.func49 rfl (by simp) fun Γ hn hpan => ?_); simp only [entry, List.zipIdx_cons, List.zipIdx_nil, List.map_cons, List.map_nil, Nat.zero_add, Tryz.ntmps49]
 repeat' (first
  | (refine H_appendS ?_; simp [appendSD, hne, del, hbi, hlen])
  | (refine H_cons ?_; simp [hne, del, hbi, hlen])
  | (refine H_nil ?_; simp [hne, del, hbi, hlen])
  | (refine V_sseq ?_; simp [hne, del, hbi, hlen])
  | (refine V_ret ?_; simp only [RunK])
  | (refine CallP.okL (hcp _ (by first | omega | (simp; done) | (simp; omega) | fail)) (by first | (simp [hne, del, hbi, hlen, getK_cons, getK, getK_append, getK_del, getK_setOb, applyW, del]; done) | fail) (by rfl) (by first | assumption | (simp; done) | fail) (by rfl) (by simp) ?_; (try simp [hne, del, hbi, hlen, delL, del]))
  | fail)
 (refine EndW.here ?_; (first | (refine EndOK.fin (.inr rfl) ?_) | (refine EndOK.fin (.inl rfl) ?_)); simp [resD, oneOrTup, Tryz.results49, hne, hi]; refine FinOK.cut [(i, .box [.ptr i 0, .vec (nx + 1) s.length]), (nx + 1, .vec u8T 1 (bytesR s))] (nx + 2) (by simp [getK_cons, getK, getK_append, getK_del, Ob.under, D.under, under_rowsD, under_entD, hne, hi] <;> omega) (by simp [D.under]) (by simp [hn]) ?_; try simp)
end Go.Proofs.YtkdhmbhbbciedaaGreatDoor
namespace Go.Proofs.YtkdhmbhbbciedaaGreatDoor
open Go Go.VL
attribute [local simp] HS exS_some hcons hstep evPure opd uOf putOK St.put St.at getK binD binI binS binB nilD aggD eqUs cmpK lookD lookR rangeD rangeS Go.VL.nextD Go.VL.nextS entryD keyD valU keyU lookK mkV entD_nil allUE makeMapD mapUpdD mapEff updK valM Key.kk shiftI arith unD convD pickD loadD cellsAt fieldAddrD fieldD indexAddrD indexSlD arrAddr indexD sliceD cutD lenD minmaxD nilCheckD buildD fillD cellsD isOne ones setAll mkAgg allU allocD boxD storeD St.add buildSliceD appendD rowsOf makeD setOb getK_setOb getK_del getK_cons stripL strip guardTmp entry chunks zcells valD argsV argsW argW argU1 argU0 argsU0 argsU1 calleeOf scalarD scalarU delAll effD St.effS RK_seq RK_seq_ret RK_seq_exit RK_blk RK_blk_ret RK_blk_exit RK_loop RK_loop_ret RK_loop_exit RK_done vs_seq vs_block vs_cond vs_region vs_loop applyW mkD rdIds lentIds callOf calleeOf freeOp D.ids Op.operands Call.operands isEffOp makeIfD makeFuncD typeAssertD conc concs conc1 uOfV panicD IntKind.bits allU2 List.take_of_length_le List.range_succ
attribute [local irreducible] V G H HD HD2 HD4 HD4h RetX RunK Eff CallP CallV EndOK Fun Ret FinOK LoopI LoopW EndW
theorem list_ret (l : Code) (hll : l.length ≤ 1000000) (hr : rightC l = true) : RetX Tryz.prog 19 [.u (Vm.inss l)] [] 0 (fun r o n => r = .val (.u (.str (listC l)))) := by
 have hri := cright_fun l hll
 rw [hr] at hri
 have hit := fun i x (h : l[i]? = some x) => right_item hr h
 simp only [Vm.inss] at hri ⊢
 (refine RetX.of_bodyW Tryz.func19 rfl (by simp) fun Γ hn hpan => ?_); simp only [entry, List.zipIdx_cons, List.zipIdx_nil, List.map_cons, List.map_nil, Nat.zero_add, Tryz.ntmps19]
 repeat' (first
  | (refine H_allocN (by first | (simp; done) | fail) (by simp) ?_; simp)
  | (refine H_cons ?_; simp)
  | (refine H_nil ?_; simp)
  | (refine V_sseq ?_; simp)
  | (refine V_scond ?_; simp)
  | (refine V_sblock ?_; simp)
  | (refine V_skip ?_; simp only [RunK])
  | (refine CallP.fun_ (hri) (by first | rfl | fail) (by first | assumption | (simp; done) | fail) (by first | (simp; done) | (simp; rfl) | fail) (by first | (simp; done) | fail) (fun d hd => ?_); subst hd; (try simp))
  | fail)
 refine V_loopO (α := { i : Nat // i ≤ l.length }) [3, 9, 10] (fun i => [(11, .u (.int .i64 i.1))]) (fun i => listO (listC (l.take i.1)) i.1) 2 (fun i => l.length - i.1) ⟨0, by omega⟩ ?_ ?_
 ·simp only [listO, if_pos]
  exact (Wk.cut rfl (by simp [hn, St.lp]) (by simp [wkO, St.lp, getK_cons, getK, Ob.under, D.under, under_rowsD, under_entD]) (by simp [wkU, St.lp, keepE, getK_cons, getK, D.under]) (by simp [wkE, St.lp, keepE, getK_cons, getK] <;> (try (intros; simp_all; done)) <;> (try (intros; omega)) <;> (try grind)))
 rintro ⟨i, hi⟩
 simp [St.lp, St.only, keepE, getK_cons, getK]
 rcases hx : l[i]? with _ | x
 ·have hge : l.length ≤ i := by simpa using hx
  obtain rfl : i = l.length := by omega
  have hne : ¬ l.length = 0 := by
   simp only [rightC, Bool.and_eq_true, decide_eq_true_eq] at hr
   omega
  have hll2 := list_len hr l.length (Nat.le_refl _)
  simp only [List.take_length] at hll2 ⊢
  have hnz : listC l ≠ [] := fun e => by
   cases l with
   | nil => exact hne rfl
   | cons x r => simp [listC, lineC] at e
  have hst := fun nx (h : 2 ≤ nx) => string_ret 0 1 nx (by omega) (by omega) (by decide) (listC l) hnz
  have hca : callable Tryz.prog 51 = true := by kernel_rfl
  simp only [listO, if_neg hne]
  generalize listC l = T at *
  repeat' (first
  | (refine H_cons ?_; simp [hx, hca])
  | (refine H_nil ?_; simp [hx, hca])
  | (refine V_sseq ?_; simp [hx, hca])
  | (refine V_ret ?_; simp only [RunK])
  | (refine V_exit ?_; simp [RunK])
  | (refine CallP.okL (hst _ (by first | omega | (simp; done) | (simp; omega) | fail)) (by first | (simp [hx, hca, getK_cons, getK, getK_append, getK_del, getK_setOb, applyW, del]; done) | fail) (by rfl) (by first | assumption | (simp; done) | fail) (by rfl) (by simp) ?_; (try simp [hx, hca, delL, del]))
  | fail)
  (refine EndW.here ?_; (first | (refine EndOK.fin (.inr rfl) ?_) | (refine EndOK.fin (.inl rfl) ?_)); simp [resD, oneOrTup, Tryz.results19]; refine FinOK.cut [] (2) (by simp [getK_cons, getK, getK_append, getK_del, Ob.under, D.under, under_rowsD, under_entD] <;> omega) (by simp [D.under]) (by simp [hn]) ?_; try simp)
 ·have hlt : i < l.length := (List.getElem?_eq_some_iff.1 hx).1
  have hxe : l[i]'hlt = x := (List.getElem?_eq_some_iff.1 hx).2
  obtain ⟨o0, o1, o2, o3, o4⟩ := hit i x hx
  have hli := line_fun x o0 o1 (by omega) (by omega) (by omega)
  have hca : callable Tryz.prog 49 = true := by kernel_rfl
  have hl1 := list_len hr i hi
  have hl2 := line_len x (hit i x hx)
  have htk := list_take hx
  by_cases h0 : i = 0
  ·subst h0
   have hn0 : ¬ l = [] := fun e => by rw [e] at hx; cases hx
   have hwr := fun nx (h : 2 ≤ nx) => write_new (lineC x) 0 nx (by omega) (by omega)
   simp only [listO, if_pos]
   repeat' (first
  | (refine H_cons ?_; simp [hx, hca, hxe, hn0])
  | (refine H_nil ?_; simp [hx, hca, hxe, hn0])
  | (refine V_sseq ?_; simp [hx, hca, hxe, hn0])
  | (refine V_sregion ?_; simp [hx, hca, hxe, hn0])
  | (refine V_skip ?_; simp only [RunK])
  | (intro hc <;> (try (exfalso; omega)))
  | (refine CallP.fun_ (hli) (by first | rfl | fail) (by first | assumption | (simp; done) | fail) (by first | (simp [hx, hca, hxe, hn0]; done) | (simp [hx, hca, hxe, hn0]; rfl) | fail) (by first | (simp; done) | fail) (fun d hd => ?_); subst hd; (try simp [hx, hca, hxe, hn0]))
  | (refine CallP.okL (hwr _ (by first | omega | (simp; done) | (simp; omega) | fail)) (by first | (simp [hx, hca, hxe, hn0, getK_cons, getK, getK_append, getK_del, getK_setOb, applyW, del]; done) | fail) (by rfl) (by first | assumption | (simp; done) | fail) (by rfl) (by simp) ?_; (try simp [hx, hca, hxe, hn0, delL, del]))
  | fail)
   refine LoopW.next ⟨1, by omega⟩ (by simp; omega) ?_
   have e1 : listC (l.take 1) = lineC x := by rw [htk]; simp [listC]
   simp only [listO, e1, if_neg (show ¬ (1 : Nat) = 0 by decide)]
   exact (Wk.ren ((fun x => if x = 1 then 4 else x)) rfl (by first | (simp [hn]; done) | (intro i hi; rw [hn] at hi; constructor <;> (try simp) <;> (try (intro _)) <;> omega)) (by simp [wkER, St.lp, keepE, getK_cons, getK, getK_del, getK_setOb, D.under, D.le, D.ren] <;> (try (intros; simp_all; done)) <;> (try omega)) (by simp [wkR, St.lp, getK_cons, getK, getK_del, getK_setOb, obR, leU, pureRow, pureRows, Ob.under, D.under, D.le, D.ren] <;> (try (intros; simp_all; done)) <;> (try omega)) (by simp))
  ·have hwr := fun nx (h : 2 ≤ nx) => write_used (listC (l.take i)) (lineC x) 0 1 nx (by omega) (by omega) (by decide) (by omega)
   simp only [listO, if_neg h0]
   repeat' (first
  | (refine H_cons ?_; simp [hx, hca, hxe])
  | (refine H_nil ?_; simp [hx, hca, hxe])
  | (refine ⟨by omega, ?_⟩)
  | (refine V_sseq ?_; simp [hx, hca, hxe])
  | (refine V_sregion ?_; simp [hx, hca, hxe])
  | (refine V_skip ?_; simp only [RunK])
  | (refine ⟨?_, by omega⟩)
  | (intro hc <;> (try (exfalso; omega)))
  | (refine CallP.fun_ (hli) (by first | rfl | fail) (by first | assumption | (simp; done) | fail) (by first | (simp [hx, hca, hxe]; done) | (simp [hx, hca, hxe]; rfl) | fail) (by first | (simp; done) | fail) (fun d hd => ?_); subst hd; (try simp [hx, hca, hxe]))
  | (refine CallP.okL (hwr _ (by first | omega | (simp; done) | (simp; omega) | fail)) (by first | (simp [hx, hca, hxe, getK_cons, getK, getK_append, getK_del, getK_setOb, applyW, del]; done) | fail) (by rfl) (by first | assumption | (simp; done) | fail) (by rfl) (by simp) ?_; (try simp [hx, hca, hxe, delL, del]))
  | fail)
   refine LoopW.next ⟨i + 1, by omega⟩ (by simp; omega) ?_
   simp only [listO, htk, List.length_append, if_neg (show ¬ i + 1 = 0 by omega)]
   exact (Wk.ren ((fun x => if x = 1 then 3 else x)) rfl (by first | (simp [hn]; done) | (intro i hi; rw [hn] at hi; constructor <;> (try simp) <;> (try (intro _)) <;> omega)) (by simp [wkER, St.lp, keepE, getK_cons, getK, getK_del, getK_setOb, D.under, D.le, D.ren] <;> (try (intros; simp_all; done)) <;> (try omega)) (by simp [wkR, St.lp, getK_cons, getK, getK_del, getK_setOb, obR, leU, pureRow, pureRows, Ob.under, D.under, D.le, D.ren] <;> (try (intros; simp_all; done)) <;> (try omega)) (by simp))
/-- What List returns. -/
def listB (l : Code) : List UInt8 := if rightC l = true then listC l else []
theorem list_fun (l : Code) (hll : l.length ≤ 1000000) : Fun Tryz.prog 19 [.u (Vm.inss l)] (· = .u (.str (listB l))) := by
 cases hb : rightC l with
 | true =>
  unfold Fun
  exact (list_ret l hll hb).ret (fun d o n h => by
   cases h
   exact ⟨by simp [pureD], by simp [listB, hb]⟩) (fun ch o n h => by cases h)
 | false =>
  have hri := cright_fun l hll
  rw [hb] at hri
  have hp : listB l = [] := by unfold listB; rw [if_neg (by simp [hb])]
  rw [hp]
  simp only [Vm.inss] at hri ⊢
  (refine Fun.of_body Tryz.func19 rfl (by simp) fun Γ hn => ?_); simp only [entry, List.zipIdx_cons, List.zipIdx_nil, List.map_cons, List.map_nil, Nat.zero_add, Tryz.ntmps19]
  repeat' (first
  | (refine H_cons ?_; simp)
  | (refine H_nil ?_; simp)
  | (refine V_sseq ?_; simp)
  | (refine V_scond ?_; simp)
  | (refine V_ret ?_; simp only [RunK])
  | (refine CallP.fun_ (hri) (by first | rfl | fail) (by first | assumption | (simp; done) | fail) (by first | (simp; done) | (simp; rfl) | fail) (by first | (simp; done) | fail) (fun d hd => ?_); subst hd; (try simp))
  | fail)
  (refine EndOK.val (.inr rfl) ?_; simp [resD, oneOrTup, pureD, Tryz.results19])
end Go.Proofs.YtkdhmbhbbciedaaGreatDoor
namespace Go.Proofs.YtkdhmbhbbciedaaGreatDoor
open Go Go.VL
attribute [local simp] HS exS_some hcons hstep evPure opd uOf putOK St.put St.at getK binD binI binS binB nilD aggD eqUs cmpK lookD lookR rangeD rangeS Go.VL.nextD Go.VL.nextS entryD keyD valU keyU lookK mkV entD_nil allUE makeMapD mapUpdD mapEff updK valM Key.kk shiftI arith unD convD pickD loadD cellsAt fieldAddrD fieldD indexAddrD indexSlD arrAddr indexD sliceD cutD lenD minmaxD nilCheckD buildD fillD cellsD isOne ones setAll mkAgg allU allocD boxD storeD St.add buildSliceD appendD rowsOf makeD setOb getK_setOb getK_del getK_cons stripL strip guardTmp entry chunks zcells valD argsV argsW argW argU1 argU0 argsU0 argsU1 calleeOf scalarD scalarU delAll effD St.effS RK_seq RK_seq_ret RK_seq_exit RK_blk RK_blk_ret RK_blk_exit RK_loop RK_loop_ret RK_loop_exit RK_done vs_seq vs_block vs_cond vs_region vs_loop applyW mkD rdIds lentIds callOf calleeOf freeOp D.ids Op.operands Call.operands isEffOp makeIfD makeFuncD typeAssertD conc concs conc1 uOfV panicD IntKind.bits allU2 List.take_of_length_le List.range_succ HR_nil HR_cons HR_grd v2_seq v2_block v2_skip v2_exit v2_ret v2_cond v2_region v2_draw v2_loop RN_0 RN_done RN_seq RN_seq_ret RN_seq_exit RN_blk RN_blk_ret RN_blk_exit RN_loop RN_loop_ret RN_loop_exit Cnd_tf Cnd_ft EndV getK_append frzN frz1 frz_env frz_obs St.frz St.frzS frzS fv fzVec fzMap fzBox frzObS frz_entD frz_rowsD frz frzOb normD normU norm1 normOb St.norm St.lp St.only keepE wkE wkO wkU Ob.under D.under under_rowsD under_entD H4_nil H4_cons H4_grd h4s resD oneOrTup pureD List.zipIdx_cons List.zipIdx_nil List.map_cons List.map_nil Nat.zero_add
attribute [local irreducible] V G H HD HD2 HD4 HD4h RetX RunK Eff CallP CallV EndOK Fun Ret FinOK LoopI LoopW EndW HR vs2 RN Cnd H4
theorem bad_fun (l : Let) : Fun Tryz.prog 33 (lagg l :: [].map .u) (· = .u (.bool (!rightB 12 l.body))) := by
 have h1 := rightExp_fun l.body
 simp only [lagg, List.map_nil, eagg] at h1 ⊢
 refine Fun.run Tryz.func33 Tryz.ntmps33 Tryz.results33 rfl (by simp) fun Γ hn => ?_
 repeat' (first
  | (refine V_run rfl ?_; simp)
  | (refine CallP.f2 rfl (h1) (by first | simp <;> rfl | fail) ?_; simp)
  | fail)
 (refine Pst.of ?_; simp)
theorem compile_fun (lets : List Let) (e : Exp) : Fun Tryz.prog 12 [.u (letsU lets), eagg e] (· = .tup [.u (Vm.inss (compP lets e).1), .u (.int .i64 (compP lets e).2)]) := by
 have h1 := rightExp_fun e
 have h2 := containsL_fun lets 33 [] _ (fun x _ => bad_fun x) (by simp) (fun _ => rfl) (fun _ => rfl)
 simp only [List.map_nil, letsU, eagg] at h1 h2
 by_cases hra : rightAll lets e = true
 case neg =>
  have hcp : compP lets e = ([], 1) := by unfold compP; rw [if_neg hra]
  rw [hcp]
  unfold rightAll at hra
  generalize rightB 12 e = x1 at *
  generalize (lets.any fun l => !rightB 12 l.body) = x2 at *
  simp only [letsU, eagg, Vm.inss]
  refine Fun.runW Tryz.func12 Tryz.ntmps12 rfl (by simp) fun Γ hn => ?_
  repeat' (first
  | (refine Cnd.of (fun hc => ?_) (fun hc => ?_) <;> (try (exfalso; omega)) <;> (try simp))
  | (refine V_run rfl ?_; simp)
  | ((first | refine CallP.f2 rfl (h1) (by first | simp <;> rfl | fail) ?_ | refine CallP.f2 rfl (h2) (by first | simp <;> rfl | fail) ?_ | fail); simp)
  | fail)
  all_goals first
   | (refine EndW.norm (EndW.here ?_); (refine EndOK.val (.inr rfl) ?_; simp [Tryz.results12]); done)
   | (exfalso; apply hra; simp_all; done)
   | (exfalso; apply hra; simp_all; omega)
 obtain ⟨r1, r2, r3⟩ := rights_out hra
 have r4 : (lets.any fun l => !rightB 12 l.body) = false := by
  rw [List.any_eq_false]
  intro l hl
  simp [r3 l hl]
 rw [r2] at h1
 rw [r4] at h2
 have r1' : ¬ (20 : Int) < lets.length := by omega
 have hL := shsL_len (lets := lets) (n := lets.length) (Nat.le_refl _)
 have a1 := exp_all r3 r1 1 lets.length (Nat.le_refl _) 12 (by omega) e r2 [] 3 4 (by omega) (by omega) (by omega) (by simp)
 have hcl : compP lets e = if 2000 ≤ (compL lets e).length then ([], 6) else (compL lets e ++ [⟨14, 0, []⟩], 0) := by unfold compP; rw [if_pos hra]
 rw [hcl]
 have hcc : genT (nmC lets (shF lets) lets.length) (shF lets lets.length) e [] = compL lets e := rfl
 have hcap : (compL lets e).length ≤ 2001 := genT_cap (nmC_cap lets.length) e [] (by simp)
 rw [hcc] at a1
 generalize compL lets e = L at *
 have a2 := full_fun (letsU lets) (boolsU (shsL lets lets.length)) L
 have e1 := allU2_insR L
 have e2 := insR_take L
 have e3 := insR_len L
 have a3 := put_x lets (shsL lets lets.length) L ⟨14, 0, []⟩ 1 4 5 (by omega) (by omega) (by omega) (by omega)
 have htk : List.take lets.length ((shsL lets lets.length).map fun b => [U.bool b]) = (shsL lets lets.length).map fun b => [U.bool b] := by
  exact List.take_of_length_le (by simp [hL])
 have hpL : putC L ⟨14, 0, []⟩ = if 2000 ≤ L.length then putC L ⟨14, 0, []⟩ else L ++ [⟨14, 0, []⟩] := by
  split
  ·rfl
  ·unfold putC; rw [if_pos (by omega)]
 by_cases hf : 2000 ≤ L.length
 ·rw [if_pos hf]
  have hf2 : (decide (2000 ≤ L.length)) = true := by simpa using hf
  rw [hf2] at a2
  simp only [letsU, eagg, Vm.inss, boolsU] at a1 a2 ⊢
  refine Fun.runW Tryz.func12 Tryz.ntmps12 rfl (by simp) fun Γ hn => ?_
  repeat' (first
  | (refine V_run rfl ?_; simp [r1'])
  | ((first | refine CallP.f2 rfl (h1) (by first | simp [r1'] <;> rfl | fail) ?_ | refine CallP.f2 rfl (h2) (by first | simp [r1'] <;> rfl | fail) ?_ | fail); simp [r1'])
  | fail)
  refine V_wk _ (Wk.ownC 1 _ 1 4 1 (by decide) rfl rfl) ?_
  simp [St.ownC]
  refine V_wk _ (Wk.ownC 1 _ 2 44 3 (by decide) rfl rfl) ?_
  simp [St.ownC]
  refine V_loopO (α := { i : Nat // i ≤ lets.length }) [0, 3, 7, 26, 27] (fun i => [(28, .u (.int .i64 i.1))])
   (fun i => [(0, .box [.u (.int .i64 e.op), .u (.int .i64 e.n), .u (.int .i64 e.unit), .u (.str e.s), .u (.sl (e.args.map Exp.row))]), (1, .box [.u (.sl (lets.map fun l => [.str l.name, .int .i64 l.body.op, .int .i64 l.body.n, .int .i64 l.body.unit, .str l.body.s, .sl (l.body.args.map Exp.row)])), .vec 2 i.1, .vec 3 0]), (2, .vec 4 1 (boolR' (shsL lets i.1))), (3, kOb [])]) 4 (fun i => lets.length - i.1) ⟨0, by omega⟩ ?_ ?_
  ·exact (Wk.cut2 (by simp [hn, shsL, boolR', kOb, insR] <;> grind))
  rintro ⟨i, hi⟩
  simp
  by_cases hil : i < lets.length
  case pos =>
   have hx : lets[i]? = some lets[i] := List.getElem?_eq_getElem hil
   have hsl := shsL_len (lets := lets) (n := i) (by omega)
   have h5 := share_fun' lets (shsL lets i) (.sl []) i (by omega) (by omega) (by omega) 12 _ (r3 _ (List.mem_of_getElem? hx))
   have hsucc : shsL lets (i + 1) = shsL lets i ++ [shareS (nmS lets (shsL lets i) i) (lets[i]).body] := by
    rw [shsL, hx]
    simp only
    rw [show nmS lets (shsL lets i) i = sF (mOf [] (lets.take i)) from funext fun s => nmS_eq (by omega) (Nat.le_refl _) s]
   have hp := pure_boolR' (shsL lets (i + 1))
   have hss : boolR' (shsL lets (i + 1)) = boolR' (shsL lets (i + 1)) := rfl
   conv at hss => rhs; rw [hsucc]
   rw [hsucc] at hp
   generalize shareS (nmS lets (shsL lets i) i) (lets[i]).body = b at *
   generalize lets[i] = l at *
   have hb1 := allU2_boolR (shsL lets i)
   have hb2 := boolR_take (shsL lets i)
   rw [hsl] at hb2
   have hb3 : (boolR' (shsL lets i)).length = i := by simp [boolR', hsl]
   have hb4 := boolR_lenR (shsL lets i)
   have hb5 : boolR' (shsL lets i ++ [b]) = boolR' (shsL lets i) ++ [[.u (.bool b)]] := by simp [boolR']
   rw [hb5] at hp hss
   clear hsucc hb5
   generalize boolR' (shsL lets i) = R at *
   simp only [eagg, letsU, boolsU] at h5
   repeat' (first
  | (refine Cnd.of (fun hc => ?_) (fun hc => ?_) <;> (try (exfalso; omega)) <;> (try simp [hx, hb1, hb2, hb3, hb4, kOb, insR]))
  | (refine V_run rfl ?_; simp [hx, hb1, hb2, hb3, hb4, kOb, insR])
  | (refine And.intro (by omega) ?_)
  | (refine ⟨hC _ (by kernel_rfl), hk _ (RN_K 8 _ _ _ ?_)⟩; clear hC hk C k; simp [hx, hb1, hb2, hb3, hb4, kOb, insR])
  | (refine V_dx rfl (by kernel_rfl) (by first | (simp [hn]; done) | (simp [hn]; omega) | fail) fun C k hC hk => ?_; simp [hx, hb1, hb2, hb3, hb4, kOb, insR])
  | (refine H4_HD4 rfl ?_; simp [hx, hb1, hb2, hb3, hb4, kOb, insR])
  | (refine HD4_val rfl ?_; simp [hx, hb1, hb2, hb3, hb4, kOb, insR])
  | (refine CallV.f2 rfl (h5) (by first | simp [hx, hb1, hb2, hb3, hb4, kOb, insR] <;> rfl | fail) ?_; simp [hx, hb1, hb2, hb3, hb4, kOb, insR])
  | fail)
   refine LoopW.next ⟨i + 1, by omega⟩ (by simp; omega) ?_
   exact (Wk.ren ((fun j => if j = 2 then 6 else j)) rfl (by first | (simp [hn]; done) | (intro i hi; rw [hn] at hi; constructor <;> (try simp) <;> (try (intro _)) <;> omega)) (by simp [wkER, St.lp, keepE, getK_cons, getK, getK_del, getK_setOb, D.under, D.le, D.ren, hss, hp, kOb, insR] <;> (try (intros; simp_all; done)) <;> (try omega)) (by simp [wkR, St.lp, getK_cons, getK, getK_del, getK_setOb, obR, leU, pureRow, pureRows, Ob.under, D.under, D.le, D.ren, hss, hp, kOb, insR] <;> (try (intros; simp_all; done)) <;> (try omega)) (by simp [hss, hp, kOb, insR]))
  obtain rfl : i = lets.length := by omega
  refine V_wk _ (Wk.frz (e := 4) (sz := 1) 2 [1] (us := (shsL lets lets.length).map fun b => [U.bool b]) (by simp [getK_cons]) (allU2_boolR _)) ?_
  simp [St.frz, St.frzS, frzS, fv, fzVec, frzObS, del, hL, htk]
  repeat' (first
  | (refine V_run rfl ?_; simp [kOb, cOb, letsU, boolsU, e1, e2, e3])
  | (refine CallP.f2 rfl (a2) (by first | simp [kOb, cOb, letsU, boolsU, e1, e2, e3] <;> rfl | fail) ?_; simp [kOb, cOb, letsU, boolsU, e1, e2, e3])
  | (refine CallP.okL (a1) (by first | (simp [kOb, cOb, letsU, boolsU, e1, e2, e3, getK_cons, getK, getK_append, getK_del, getK_setOb, applyW, del]; done) | fail) (by rfl) (by first | assumption | (simp; done) | fail) (by rfl) (by simp) ?_; (try simp [kOb, cOb, letsU, boolsU, e1, e2, e3, delL, del]))
  | fail)
  refine EndW.norm (EndW.here ?_)
  (refine EndOK.val (.inr rfl) ?_; simp [Tryz.results12])
 ·rw [if_neg hf]
  have hf2 : (decide (2000 ≤ L.length)) = false := by simpa using hf
  rw [hf2] at a2
  rw [hpL, if_neg hf] at a3
  have g1 := allU2_insR (L ++ [⟨14, 0, []⟩])
  simp only [letsU, eagg, Vm.inss, boolsU] at a1 a2 a3 ⊢
  refine Fun.runW Tryz.func12 Tryz.ntmps12 rfl (by simp) fun Γ hn => ?_
  repeat' (first
  | (refine V_run rfl ?_; simp [r1'])
  | ((first | refine CallP.f2 rfl (h1) (by first | simp [r1'] <;> rfl | fail) ?_ | refine CallP.f2 rfl (h2) (by first | simp [r1'] <;> rfl | fail) ?_ | fail); simp [r1'])
  | fail)
  refine V_wk _ (Wk.ownC 1 _ 1 4 1 (by decide) rfl rfl) ?_
  simp [St.ownC]
  refine V_wk _ (Wk.ownC 1 _ 2 44 3 (by decide) rfl rfl) ?_
  simp [St.ownC]
  refine V_loopO (α := { i : Nat // i ≤ lets.length }) [0, 3, 7, 26, 27] (fun i => [(28, .u (.int .i64 i.1))])
   (fun i => [(0, .box [.u (.int .i64 e.op), .u (.int .i64 e.n), .u (.int .i64 e.unit), .u (.str e.s), .u (.sl (e.args.map Exp.row))]), (1, .box [.u (.sl (lets.map fun l => [.str l.name, .int .i64 l.body.op, .int .i64 l.body.n, .int .i64 l.body.unit, .str l.body.s, .sl (l.body.args.map Exp.row)])), .vec 2 i.1, .vec 3 0]), (2, .vec 4 1 (boolR' (shsL lets i.1))), (3, kOb [])]) 4 (fun i => lets.length - i.1) ⟨0, by omega⟩ ?_ ?_
  ·exact (Wk.cut2 (by simp [hn, shsL, boolR', kOb, insR] <;> grind))
  rintro ⟨i, hi⟩
  simp
  by_cases hil : i < lets.length
  case pos =>
   have hx : lets[i]? = some lets[i] := List.getElem?_eq_getElem hil
   have hsl := shsL_len (lets := lets) (n := i) (by omega)
   have h5 := share_fun' lets (shsL lets i) (.sl []) i (by omega) (by omega) (by omega) 12 _ (r3 _ (List.mem_of_getElem? hx))
   have hsucc : shsL lets (i + 1) = shsL lets i ++ [shareS (nmS lets (shsL lets i) i) (lets[i]).body] := by
    rw [shsL, hx]
    simp only
    rw [show nmS lets (shsL lets i) i = sF (mOf [] (lets.take i)) from funext fun s => nmS_eq (by omega) (Nat.le_refl _) s]
   have hp := pure_boolR' (shsL lets (i + 1))
   have hss : boolR' (shsL lets (i + 1)) = boolR' (shsL lets (i + 1)) := rfl
   conv at hss => rhs; rw [hsucc]
   rw [hsucc] at hp
   generalize shareS (nmS lets (shsL lets i) i) (lets[i]).body = b at *
   generalize lets[i] = l at *
   have hb1 := allU2_boolR (shsL lets i)
   have hb2 := boolR_take (shsL lets i)
   rw [hsl] at hb2
   have hb3 : (boolR' (shsL lets i)).length = i := by simp [boolR', hsl]
   have hb4 := boolR_lenR (shsL lets i)
   have hb5 : boolR' (shsL lets i ++ [b]) = boolR' (shsL lets i) ++ [[.u (.bool b)]] := by simp [boolR']
   rw [hb5] at hp hss
   clear hsucc hb5
   generalize boolR' (shsL lets i) = R at *
   simp only [eagg, letsU, boolsU] at h5
   repeat' (first
  | (refine Cnd.of (fun hc => ?_) (fun hc => ?_) <;> (try (exfalso; omega)) <;> (try simp [hx, hb1, hb2, hb3, hb4, kOb, insR]))
  | (refine V_run rfl ?_; simp [hx, hb1, hb2, hb3, hb4, kOb, insR])
  | (refine And.intro (by omega) ?_)
  | (refine ⟨hC _ (by kernel_rfl), hk _ (RN_K 8 _ _ _ ?_)⟩; clear hC hk C k; simp [hx, hb1, hb2, hb3, hb4, kOb, insR])
  | (refine V_dx rfl (by kernel_rfl) (by first | (simp [hn]; done) | (simp [hn]; omega) | fail) fun C k hC hk => ?_; simp [hx, hb1, hb2, hb3, hb4, kOb, insR])
  | (refine H4_HD4 rfl ?_; simp [hx, hb1, hb2, hb3, hb4, kOb, insR])
  | (refine HD4_val rfl ?_; simp [hx, hb1, hb2, hb3, hb4, kOb, insR])
  | (refine CallV.f2 rfl (h5) (by first | simp [hx, hb1, hb2, hb3, hb4, kOb, insR] <;> rfl | fail) ?_; simp [hx, hb1, hb2, hb3, hb4, kOb, insR])
  | fail)
   refine LoopW.next ⟨i + 1, by omega⟩ (by simp; omega) ?_
   exact (Wk.ren ((fun j => if j = 2 then 6 else j)) rfl (by first | (simp [hn]; done) | (intro i hi; rw [hn] at hi; constructor <;> (try simp) <;> (try (intro _)) <;> omega)) (by simp [wkER, St.lp, keepE, getK_cons, getK, getK_del, getK_setOb, D.under, D.le, D.ren, hss, hp, kOb, insR] <;> (try (intros; simp_all; done)) <;> (try omega)) (by simp [wkR, St.lp, getK_cons, getK, getK_del, getK_setOb, obR, leU, pureRow, pureRows, Ob.under, D.under, D.le, D.ren, hss, hp, kOb, insR] <;> (try (intros; simp_all; done)) <;> (try omega)) (by simp [hss, hp, kOb, insR]))
  obtain rfl : i = lets.length := by omega
  refine V_wk _ (Wk.frz (e := 4) (sz := 1) 2 [1] (us := (shsL lets lets.length).map fun b => [U.bool b]) (by simp [getK_cons]) (allU2_boolR _)) ?_
  simp [St.frz, St.frzS, frzS, fv, fzVec, frzObS, del, hL, htk]
  repeat' (first
  | (refine V_run rfl ?_; simp [kOb, cOb, letsU, boolsU, e1, e2, e3])
  | (refine CallP.f2 rfl (a2) (by first | simp [kOb, cOb, letsU, boolsU, e1, e2, e3] <;> rfl | fail) ?_; simp [kOb, cOb, letsU, boolsU, e1, e2, e3])
  | (refine CallP.okL (a1) (by first | (simp [kOb, cOb, letsU, boolsU, e1, e2, e3, getK_cons, getK, getK_append, getK_del, getK_setOb, applyW, del]; done) | fail) (by rfl) (by first | assumption | (simp; done) | fail) (by rfl) (by simp) ?_; (try simp [kOb, cOb, letsU, boolsU, e1, e2, e3, delL, del]))
  | (refine CallP.okL (a3) (by first | (simp [kOb, cOb, letsU, boolsU, e1, e2, e3, getK_cons, getK, getK_append, getK_del, getK_setOb, applyW, del]; done) | fail) (by rfl) (by first | assumption | (simp; done) | fail) (by rfl) (by simp) ?_; (try simp [kOb, cOb, letsU, boolsU, e1, e2, e3, delL, del]))
  | fail)
  refine EndW.wk _ (Wk.frz (e := 44) (sz := 3) 5 [1] (us := (L ++ [⟨14, 0, []⟩] : Code).map fun i => [U.int .i64 i.op, .int .i64 i.a, .str i.s]) (rows := insR (L ++ [⟨14, 0, []⟩])) (by simp [getK_cons, insR]) g1) ?_
  simp [St.frz, St.frzS, frzS, fv, fzVec, frzObS, del]
  refine EndW.norm (EndW.here ?_)
  (refine EndOK.val (.inr rfl) ?_; simp [Tryz.results12])
end Go.Proofs.YtkdhmbhbbciedaaGreatDoor
namespace Go.Proofs.YtkdhmbhbbciedaaGreatDoor
open Go Go.VL Go.Shelf Go.RowKit
attribute [local simp] HS exS_some hcons hstep evPure opd uOf putOK St.put St.at getK binD binI binS binB nilD aggD eqUs cmpK lookD lookR rangeD rangeS Go.VL.nextD Go.VL.nextS entryD keyD valU keyU lookK mkV entD_nil allUE makeMapD mapUpdD mapEff updK valM Key.kk shiftI arith unD convD pickD loadD cellsAt fieldAddrD fieldD indexAddrD indexSlD arrAddr indexD sliceD cutD lenD minmaxD nilCheckD buildD fillD cellsD isOne ones setAll mkAgg allU allocD boxD storeD St.add buildSliceD appendD rowsOf makeD setOb getK_setOb getK_del getK_cons stripL strip guardTmp entry chunks zcells valD argsV argsW argW argU1 argU0 argsU0 argsU1 calleeOf scalarD scalarU delAll effD St.effS RK_seq RK_seq_ret RK_seq_exit RK_blk RK_blk_ret RK_blk_exit RK_loop RK_loop_ret RK_loop_exit RK_done vs_seq vs_block vs_cond vs_region vs_loop applyW mkD rdIds lentIds callOf calleeOf freeOp D.ids Op.operands Call.operands isEffOp makeIfD makeFuncD typeAssertD conc concs conc1 uOfV panicD IntKind.bits allU2 List.take_of_length_le List.range_succ HR_nil HR_cons HR_grd v2_seq v2_block v2_skip v2_exit v2_ret v2_cond v2_region v2_draw v2_loop RN_0 RN_done RN_seq RN_seq_ret RN_seq_exit RN_blk RN_blk_ret RN_blk_exit RN_loop RN_loop_ret RN_loop_exit Cnd_tf Cnd_ft EndV getK_append frzN frz1 frz_env frz_obs St.frz St.frzS frzS fv fzVec fzMap fzBox frzObS frz_entD frz_rowsD frz frzOb normD normU norm1 normOb St.norm St.lp St.only keepE wkE wkO wkU Ob.under D.under under_rowsD under_entD H4_nil H4_cons H4_grd h4s resD oneOrTup pureD List.zipIdx_cons List.zipIdx_nil List.map_cons List.map_nil Nat.zero_add
attribute [local irreducible] V G H HD HD2 HD4 HD4h RetX RunK Eff CallP CallV EndOK Fun Ret FinOK LoopI LoopW EndW HR vs2 RN Cnd H4
attribute [local simp] RR_done RR_seq RR_seq_exit RR_blk RR_blk_exit
theorem read_ret (s : W8) (hl : s.length ≤ 900000) : RetX Tryz.prog 14 [.u (.str s)] [] 0
  (fun r o n => match r with | .val d => pureD d = true ∧ d = .tup [.u (Vm.inss (readB s).1), .u (.int .i64 (readB s).2)] | .pan _ => False) := by
 have htl := trim_len s
 have h1 := trim_fun s (by omega)
 have h2 := splitSeq_ret (trimN s) 10
 have hca : callable Tryz.prog 41 = true := by kernel_rfl
 have hLl : (parseL s).length = (pieces 10 (trimN s)).length := by simp [parseL]
 have hLn := pieces_num (c := 10) (trimN s)
 have hL : ∀ (i : Nat) (t : W8), (pieces 10 (trimN s))[i]? = some t → (parseL s)[i]? = some (insP t) ∧ t.length ≤ 900000 := fun i t h => ⟨by simp [parseL, h], by
  have := pieces_len (c := 10) (trimN s) t (List.mem_of_getElem? h)
  omega⟩
 have h3 := cright_fun (parseL s) (by omega)
 have h4 := list_fun (parseL s) (by omega)
 have hrb : readB s = if rightC (parseL s) = true ∧ listB (parseL s) = s then (parseL s, 0) else ([], 2) := by
  unfold readB listB
  by_cases hr : rightC (parseL s) = true
  ·simp [hr]
  ·simp [hr]
 have hit := split_iter 10 (trimN s) (by omega)
 have e1 := allU2_insR
 have e3 := insR_len
 rw [hrb]
 generalize parseL s = L at *
 refine RetX.of_bodyM Tryz.func14 Tryz.ntmps14 rfl (by simp) fun Γ hn hdfr hpan hesc => ?_; simp only [entry, List.zipIdx_cons, List.zipIdx_nil, List.map_cons, List.map_nil, Nat.zero_add]
 rw [hold_range]
 repeat' (first
  | (refine V_runH rfl ?_; simp)
  | fail)
 refine V_range ?_
 repeat' (first
  | (refine V_runH rfl ?_; simp [hca])
  | (refine CallP.f2 rfl (h1) (by first | simp [hca] <;> rfl | fail) ?_; simp [hca])
  | (refine CallP.ret0 (h2) (by rfl) (by first | assumption | simp) (by rfl) (by simp) ?_; rintro d o n' hn' ⟨rfl, rfl, rfl⟩; (try simp at hn'); (try simp [hca]))
  | fail)
 refine RangeOK.wk _ (Wk.ownC 0 _ 0 44 3 (by decide) rfl rfl) ?_
 simp [St.ownC]
 refine RangeOK.of (readO L) (fun i => i + 5) hesc hdfr rfl (by kernel_rfl) hit ?_ ?_ rfl (by simp) (by simp) ?_ ?_
 ·intro i j ob h
  simp only [splitO, getK_cons, getK] at h
  simp only [readO, getK_cons, getK]
  grind
 ·intro i
  simp only [splitO, readO, getK_cons, getK, List.cons_append, List.nil_append, insR, List.take_zero, List.map_nil]
  grind
 ·intro i x hx Γ1 r hn hpan1
  rw [List.getElem?_map] at hx
  obtain ⟨t, ht, rfl⟩ := Option.map_eq_some_iff.1 hx
  obtain ⟨hLi, htl2⟩ := hL i t ht
  have htk : insR (L.take (i + 1)) = insR (L.take i) ++ [[.u (.int .i64 (insP t).op), .u (.int .i64 (insP t).a), .u (.str (insP t).s)]] := by
   rw [List.take_add_one, hLi]
   simp [insR]
  have hil : (insR (L.take i)).length = i := by
   have := (List.getElem?_eq_some_iff.1 hLi).1
   rw [insR_len, List.length_take]
   omega
  have hib : i ≤ 900000 := by
   have := (List.getElem?_eq_some_iff.1 ht).1
   omega
  have hlr := insR_lenR (L.take i)
  have hpu := pure_insR (L.take i)
  clear hrb h1 h2 h3 h4 hit hesc hpan
  generalize hRO : readO L (i + 1) = RO
  rw [readO, htk] at hRO
  rw [show readO L i = [(0, .box [.vec (i + 4) i]), (i + 4, .vec 44 3 (insR (L.take i)))] from rfl]
  generalize insR (L.take i) = R at *
  refine VR_run hpan1 (by rfl) ?_
  simp
  intro Γ2 hn hpan2
  have hcu := cut_fun t 32 (by omega)
  have hgw := glob_words
  have hpa : arr1 Tryz.prog 76 = some 15 := by kernel_rfl
  have hwl : wordsL.length = 15 := rfl
  obtain ⟨w, r, b, hcu2, hins, hrl⟩ := cutU_eq t
  rw [hcu2] at hcu
  have hix := indexS_fun wordsL w
  have hat := atoi_fun r (by omega)
  simp only [strs] at hix
  refine VR_run hpan2 (by rfl) ?_
  by_cases h1 : idxS wordsL w 0 = 1
  ·rw [if_pos h1] at hins
   rw [hins] at hRO
   rw [h1] at hix
   clear hins hcu2 htk hL e1 e3
   simp
   repeat' (first
  | (refine And.intro (by omega) ?_)
  | ((first | refine CallP.f2 rfl (hcu) (by first | simp [hgw, hpa, hwl, hil] <;> rfl | fail) ?_ | refine CallP.f2 rfl (hix) (by first | simp [hgw, hpa, hwl, hil] <;> rfl | fail) ?_ | fail); simp [hgw, hpa, hwl, hil])
  | fail)
   refine ⟨{ n := 49, env := [], obs := RO, next := i + 1 + 5 }, ?_, rfl, rfl⟩
   rw [← hRO]
   exact (Wk.ren ((fun x => if x = i + 5 then i + 5 + 1 + 1 else x)) rfl (by first | (simp [hn]; done) | (intro i hi; rw [hn] at hi; constructor <;> (try simp) <;> (try (intro _)) <;> omega)) (by simp [wkER, St.lp, keepE, getK_cons, getK, getK_del, getK_setOb, D.under, D.le, D.ren, hpu, hil, hlr] <;> (try (intros; simp_all; done)) <;> (try omega)) (by simp [wkR, St.lp, getK_cons, getK, getK_del, getK_setOb, obR, leU, pureRow, pureRows, Ob.under, D.under, D.le, D.ren, hpu, hil, hlr] <;> (try (intros; simp_all; done)) <;> (try omega)) (by simp [hpu, hil, hlr]))
  ·rw [if_neg h1] at hins
   rw [hins] at hRO
   clear hins hcu2 htk hL e1 e3
   generalize idxS wordsL w 0 = op at *
   generalize atoiV r = av at *
   simp
   repeat' (first
  | (refine CallP.fun_ (hat) (by first | rfl | fail) (by first | assumption | (simp; done) | fail) (by first | (simp; done) | (simp; rfl) | fail) (by first | (simp; done) | fail) (fun d hd => ?_); obtain ⟨b', rfl⟩ := hd; (try simp))
  | (refine And.intro (by omega) ?_)
  | ((first | refine CallP.f2 rfl (hcu) (by first | simp [hgw, hpa, hwl, hil, h1] <;> rfl | fail) ?_ | refine CallP.f2 rfl (hix) (by first | simp [hgw, hpa, hwl, hil, h1] <;> rfl | fail) ?_ | fail); simp [hgw, hpa, hwl, hil, h1])
  | fail)
   refine ⟨{ n := 49, env := [], obs := RO, next := i + 1 + 5 }, ?_, rfl, rfl⟩
   rw [← hRO]
   exact (Wk.ren ((fun x => if x = i + 5 then i + 5 + 1 + 1 else x)) rfl (by first | (simp [hn]; done) | (intro i hi; rw [hn] at hi; constructor <;> (try simp) <;> (try (intro _)) <;> omega)) (by simp [wkER, St.lp, keepE, getK_cons, getK, getK_del, getK_setOb, D.under, D.le, D.ren, hpu, hil, hlr] <;> (try (intros; simp_all; done)) <;> (try omega)) (by simp [wkR, St.lp, getK_cons, getK, getK_del, getK_setOb, obR, leU, pureRow, pureRows, Ob.under, D.under, D.le, D.ren, hpu, hil, hlr] <;> (try (intros; simp_all; done)) <;> (try omega)) (by simp [hpu, hil, hlr]))
 ·have hn00 : Γ.base.n0 = 0 := hn
  intro Γ' hn hpan2
  have hnL : (List.map (fun t => D.u (U.str t)) (pieces 10 (trimN s))).length = L.length := by simp [hLl]
  rw [hnL] at hn ⊢
  clear hpan hesc hit h1 h2 hL
  have hR : readO L L.length = [(0, .box [.vec (L.length + 4) L.length]), (L.length + 4, .vec 44 3 (insR L))] := by simp [readO]
  rw [hR]
  have hpR := pure_insR L
  have hlR := insR_lenR L
  have hLs : L.length ≤ 900001 := by omega
  have htk : List.take L.length (L.map fun i => [U.int .i64 i.op, .int .i64 i.a, .str i.s]) = L.map fun i => [U.int .i64 i.op, .int .i64 i.a, .str i.s] := List.take_of_length_le (by simp)
  have g1 := e1 L
  refine V_wk { n := 49, env := [(4, .ptr 0 0), (0, .u (.str s))], obs := [(0, .box [.vec (L.length + 4) L.length]), (L.length + 4, .vec 44 3 (insR L))], next := L.length + 5 } (Wk.cut2 (by simp [hn, splitO] <;> grind)) ?_
  refine V_wk _ (Wk.frz (e := 44) (sz := 3) (L.length + 4) [0] (us := L.map fun i => [U.int .i64 i.op, .int .i64 i.a, .str i.s]) (rows := insR L) (by simp [getK_cons, getK]) g1) ?_
  simp [St.frz, St.frzS, frzS, fv, fzVec, frzObS, del, htk]
  simp only [Vm.inss] at h3 h4 ⊢
  cases hri : rightC L with
  | false =>
   rw [hri] at h3
   repeat' (first
  | (refine V_runH rfl ?_; simp)
  | ((first | refine CallP.f2 rfl (h3) (by first | simp <;> rfl | fail) ?_ | refine CallP.f2 rfl (h4) (by first | simp <;> rfl | fail) ?_ | fail); simp)
  | fail)
   refine ⟨rfl, ?_⟩
   refine EndW.norm (EndW.here ?_)
   (refine EndOK.fin (.inr rfl) ?_); simp [resD, oneOrTup, Tryz.results14]; refine FinOK.here (by simp [hn00]) ?_; simp [pureD]
  | true =>
   rw [hri] at h3
   by_cases hli : listB L = s
   ·rw [hli] at h4
    repeat' (first
  | (refine V_runH rfl ?_; simp)
  | ((first | refine CallP.f2 rfl (h3) (by first | simp <;> rfl | fail) ?_ | refine CallP.f2 rfl (h4) (by first | simp <;> rfl | fail) ?_ | fail); simp)
  | fail)
    refine ⟨rfl, ?_⟩
    refine EndW.norm (EndW.here ?_)
    (refine EndOK.fin (.inr rfl) ?_); simp [resD, oneOrTup, Tryz.results14]; refine FinOK.here (by simp [hn00]) ?_; simp [pureD]
    rw [if_pos hli]
    exact ⟨rfl, rfl⟩
   ·generalize listB L = T at *
    repeat' (first
  | (refine V_runH rfl ?_; simp [hli])
  | ((first | refine CallP.f2 rfl (h3) (by first | simp [hli] <;> rfl | fail) ?_ | refine CallP.f2 rfl (h4) (by first | simp [hli] <;> rfl | fail) ?_ | fail); simp [hli])
  | fail)
    refine ⟨rfl, ?_⟩
    refine EndW.norm (EndW.here ?_)
    (refine EndOK.fin (.inr rfl) ?_); simp [resD, oneOrTup, Tryz.results14]; refine FinOK.here (by simp [hn00]) ?_; simp [pureD]
theorem read_fun (s : W8) (hl : s.length ≤ 900000) : Fun Tryz.prog 14 [.u (.str s)] (· = .tup [.u (Vm.inss (readB s).1), .u (.int .i64 (readB s).2)]) := by
 unfold Fun
 exact (read_ret s hl).ret (fun d o n h => h) (fun ch o n h => h.elim)
end Go.Proofs.YtkdhmbhbbciedaaGreatDoor
namespace Go.Proofs.YtkdhmbhbbciedaaGreatDoor
open Go Go.VL
theorem line_len2 {x : Ins} {i n : Nat} (h : formI x i n = true) (hn : n ≤ 1099511627776) : (lineC x).length ≤ 40 := by
 obtain ⟨h0, h1, _⟩ := form_op h
 have hwl2 : ∀ w ∈ wordsL, w.length ≤ 5 := by decide
 have hu : wordsL[x.op.toNat]? = some (wordC x.op) := by
  rw [wordC, List.getD, List.getElem?_eq_getElem (by have : wordsL.length = 15 := rfl; omega)]; rfl
 have hw := hwl2 _ (List.mem_of_getElem? hu)
 unfold formI at h
 unfold lineC
 by_cases e0 : x.op = 0
 ·rw [if_pos e0] at h
  simp at h
  have := Lib.itoa_length_le x.a (by omega) (by omega)
  rw [if_pos (by omega)]
  simp; omega
 rw [if_neg e0] at h
 by_cases e1 : x.op = 1
 ·rw [if_pos e1] at h
  simp at h
  have h3 : x.s.length ≤ 20 := by
   have h := h.2
   simp only [nameB, Bool.and_eq_true] at h
   have h := h.1
   generalize x.s = s at *
   cases s with
   | nil => simp
   | cons c r =>
    simp only [wordB, Bool.and_eq_true, decide_eq_true_eq] at h
    exact h.1.2
  rw [if_neg (by omega), if_pos e1]
  simp; omega
 rw [if_neg e1] at h
 by_cases e2 : x.op = 12 ∨ x.op = 13
 ·rw [if_pos e2] at h
  simp at h
  have := Lib.itoa_length_le x.a (by omega) (by omega)
  rw [if_pos (by omega)]
  simp; omega
 ·rw [if_neg (by omega), if_neg e1]
  simp; omega
theorem list_len40 : ∀ (l : Code), (∀ x ∈ l, (lineC x).length ≤ 40) → (listC l).length ≤ l.length * 40
 | [], _ => by simp [listC]
 | x :: r, h => by
  have h1 := list_len40 r fun y hy => h y (by simp [hy])
  have h2 := h x (by simp)
  have : listC (x :: r) = lineC x ++ listC r := by simp [listC]
  rw [this, List.length_append, List.length_cons]
  omega
theorem list_short {l : Code} (h : rightC l = true) : (listC l).length ≤ 80000 := by
 obtain ⟨h1, h2, h3⟩ := right_parts h
 have := list_len40 l fun x hx => by
  obtain ⟨i, hi⟩ := List.getElem?_of_mem hx
  exact line_len2 (h3 i x hi) (by omega)
 omega
/-- A right code is read from its listing. -/
theorem read_back {l : Code} (h : rightC l = true) : Fun Tryz.prog 14 [.u (.str (listC l))] (· = .tup [.u (Vm.inss l), .u (.int .i64 0)]) := by
 have h1 := read_fun (listC l) (by have := list_short h; omega)
 rw [read_list h] at h1
 exact h1
theorem list_right {l : Code} (h : rightC l = true) : Fun Tryz.prog 19 [.u (Vm.inss l)] (· = .u (.str (listC l))) := by
 obtain ⟨h1, h2, h3⟩ := right_parts h
 have := list_fun l (by omega)
 rw [show listB l = listC l from if_pos h] at this
 exact this
theorem comp_nil {lets : List Let} {e : Exp} (h : ¬ (compP lets e).2 = 0) : (compP lets e).1 = [] := by
 unfold compP at h ⊢
 split
 ·rename_i h1
  rw [if_pos h1] at h
  split
  ·rfl
  ·rename_i h2; rw [if_neg h2] at h; exact absurd rfl h
 ·rfl
end Go.Proofs.YtkdhmbhbbciedaaGreatDoor
namespace Go.Proofs.YtkdhmbhbbciedaaGreatDoor
open Go Go.VL
attribute [local simp] HS exS_some hcons hstep evPure opd uOf putOK St.put St.at getK binD binI binS binB nilD aggD eqUs cmpK lookD lookR rangeD rangeS Go.VL.nextD Go.VL.nextS entryD keyD valU keyU lookK mkV entD_nil allUE makeMapD mapUpdD mapEff updK valM Key.kk shiftI arith unD convD pickD loadD cellsAt fieldAddrD fieldD indexAddrD indexSlD arrAddr indexD sliceD cutD lenD minmaxD nilCheckD buildD fillD cellsD isOne ones setAll mkAgg allU allocD boxD storeD St.add buildSliceD appendD rowsOf makeD setOb getK_setOb getK_del getK_cons stripL strip guardTmp entry chunks zcells valD argsV argsW argW argU1 argU0 argsU0 argsU1 calleeOf scalarD scalarU delAll effD St.effS RK_seq RK_seq_ret RK_seq_exit RK_blk RK_blk_ret RK_blk_exit RK_loop RK_loop_ret RK_loop_exit RK_done vs_seq vs_block vs_cond vs_region vs_loop applyW mkD rdIds lentIds callOf calleeOf freeOp D.ids Op.operands Call.operands isEffOp makeIfD makeFuncD typeAssertD conc concs conc1 uOfV panicD IntKind.bits allU2 List.take_of_length_le List.range_succ HR_nil HR_cons HR_grd v2_seq v2_block v2_skip v2_exit v2_ret v2_cond v2_region v2_draw v2_loop RN_0 RN_done RN_seq RN_seq_ret RN_seq_exit RN_blk RN_blk_ret RN_blk_exit RN_loop RN_loop_ret RN_loop_exit Cnd_tf Cnd_ft EndV getK_append frzN frz1 frz_env frz_obs St.frz St.frzS frzS fv fzVec fzMap fzBox frzObS frz_entD frz_rowsD frz frzOb normD normU norm1 normOb St.norm St.lp St.only keepE wkE wkO wkU Ob.under D.under under_rowsD under_entD H4_nil H4_cons H4_grd h4s resD oneOrTup pureD List.zipIdx_cons List.zipIdx_nil List.map_cons List.map_nil Nat.zero_add
attribute [local irreducible] V G H HD HD2 HD4 HD4h RetX RunK Eff CallP CallV EndOK Fun Ret FinOK LoopI LoopW EndW HR vs2 RN Cnd H4
end Go.Proofs.YtkdhmbhbbciedaaGreatDoor
namespace Go.VL
open Go
/-- A slice within a struct that came in has a length that an int holds. -/
theorem V_lenB {P : Program} {Γ : Ctx} {c : Code} {s : St} {Q : Exit → St → Prop} {x j : Nat} {cells : List U} {rows : List (List U)} (hx : getK s.env x = some (.u (.agg cells))) (hj : cells[j]? = some (.sl rows)) (h : rows.length ≤ 9223372036854775807 → V P Γ c s Q) : V P Γ c s Q :=
 V_know (fun K a w hs => by
  have hr := (hs.getK hx).2
  obtain ⟨vs, hl, _, hr⟩ := rep_uagg hr
  have hr := hr j _ hj
  generalize vs.getD j undef = v at hr
  cases hr with
  | slE => simp
  | sl _ b o sz c f hc hcx => unfold maxLen at hcx; omega) h
end Go.VL
namespace Go.Proofs.YtkdhmbhbbciedaaGreatDoor
open Go Go.VL
attribute [local simp] exS_some hcons hstep evPure opd uOf putOK St.put St.at getK binD binI binS binB nilD aggD eqUs cmpK lookD lookR rangeD rangeS Go.VL.nextD Go.VL.nextS entryD keyD valU keyU lookK mkV entD_nil allUE makeMapD mapUpdD mapEff updK valM Key.kk shiftI arith unD convD pickD loadD cellsAt fieldAddrD fieldD indexAddrD indexSlD arrAddr indexD sliceD cutD lenD minmaxD nilCheckD buildD fillD cellsD isOne ones setAll mkAgg allU allocD boxD storeD St.add buildSliceD appendD rowsOf makeD setOb getK_setOb getK_del getK_cons stripL strip guardTmp entry chunks zcells valD argsV argsW argW argU1 argU0 argsU0 argsU1 calleeOf scalarD scalarU delAll effD St.effS RK_seq RK_seq_ret RK_seq_exit RK_blk RK_blk_ret RK_blk_exit RK_loop RK_loop_ret RK_loop_exit RK_done vs_seq vs_block vs_cond vs_region vs_loop applyW mkD rdIds lentIds callOf calleeOf freeOp D.ids Op.operands Call.operands isEffOp makeIfD makeFuncD typeAssertD conc concs conc1 uOfV panicD IntKind.bits allU2 List.take_of_length_le List.range_succ HR_nil HR_cons HR_grd v2_seq v2_block v2_skip v2_exit v2_ret v2_cond v2_region v2_draw v2_loop RN_0 RN_done RN_seq RN_seq_ret RN_seq_exit RN_blk RN_blk_ret RN_blk_exit RN_loop RN_loop_ret RN_loop_exit Cnd_tf Cnd_ft EndV getK_append frzN frz1 frz_env frz_obs St.frz St.frzS frzS fv fzVec fzMap fzBox frzObS frz_entD frz_rowsD frz frzOb normD normU norm1 normOb St.norm St.lp St.only keepE wkE wkO wkU Ob.under D.under under_rowsD under_entD H4_nil H4_cons H4_grd h4s resD oneOrTup pureD List.zipIdx_cons List.zipIdx_nil List.map_cons List.map_nil Nat.zero_add
attribute [local irreducible] V G H HD HD2 RunK Eff CallP CallV EndOK Fun Ret FinOK LoopI LoopW EndW HR vs2 RN Cnd H4
theorem parse_all {l : List Tok} (hl : TokOK l) : ∀ f, ExpOK l f ∧ PreOK l f ∧ PrimOK l f := by
 intro f
 induction f using Nat.strongRecOn with
 | _ f ih =>
  cases f with
  | zero => exact ⟨fun p form i nx _ _ h => by omega, fun p form i nx _ _ h => by omega, fun p i nx _ _ h => by omega⟩
  | succ f =>
   obtain ⟨h1, h2, h3⟩ := ih f (by omega)
   exact ⟨exp_step hl (fun g hg => (ih g (by omega)).1) h2, prefix_step hl h1 h3, primary_step hl h1⟩
def Exp.lev : Exp → Int
 | .mk _ _ _ _ args => (args.map fun e => e.lev).foldl max 0 + 1
theorem Exp.lev_eq (e : Exp) : e.lev = (e.args.map Exp.lev).foldl max 0 + 1 := by
 cases e with
 | mk op n u s args => rw [Exp.lev]; rfl
theorem foldl_max_mem : ∀ (l : List Int) (a : Int), a ≤ l.foldl max a ∧ ∀ x ∈ l, x ≤ l.foldl max a
 | [], a => ⟨by simp, fun x h => by simp at h⟩
 | b :: l, a => by
  obtain ⟨h1, h2⟩ := foldl_max_mem l (max a b)
  refine ⟨by simp only [List.foldl_cons]; omega, fun x hx => ?_⟩
  rcases List.mem_cons.1 hx with rfl | hx
  ·simp only [List.foldl_cons]; omega
  ·exact h2 x hx
theorem Exp.lev_pos (e : Exp) : 1 ≤ e.lev := by
 rw [Exp.lev_eq]
 have := (foldl_max_mem (e.args.map Exp.lev) 0).1
 omega
theorem Exp.sizeOf_args {e x : Exp} (h : x ∈ e.args) : SizeOf.sizeOf x < SizeOf.sizeOf e := by
 cases e with
 | mk op n u s args =>
  have := List.sizeOf_lt_of_mem h
  simp only [Exp.args] at this
  simp only [Exp.mk.sizeOf_spec]
  omega
theorem levels_all : ∀ (n : Nat) (e : Exp), SizeOf.sizeOf e ≤ n → e.lev ≤ 1000000000 → Fun Tryz.prog 109 [.u (.agg e.row)] (· = .u (.int .i64 e.lev)) := by
 intro n
 induction n with
 | zero =>
  intro e h
  cases e with
  | mk op n u s args => simp only [Exp.mk.sizeOf_spec] at h; omega
 | succ n ih =>
  intro e hs he
  have hx : ∀ x ∈ e.args, Fun Tryz.prog 109 [.u (.agg [.int .i64 x.op, .int .i64 x.n, .int .i64 x.unit, .str x.s, .sl (x.args.map Exp.row)])] (· = .u (.int .i64 x.lev)) := fun x hx => by
   rw [← Exp.row_eq]
   refine ih x (by have := Exp.sizeOf_args hx; omega) ?_
   have := (foldl_max_mem (e.args.map Exp.lev) 0).2 x.lev (List.mem_map.2 ⟨x, hx, rfl⟩)
   rw [Exp.lev_eq] at he
   omega
  have hlb : ∀ k, ((e.args.map Exp.lev).take k).foldl max 0 ≤ 1000000000 := fun k => by
   rw [← List.map_take]
   rw [Exp.lev_eq] at he
   have h2 : (e.args.map Exp.lev).foldl max 0 = (e.args.drop k |>.map Exp.lev).foldl max ((e.args.take k |>.map Exp.lev).foldl max 0) := by
    rw [← List.foldl_append, ← List.map_append, List.take_append_drop]
   have := (foldl_max_mem (e.args.drop k |>.map Exp.lev) ((e.args.take k |>.map Exp.lev).foldl max 0)).1
   omega
  rw [Exp.row_eq, Exp.lev_eq]
  generalize hA : e.args = A at *
  rw [Exp.lev_eq, hA] at he
  refine Fun.run Tryz.func109 Tryz.ntmps109 Tryz.results109 rfl (by simp) fun Γ hn => ?_; simp only [entry, List.zipIdx_cons, List.zipIdx_nil, List.map_cons, List.map_nil, Nat.zero_add]
  refine V_lenB (x := 0) (j := 4) rfl rfl fun hl => ?_
  simp at hl
  repeat' (first
  | (refine V_run rfl ?_; simp)
  | fail)
  refine V_loopF (α := { k : Nat // k ≤ A.length }) [0, 1, 2, 7, 8] (fun k => [(9, .u (.int .i64 k.1)), (3, .u (.int .i64 (((A.map Exp.lev).take k.1).foldl max 0)))]) (fun k => A.length - k.1) ⟨0, by omega⟩ ?_ ?_
  ·exact (Wk.env rfl rfl rfl (by simp [wkE, St.lp, keepE, getK_cons, getK] <;> (try (intros; simp_all; done)) <;> (try (intros; omega)) <;> (try grind)))
  rintro ⟨k, hk⟩
  simp
  rcases hy : A[k]? with _ | y
  ·have hge : A.length ≤ k := by simpa using hy
   have hb := hlb k
   rw [List.take_of_length_le (by simpa using hge : (A.map Exp.lev).length ≤ k)] at hb ⊢
   have hb0 := (foldl_max_mem (A.map Exp.lev) 0).1
   generalize (A.map Exp.lev).foldl max 0 = M at *
   repeat' (first
  | (refine Cnd.of (fun hc => ?_) (fun hc => ?_) <;> (try (exfalso; omega)) <;> (try simp [hy]))
  | (refine V_run rfl ?_; simp [hy])
  | (refine And.intro (by omega) ?_)
  | fail)
   (refine Pst.of ?_; simp)
  ·have hlt : k < A.length := (List.getElem?_eq_some_iff.1 hy).1
   have hfn := hx y (List.mem_of_getElem? hy)
   have ht : ((A.map Exp.lev).take (k + 1)).foldl max 0 = max (((A.map Exp.lev).take k).foldl max 0) y.lev := by
    rw [List.take_add_one, List.getElem?_map, hy]
    simp
   have hb := hlb (k + 1)
   rw [ht] at hb
   have hb0 := (foldl_max_mem ((A.map Exp.lev).take k) 0).1
   generalize hM : ((A.map Exp.lev).take k).foldl max 0 = M at *
   have hyp := y.lev_pos
   repeat' (first
  | (refine Cnd.of (fun hc => ?_) (fun hc => ?_) <;> (try (exfalso; omega)) <;> (try simp [hy, Exp.row_eq]))
  | (refine V_run rfl ?_; simp [hy, Exp.row_eq])
  | (refine And.intro (by omega) ?_)
  | (refine CallP.f2 rfl (hfn) (by first | simp [hy, Exp.row_eq] <;> rfl | fail) ?_; simp [hy, Exp.row_eq])
  | fail)
   refine LoopW.next ⟨k + 1, hlt⟩ (by show A.length - (k + 1) < A.length - k; omega) ?_
   exact (Wk.cut2 (by simp [hn, ht] <;> grind))
end Go.Proofs.YtkdhmbhbbciedaaGreatDoor
namespace Go.Proofs.YtkdhmbhbbciedaaGreatDoor
open Go Go.VL
attribute [local simp] HS exS_some hcons hstep evPure opd uOf putOK St.put St.at getK binD binI binS binB nilD aggD eqUs cmpK lookD lookR rangeD rangeS Go.VL.nextD Go.VL.nextS entryD keyD valU keyU lookK mkV entD_nil allUE makeMapD mapUpdD mapEff updK valM Key.kk shiftI arith unD convD pickD loadD cellsAt fieldAddrD fieldD indexAddrD indexSlD arrAddr indexD sliceD cutD lenD minmaxD nilCheckD buildD fillD cellsD isOne ones setAll mkAgg allU allocD boxD storeD St.add buildSliceD appendD rowsOf makeD setOb getK_setOb getK_del getK_cons stripL strip guardTmp entry chunks zcells valD argsV argsW argW argU1 argU0 argsU0 argsU1 calleeOf scalarD scalarU delAll effD St.effS RK_seq RK_seq_ret RK_seq_exit RK_blk RK_blk_ret RK_blk_exit RK_loop RK_loop_ret RK_loop_exit RK_done vs_seq vs_block vs_cond vs_region vs_loop applyW mkD rdIds lentIds callOf calleeOf freeOp D.ids Op.operands Call.operands isEffOp makeIfD makeFuncD typeAssertD conc concs conc1 uOfV panicD IntKind.bits allU2 List.take_of_length_le List.range_succ HR_nil HR_cons HR_grd v2_seq v2_block v2_skip v2_exit v2_ret v2_cond v2_region v2_draw v2_loop RN_0 RN_done RN_seq RN_seq_ret RN_seq_exit RN_blk RN_blk_ret RN_blk_exit RN_loop RN_loop_ret RN_loop_exit Cnd_tf Cnd_ft EndV getK_append frzN frz1 frz_env frz_obs St.frz St.frzS frzS fv fzVec fzMap fzBox frzObS frz_entD frz_rowsD frz frzOb normD normU norm1 normOb St.norm St.lp St.only keepE wkE wkO wkU Ob.under D.under under_rowsD under_entD H4_nil H4_cons H4_grd h4s resD oneOrTup pureD List.zipIdx_cons List.zipIdx_nil List.map_cons List.map_nil Nat.zero_add
attribute [local irreducible] V G H HD HD2 HD4 HD4h RetX RunK Eff CallP CallV EndOK Fun Ret FinOK LoopI LoopW EndW HR vs2 RN Cnd H4
abbrev expOb0 : Ob := .box [.u (.int .i64 0), .u (.int .i64 0), .u (.int .i64 0), .u (.str []), .u .nil]
theorem pdef_pan (i j q nx : Nat) (hi : i < nx) (hj : j < nx) (hq : q < nx) (hij : i ≠ j) (hiq : i ≠ q) (hjq : j ≠ q) (p e pos err : Int) (a b c : Int) (t : List UInt8) (g : U) :
  RetDf Tryz.prog 104 [.ptr i 0, .ptr j 0, .ptr q 0] [(i, .box [.u (.int .i64 p)]), (j, .box [.u (.int .i64 e)]), (q, .box [.u (.int .i64 a), .u (.int .i64 b), .u (.int .i64 c), .u (.str t), .u g])] nx (.panicking (chP pos err))
   (fun u o n => settle u = .returning ∧ n = nx ∧ o = [(i, .box [.u (.int .i64 pos)]), (j, .box [.u (.int .i64 err)]), (q, expOb0)]) := by
 have hne := ne_facts hi
 have hne2 := ne_facts hj
 have hne3 := ne_facts hq
 have hc0 := caught_stop i j nx hi hj hij p e pos err
 refine RetDf.of_body Tryz.func104 rfl (by simp) (by simp) rfl fun Γ hn => ?_
 simp [entry, recU, chP, Tryz.ntmps104]
 refine CallP.x2 hc0 (by simp [getK]) (by simp [getK, hij, Ne.symm hij]) hij rfl rfl (by simp) (by simp) (fun d o1 nx' hnx h => ?_) (fun ch o1 nx' hnx h => by cases h.1)
 obtain ⟨h1, rfl, h4⟩ := h
 have h4 := h4.symm
 subst h4
 cases h1
 simp [del, hij, Ne.symm hij, hiq, hjq, Ne.symm hiq, Ne.symm hjq]
 repeat' (first
  | (refine V_run rfl ?_; simp [hij, hiq, hjq])
  | fail)
 (refine ⟨by simp, { n := _, env := [], obs := [(i, .box [.u (.int .i64 pos)]), (j, .box [.u (.int .i64 err)]), (q, expOb0)], next := nx }, (Wk.cut rfl (by simp [hn]) (by simp [wkO, getK_cons, getK, getK_append, getK_del, Ob.under, D.under, under_rowsD, under_entD, hi, hj, hq, hne, hne2, hne3, hij, hiq, hjq, Ne.symm hij, Ne.symm hiq, Ne.symm hjq]) (by simp [wkU, keepE, getK_cons, getK, D.under, hi, hj, hq, hne, hne2, hne3, hij, hiq, hjq, Ne.symm hij, Ne.symm hiq, Ne.symm hjq]) (by simp [wkE, keepE, getK_cons, getK, hi, hj, hq, hne, hne2, hne3, hij, hiq, hjq, Ne.symm hij, Ne.symm hiq, Ne.symm hjq])), by simp [hn], ?_⟩; try simp)
 all_goals rfl
theorem lexF_ok {s : List UInt8} : ∀ (f p : Nat) (l : List Tok), lexF f s p = .ok l → s.length < p + f → p ≤ s.length →
  (∀ (i : Nat) (t : Tok), l[i]? = some t → t.kind ≠ 0 → i + 1 < l.length) ∧ l.length ≤ s.length - p + 1 ∧ 0 < l.length
 | 0, p, l, _, h2, h3 => by omega
 | f + 1, p, l, h, h2, h3 => by
  rw [lexF] at h
  have hle := spanL_le isBlank (s.drop p)
  rw [List.length_drop] at hle
  split at h
  ·cases h
   refine ⟨fun i t hi hk => ?_, by simp, by simp⟩
   rcases i with _ | i
   ·simp at hi
    subst hi
    exact absurd rfl hk
   ·simp at hi
  ·rename_i c r hd
   have hdl : (s.drop (p + spanL isBlank (s.drop p))).length = r.length + 1 := by rw [hd]; rfl
   rw [List.length_drop] at hdl
   split at h
   ·cases h
   ·rename_i t ht
    obtain ⟨ht1, ht2⟩ := nextO_text ht
    simp only [List.length_cons] at ht2
    split at h
    ·cases h
    ·rename_i l' hl'
     cases h
     obtain ⟨g1, g2, g3⟩ := lexF_ok f _ l' hl' (by omega) (by omega)
     refine ⟨fun i t' hi hk => ?_, by simp only [List.length_cons]; omega, by simp⟩
     rcases i with _ | i
     ·simp; exact g3
     ·simp only [List.getElem?_cons_succ] at hi
      have := g1 i t' hi hk
      simp only [List.length_cons]
      omega
theorem lexL_ok {s : List UInt8} {l : List Tok} (h : lexL s = .ok l) : TokOK l ∧ l.length ≤ 2001 ∧ 0 < l.length := by
 unfold lexL at h
 split at h
 ·cases h
 ·obtain ⟨g1, g2, g3⟩ := lexF_ok _ _ _ h (by omega) (by omega)
  exact ⟨⟨g1, by omega⟩, by omega, g3⟩
theorem Exp.lev_mk {op n u : Int} {s : List UInt8} {args : List Exp} {B : Int} (h : ∀ x ∈ args, x.lev ≤ B) (h0 : 0 ≤ B) : (Exp.mk op n u s args).lev ≤ B + 1 := by
 rw [Exp.lev_eq]
 simp only [Exp.args]
 have : ∀ (l : List Int) (a : Int), a ≤ B → (∀ x ∈ l, x ≤ B) → l.foldl max a ≤ B := by
  intro l
  induction l with
  | nil => intro a ha _; exact ha
  | cons b l ih => intro a ha hl; exact ih _ (by have := hl b (by simp); omega) fun x hx => hl x (by simp [hx])
 have := this (args.map Exp.lev) 0 h0 (fun x hx => by obtain ⟨y, hy, rfl⟩ := List.mem_map.1 hx; exact h y hy)
 omega
theorem parse_lev {l : List Tok} : ∀ (f : Nat),
  (∀ p form e q, expP l f p form = .ok e q → e.lev ≤ f * f + 1) ∧
  (∀ form e own p e' q, loopP l f form e own p = .ok e' q → e'.lev ≤ max e.lev (f * f + 1) + f) ∧
  (∀ p form e q, prefixP l f p form = .ok e q → e.1.lev ≤ f * f + 1) ∧
  (∀ p e q, primaryP l f p = .ok e q → e.lev ≤ f * f + 1)
 | 0 => ⟨fun _ _ _ _ h => by simp [expP] at h, fun _ _ _ _ _ _ h => by simp [loopP] at h, fun _ _ _ _ h => by simp [prefixP] at h, fun _ _ _ h => by simp [primaryP] at h⟩
 | f + 1 => by
  obtain ⟨he, hlo, hpr, hpm⟩ := parse_lev f
  have hsq : ((f + 1 : Nat) : Int) * ((f + 1 : Nat) : Int) = (f : Int) * f + 2 * f + 1 := by
   rw [show ((f + 1 : Nat) : Int) = (f : Int) + 1 by omega, Int.add_mul, Int.mul_add]; omega
  rw [hsq]
  have h0 : (0 : Int) ≤ (f : Int) * f := Int.mul_nonneg (by omega) (by omega)
  generalize hF : (f : Int) * f = F at *
  refine ⟨fun p form e q h => ?_, fun form e own p e' q h => ?_, fun p form e q h => ?_, fun p e q h => ?_⟩
  ·rw [expP] at h
   obtain ⟨a, r, h1, h2⟩ := PR.bind_out h
   have g1 := hpr _ _ _ _ h1
   have g2 := hlo _ _ _ _ _ _ h2
   omega
  ·rw [loopP] at h
   split at h
   ·cases h; omega
   ·split at h
    ·cases h; omega
    ·obtain ⟨a, r, h1, h2⟩ := PR.bind_out h
     have g1 := he _ _ _ _ h1
     have g2 := hlo _ _ _ _ _ _ h2
     rename_i x _ _
     have g3 := Exp.lev_mk (op := x.op) (n := 0) (u := 0) (s := []) (args := [e, a]) (B := max e.lev (F + 1)) (by
      intro y hy
      simp only [List.mem_cons, List.not_mem_nil, or_false] at hy
      rcases hy with rfl | rfl <;> omega) (by omega)
     omega
  ·rw [prefixP] at h
   split at h
   ·obtain ⟨a, r, h1, h⟩ := PR.bind_out h
    obtain ⟨_, r2, h2, h⟩ := PR.bind_out h
    obtain ⟨b, r3, h3, h⟩ := PR.bind_out h
    obtain ⟨_, r4, h4, h⟩ := PR.bind_out h
    obtain ⟨c, r5, h5, h⟩ := PR.bind_out h
    cases h
    have g1 := he _ _ _ _ h1
    have g3 := he _ _ _ _ h3
    have g5 := he _ _ _ _ h5
    have := Exp.lev_mk (op := 13) (n := 0) (u := 0) (s := []) (args := [a, b, c]) (B := F + 1) (by
     intro y hy
     simp only [List.mem_cons, List.not_mem_nil, or_false] at hy
     rcases hy with rfl | rfl | rfl <;> omega) (by omega)
    simp only
    omega
   ·split at h
    ·obtain ⟨a, r, h1, h⟩ := PR.bind_out h
     cases h
     have g1 := he _ _ _ _ h1
     have := Exp.lev_mk (op := 12) (n := 0) (u := 0) (s := []) (args := [a]) (B := F + 1) (by
      intro y hy
      simp only [List.mem_cons, List.not_mem_nil, or_false] at hy
      rcases hy with rfl; omega) (by omega)
     simp only
     omega
    ·obtain ⟨a, r, h1, h⟩ := PR.bind_out h
     cases h
     have g1 := hpm _ _ _ h1
     simp only
     omega
  ·have leaf : ∀ (op n u : Int) (s : List UInt8), (Exp.mk op n u s []).lev ≤ F + 2 * f + 1 + 1 := fun op n u s => by
    have := Exp.lev_mk (op := op) (n := n) (u := u) (s := s) (args := []) (B := 0) (by simp) (by omega)
    omega
   rw [primaryP] at h
   split at h
   ·cases h
   ·split at h
    ·obtain ⟨a, r, h1, h⟩ := PR.bind_out h
     cases h; exact leaf ..
    split at h
    ·cases h; exact leaf ..
    split at h
    ·cases h; exact leaf ..
    split at h
    ·obtain ⟨_, r2, h2, h⟩ := PR.bind_out h
     obtain ⟨a, r3, h3, h⟩ := PR.bind_out h
     obtain ⟨_, r4, h4, h⟩ := PR.bind_out h
     obtain ⟨b, r5, h5, h⟩ := PR.bind_out h
     obtain ⟨_, r6, h6, h⟩ := PR.bind_out h
     have g3 := he _ _ _ _ h3
     have g5 := he _ _ _ _ h5
     have := Exp.lev_mk (op := if isB l p [109, 97, 120] = true then 7 else 6) (n := 0) (u := 0) (s := []) (args := [a, b]) (B := F + 1) (by
      intro y hy
      simp only [List.mem_cons, List.not_mem_nil, or_false] at hy
      rcases hy with rfl | rfl <;> omega) (by omega)
     cases h
     omega
    split at h
    ·obtain ⟨a, r3, h3, h⟩ := PR.bind_out h
     obtain ⟨_, r4, h4, h⟩ := PR.bind_out h
     cases h
     have g3 := he _ _ _ _ h3
     omega
    split at h
    ·cases h; exact leaf ..
    ·cases h
def kindAt (l : List Tok) (p : Nat) : Int := match l[p]? with | some t => t.kind | none => 0
def zeroE : Exp := .mk 0 0 0 [] []
/-- What ParseExp returns: the expression, the place, the error. -/
def parseX (s : List UInt8) : Exp × Int × Int := match lexL s with
 | .error (p, e) => (zeroE, p, e)
 | .ok l => match expP l (4 * l.length + 3) 0 0 with
  | .stop pos e => (zeroE, pos, e)
  | .ok y q => if kindAt l q ≠ 0 then (zeroE, posAt l q, 12) else if 12 < y.lev then (zeroE, posAt l q, 6) else (y, 0, 0)
theorem nextO_err {c : UInt8} {r : List UInt8} {e : Int} (h : nextO (c :: r) = .error e) : e ≠ 0 := by
 unfold nextO at h
 simp only at h
 split at h
 ·split at h <;> cases h
  omega
 ·split at h
  ·split at h <;> cases h
   omega
  ·split at h <;> cases h
   omega
theorem lexF_err {s : List UInt8} : ∀ (f p : Nat) (q : Nat) (e : Int), lexF f s p = .error (q, e) → p ≤ s.length → e ≠ 0 ∧ q ≤ s.length
 | 0, p, q, e, h, _ => by simp [lexF] at h
 | f + 1, p, q, e, h, h3 => by
  rw [lexF] at h
  have hle := spanL_le isBlank (s.drop p)
  rw [List.length_drop] at hle
  split at h
  ·cases h
  ·rename_i c r hd
   have hdl : (s.drop (p + spanL isBlank (s.drop p))).length = r.length + 1 := by rw [hd]; rfl
   rw [List.length_drop] at hdl
   split at h
   ·rename_i ht
    cases h
    exact ⟨nextO_err ht, by omega⟩
   ·rename_i t ht
    obtain ⟨ht1, ht2⟩ := nextO_text ht
    simp only [List.length_cons] at ht2
    split at h
    ·rename_i x hx
     cases h
     exact lexF_err f _ q e hx (by omega)
    ·cases h
theorem lexL_err {s : List UInt8} {q : Nat} {e : Int} (h : lexL s = .error (q, e)) : e ≠ 0 ∧ q ≤ s.length := by
 unfold lexL at h
 split at h
 ·cases h; exact ⟨by decide, by omega⟩
 ·exact lexF_err _ _ _ _ h (by omega)
def xOut (r : Exp × Int × Int) : D := .tup [.u (.agg r.1.row), .u (.int .i64 r.2.1), .u (.int .i64 r.2.2)]
theorem parseExp_ret (s : List UInt8) : RetX Tryz.prog 64 [.u (.str s)] [] 0 (fun r o n => r = .val (xOut (parseX s))) := by
 unfold parseX
 cases hlx : lexL s with
 | error pe =>
  obtain ⟨p, e⟩ := pe
  have ho := fun nx => open_err s p e nx hlx
  have he := (lexL_err hlx).1
  simp only
  (refine RetX.of_bodyD Tryz.func64 rfl (by simp) fun Γ hn hdfr hpan hesc => ?_); simp only [entry, List.zipIdx_cons, List.zipIdx_nil, List.map_cons, List.map_nil, Nat.zero_add, Tryz.ntmps64]
  repeat' (first
  | (refine V_run0 rfl ?_; simp [he])
  | (refine ⟨hC _ (by kernel_rfl), hk _ (RN_K 0 _ _ _ ?_)⟩; clear hC hk C k; simp [he])
  | (refine V_dx rfl (by kernel_rfl) (by first | (simp [hn]; done) | (simp [hn]; omega) | fail) fun C k hC hk => ?_; simp [he])
  | (refine CallP.okL (ho _) (by first | (simp [he, getK_cons, getK, getK_append, getK_del, getK_setOb, applyW, del]; done) | fail) (by rfl) (by first | assumption | (simp; done) | fail) (by rfl) (by simp) ?_; (try simp [he, delL, del]))
  | fail)
  refine EndW.norm ?_
  simp [St.norm, normOb, normD, normU, norm1]
  (refine EndW.h Tryz.results64 ?_; simp)
  simp [xOut, Exp.row, zeroE]
 | ok l =>
  obtain ⟨hl, hl2, hl0⟩ := lexL_ok hlx
  have ho := fun nx => open_ok s l nx hlx
  have hE := (parse_all hl (4 * l.length + 3)).1 0 0 3 4 (by omega) hl0 (by omega) (by omega) (by omega)
  simp only
  cases hr : expP l (4 * l.length + 3) 0 0 with
  | stop pos e =>
   simp only [hr] at hE ⊢
   (refine RetX.of_bodyD Tryz.func64 rfl (by simp) fun Γ hn hdfr hpan hesc => ?_); simp only [entry, List.zipIdx_cons, List.zipIdx_nil, List.map_cons, List.map_nil, Nat.zero_add, Tryz.ntmps64]
   rw [hold_defer]
   repeat' (first
  | (refine V_run0 rfl ?_; simp)
  | (refine CallP.okL (ho _) (by first | (simp [getK_cons, getK, getK_append, getK_del, getK_setOb, applyW, del]; done) | fail) (by rfl) (by first | assumption | (simp; done) | fail) (by rfl) (by simp) ?_; (try simp [delL, del]))
  | fail)
   refine V_defer hesc hdfr rfl (by simp) ?_
   have hn0 := hn
   have hpan0 := hpan
   intro Γ' hn hpan
   simp
   repeat' (first
  | (refine V_run0 rfl ?_; simp)
  | (refine CallP.pan1 (hE) (by first | (simp [getK_cons, getK, getK_append, getK_del]; done) | fail) (by rfl) (by first | assumption | (simp; done) | fail) (by rfl) (by simp) ?_; rintro ob' ⟨q', rfl⟩; refine ⟨_, Wk.refl _, ?_⟩)
  | fail)
   refine hpan _ _ ?_
   refine LeaveD.of [(1, .box [.u (.int .i64 0)]), (2, .box [.u (.int .i64 0)]), (0, expOb0)] (by simp [getK_cons, getK, getK_append, getK_del]) (pdef_pan 1 2 0 _ (by simp) (by simp) (by simp) (by decide) (by decide) (by decide) 0 0 _ _ 0 0 0 [] .nil) ?_
   simp only [show Γ.base.n0 = 0 from hn0]
   simp [delL, del]
   refine EndW.norm ?_
   simp [St.norm, normOb, normD, normU, norm1]
   (refine EndW.h Tryz.results64 ?_; simp)
   simp [xOut, Exp.row, zeroE]
  | ok y q =>
   have hEx := exp_ok hE hr
   obtain ⟨g0a, g0b⟩ := (parse_le hl _).1 _ _ _ _ hr hl0
   have hlev := (parse_lev (l := l) _).1 _ _ _ _ hr
   have hlev2 : y.lev ≤ 1000000000 := by
    have h1 : ((4 * l.length + 3 : Nat) : Int) * ((4 * l.length + 3 : Nat) : Int) ≤ 8007 * 8007 := Int.mul_le_mul (by omega) (by omega) (by omega) (by omega)
    omega
   have hlv := levels_all (SizeOf.sizeOf y) y (Nat.le_refl _) hlev2
   rw [Exp.row_eq] at hlv
   obtain ⟨t, ht⟩ : ∃ t, l[q]? = some t := ⟨_, List.getElem?_eq_getElem g0b⟩
   have hnx := pnext_fun l q t ht hl.len
   have hka : kindAt l q = t.kind := by unfold kindAt; rw [ht]
   have hpa : posAt l q = t.pos := by unfold posAt; rw [ht]
   simp only [hka, hpa]
   by_cases hk : t.kind = 0
   ·have hc1 := fun nx (h : 3 < nx) => check_ok l q 12 3 nx h
    rw [if_neg (by simp [hk])]
    by_cases hv : 12 < y.lev
    ·have hc2 := fun nx (h : 3 < nx) => check_pan l q t 6 3 nx h ht hl.len
     have hv2 : ¬ y.lev ≤ 12 := by omega
     rw [if_pos hv]
     (refine RetX.of_bodyD Tryz.func64 rfl (by simp) fun Γ hn hdfr hpan hesc => ?_); simp only [entry, List.zipIdx_cons, List.zipIdx_nil, List.map_cons, List.map_nil, Nat.zero_add, Tryz.ntmps64]
     rw [hold_defer]
     repeat' (first
  | (refine V_run0 rfl ?_; simp)
  | (refine CallP.okL (ho _) (by first | (simp [getK_cons, getK, getK_append, getK_del, getK_setOb, applyW, del]; done) | fail) (by rfl) (by first | assumption | (simp; done) | fail) (by rfl) (by simp) ?_; (try simp [delL, del]))
  | fail)
     refine V_defer hesc hdfr rfl (by simp) ?_
     have hn0 := hn
     have hpan0 := hpan
     intro Γ' hn hpan
     simp
     repeat' (first
  | (refine V_run0 rfl ?_; simp [hk, hv, hv2, del])
  | ((first | refine CallP.f2 rfl (hlv) (by first | simp [hk, hv, hv2, del] <;> rfl | fail) ?_ | refine CallP.f2 rfl (hnx) (by first | simp [hk, hv, hv2, del] <;> rfl | fail) ?_ | fail); simp [hk, hv, hv2, del])
  | (refine CallP.ok1 (hEx) (by first | (simp [hk, hv, hv2, del, getK_cons, getK, getK_append, getK_del]; done) | fail) (by rfl) (by first | assumption | (simp; done) | fail) (by rfl) (by simp) ?_; (try simp [hk, hv, hv2, del]))
  | (refine CallP.ok1 (hc1 _ (by simp)) (by first | (simp [hk, hv, hv2, del, getK_cons, getK, getK_append, getK_del]; done) | fail) (by rfl) (by first | assumption | (simp; done) | fail) (by rfl) (by simp) ?_; (try simp [hk, hv, hv2, del]))
  | (refine CallP.pan1 (hc2 _ (by simp)) (by first | (simp [hk, hv, hv2, del, getK_cons, getK, getK_append, getK_del]; done) | fail) (by rfl) (by first | assumption | (simp; done) | fail) (by rfl) (by simp) ?_; rintro ob' ⟨q', rfl⟩; refine ⟨_, Wk.refl _, ?_⟩)
  | fail)
     refine hpan _ _ ?_
     refine LeaveD.of [(1, .box [.u (.int .i64 0)]), (2, .box [.u (.int .i64 0)]), (0, expOb0)] (by simp [getK_cons, getK, getK_append, getK_del]) (pdef_pan 1 2 0 _ (by simp) (by simp) (by simp) (by decide) (by decide) (by decide) 0 0 _ _ 0 0 0 [] .nil) ?_
     simp only [show Γ.base.n0 = 0 from hn0]
     simp [delL, del]
     refine EndW.norm ?_
     simp [St.norm, normOb, normD, normU, norm1]
     (refine EndW.h Tryz.results64 ?_; simp)
     simp [xOut, Exp.row, zeroE]
    ·have hc2 := fun nx (h : 3 < nx) => check_ok l q 6 3 nx h
     have hv2 : y.lev ≤ 12 := by omega
     rw [if_neg hv]
     (refine RetX.of_bodyD Tryz.func64 rfl (by simp) fun Γ hn hdfr hpan hesc => ?_); simp only [entry, List.zipIdx_cons, List.zipIdx_nil, List.map_cons, List.map_nil, Nat.zero_add, Tryz.ntmps64]
     rw [hold_defer]
     repeat' (first
  | (refine V_run0 rfl ?_; simp)
  | (refine CallP.okL (ho _) (by first | (simp [getK_cons, getK, getK_append, getK_del, getK_setOb, applyW, del]; done) | fail) (by rfl) (by first | assumption | (simp; done) | fail) (by rfl) (by simp) ?_; (try simp [delL, del]))
  | fail)
     refine V_defer hesc hdfr rfl (by simp) ?_
     have hn0 := hn
     have hpan0 := hpan
     intro Γ' hn hpan
     simp
     repeat' (first
  | (refine V_run0 rfl ?_; simp [hk, hv, hv2, del])
  | ((first | refine CallP.f2 rfl (hlv) (by first | simp [hk, hv, hv2, del] <;> rfl | fail) ?_ | refine CallP.f2 rfl (hnx) (by first | simp [hk, hv, hv2, del] <;> rfl | fail) ?_ | fail); simp [hk, hv, hv2, del])
  | (refine CallP.ok1 (hEx) (by first | (simp [hk, hv, hv2, del, getK_cons, getK, getK_append, getK_del]; done) | fail) (by rfl) (by first | assumption | (simp; done) | fail) (by rfl) (by simp) ?_; (try simp [hk, hv, hv2, del]))
  | (refine CallP.ok1 (hc1 _ (by simp)) (by first | (simp [hk, hv, hv2, del, getK_cons, getK, getK_append, getK_del]; done) | fail) (by rfl) (by first | assumption | (simp; done) | fail) (by rfl) (by simp) ?_; (try simp [hk, hv, hv2, del]))
  | (refine CallP.ok1 (hc2 _ (by simp)) (by first | (simp [hk, hv, hv2, del, getK_cons, getK, getK_append, getK_del]; done) | fail) (by rfl) (by first | assumption | (simp; done) | fail) (by rfl) (by simp) ?_; (try simp [hk, hv, hv2, del]))
  | fail)
     refine ⟨rfl, ?_⟩
     refine LeaveD.of [(1, .box [.u (.int .i64 0)]), (2, .box [.u (.int .i64 0)]), (0, .box ([.int .i64 y.op, .int .i64 y.n, .int .i64 y.unit, .str y.s, .sl (y.args.map Exp.row)].map .u))] (by simp [getK_cons, getK, getK_append, getK_del]) (pdef_ret 1 2 0 _ (by simp) (by simp) (by simp) (by decide) (by decide) (by decide) 0 0 _) ?_
     simp only [show Γ.base.n0 = 0 from hn0]
     simp [delL, del]
     (refine EndW.h Tryz.results64 ?_; simp)
     simp [xOut, Exp.row_eq]
   ·have hc1 := fun nx (h : 3 < nx) => check_pan l q t 12 3 nx h ht hl.len
    rw [if_pos hk]
    (refine RetX.of_bodyD Tryz.func64 rfl (by simp) fun Γ hn hdfr hpan hesc => ?_); simp only [entry, List.zipIdx_cons, List.zipIdx_nil, List.map_cons, List.map_nil, Nat.zero_add, Tryz.ntmps64]
    rw [hold_defer]
    repeat' (first
  | (refine V_run0 rfl ?_; simp)
  | (refine CallP.okL (ho _) (by first | (simp [getK_cons, getK, getK_append, getK_del, getK_setOb, applyW, del]; done) | fail) (by rfl) (by first | assumption | (simp; done) | fail) (by rfl) (by simp) ?_; (try simp [delL, del]))
  | fail)
    refine V_defer hesc hdfr rfl (by simp) ?_
    have hn0 := hn
    have hpan0 := hpan
    intro Γ' hn hpan
    simp
    repeat' (first
  | (refine V_run0 rfl ?_; simp [hk, del])
  | (refine CallP.f2 rfl (hnx) (by first | simp [hk, del] <;> rfl | fail) ?_; simp [hk, del])
  | (refine CallP.ok1 (hEx) (by first | (simp [hk, del, getK_cons, getK, getK_append, getK_del]; done) | fail) (by rfl) (by first | assumption | (simp; done) | fail) (by rfl) (by simp) ?_; (try simp [hk, del]))
  | (refine CallP.pan1 (hc1 _ (by simp)) (by first | (simp [hk, del, getK_cons, getK, getK_append, getK_del]; done) | fail) (by rfl) (by first | assumption | (simp; done) | fail) (by rfl) (by simp) ?_; rintro ob' ⟨q', rfl⟩; refine ⟨_, Wk.refl _, ?_⟩)
  | fail)
    refine hpan _ _ ?_
    refine LeaveD.of [(1, .box [.u (.int .i64 0)]), (2, .box [.u (.int .i64 0)]), (0, expOb0)] (by simp [getK_cons, getK, getK_append, getK_del]) (pdef_pan 1 2 0 _ (by simp) (by simp) (by simp) (by decide) (by decide) (by decide) 0 0 _ _ 0 0 0 [] .nil) ?_
    simp only [show Γ.base.n0 = 0 from hn0]
    simp [delL, del]
    refine EndW.norm ?_
    simp [St.norm, normOb, normD, normU, norm1]
    (refine EndW.h Tryz.results64 ?_; simp)
    simp [xOut, Exp.row, zeroE]
theorem parseExp_fun (s : List UInt8) : Fun Tryz.prog 64 [.u (.str s)] (· = .tup [eagg (parseX s).1, .u (.int .i64 (parseX s).2.1), .u (.int .i64 (parseX s).2.2)]) := by
 unfold Fun
 exact (parseExp_ret s).ret (fun d o n h => by
  cases h
  refine ⟨by simp [xOut, pureD], ?_⟩
  rw [xOut, Exp.row_eq]
  rfl) (fun ch o n h => by cases h)
end Go.Proofs.YtkdhmbhbbciedaaGreatDoor
namespace Go.Proofs.YtkdhmbhbbciedaaGreatDoor
open Go Go.VL
mutual
def levS : Exp → Int
 | .mk _ _ _ _ args => levsS args + 1
def levsS : List Exp → Int
 | [] => 0
 | e :: l => max (levS e) (levsS l)
end
theorem foldl_max_cons (l : List Int) (a : Int) (ha : 0 ≤ a) : l.foldl max a = max a (l.foldl max 0) := by
 induction l generalizing a with
 | nil => simp; omega
 | cons b l ih => simp only [List.foldl_cons]; rw [ih (max a b) (by omega), ih (max 0 b) (by omega)]; omega
mutual
theorem levS_eq : ∀ e : Exp, levS e = e.lev
 | .mk op n u s args => by rw [levS, Exp.lev_eq, levsS_eq]; rfl
theorem levsS_eq : ∀ l : List Exp, levsS l = (l.map Exp.lev).foldl max 0
 | [] => by rw [levsS]; rfl
 | e :: l => by
  have := e.lev_pos
  rw [levsS, levS_eq, levsS_eq, List.map_cons, List.foldl_cons, foldl_max_cons (l.map Exp.lev) (max 0 e.lev) (by omega)]
  omega
end
/-- The same az parseX, to be computed with. -/
def parseY (s : List UInt8) : Exp × Int × Int := match lexL s with
 | .error (p, e) => (zeroE, p, e)
 | .ok l => match expP l (4 * l.length + 3) 0 0 with
  | .stop pos e => (zeroE, pos, e)
  | .ok y q => if kindAt l q ≠ 0 then (zeroE, posAt l q, 12) else if 12 < levS y then (zeroE, posAt l q, 6) else (y, 0, 0)
theorem parseX_eq (s : List UInt8) : parseX s = parseY s := by
 unfold parseX parseY
 simp only [levS_eq]
 try rfl
end Go.Proofs.YtkdhmbhbbciedaaGreatDoor
namespace Go.Proofs.YtkdhmbhbbciedaaGreatDoor
open Go Go.VL
attribute [local simp] HS exS_some hcons hstep evPure opd uOf putOK St.put St.at getK binD binI binS binB nilD aggD eqUs cmpK lookD lookR rangeD rangeS Go.VL.nextD Go.VL.nextS entryD keyD valU keyU lookK mkV entD_nil allUE makeMapD mapUpdD mapEff updK valM Key.kk shiftI arith unD convD pickD loadD cellsAt fieldAddrD fieldD indexAddrD indexSlD arrAddr indexD sliceD cutD lenD minmaxD nilCheckD buildD fillD cellsD isOne ones setAll mkAgg allU allocD boxD storeD St.add buildSliceD appendD rowsOf makeD setOb getK_setOb getK_del getK_cons stripL strip guardTmp entry chunks zcells valD argsV argsW argW argU1 argU0 argsU0 argsU1 calleeOf scalarD scalarU delAll effD St.effS RK_seq RK_seq_ret RK_seq_exit RK_blk RK_blk_ret RK_blk_exit RK_loop RK_loop_ret RK_loop_exit RK_done vs_seq vs_block vs_cond vs_region vs_loop applyW mkD rdIds lentIds callOf calleeOf freeOp D.ids Op.operands Call.operands isEffOp makeIfD makeFuncD typeAssertD conc concs conc1 uOfV panicD IntKind.bits allU2 List.take_of_length_le List.range_succ HR_nil HR_cons HR_grd v2_seq v2_block v2_skip v2_exit v2_ret v2_cond v2_region v2_draw v2_loop RN_0 RN_done RN_seq RN_seq_ret RN_seq_exit RN_blk RN_blk_ret RN_blk_exit RN_loop RN_loop_ret RN_loop_exit Cnd_tf Cnd_ft EndV getK_append frzN frz1 frz_env frz_obs St.frz St.frzS frzS fv fzVec fzMap fzBox frzObS frz_entD frz_rowsD frz frzOb normD normU norm1 normOb St.norm St.lp St.only keepE wkE wkO wkU Ob.under D.under under_rowsD under_entD H4_nil H4_cons H4_grd h4s resD oneOrTup pureD List.zipIdx_cons List.zipIdx_nil List.map_cons List.map_nil Nat.zero_add
attribute [local irreducible] V G H HD HD2 HD4 HD4h RetX RunK Eff CallP CallV EndOK Fun Ret FinOK LoopI LoopW EndW HR vs2 RN Cnd H4
theorem listing_fun (lets : List Let) (bs : List W8) (s : W8) (e : Exp) (c : Code) (hlen : bs.length = lets.length) (hp : ∀ (i : Nat) (l : Let) (b : W8), lets[i]? = some l → bs[i]? = some b → parseY b = (l.body, 0, 0))
  (he : parseY s = (e, 0, 0)) (hc : compP lets e = (c, 0)) (hcl : c.length ≤ 1000000) (hll : lets.length ≤ 1000) :
  Fun Tryz.prog 32 [.u (strs (lets.map (·.name))), .u (strs bs), .u (.str s)] (· = .u (.str (listB c))) := by
 have h1 := parseExp_fun s
 rw [parseX_eq, he] at h1
 have h2 := compile_fun lets e
 rw [hc] at h2
 have h3 := list_fun c hcl
 simp only [strs, List.map_map, letsU, eagg, Vm.inss] at h1 h2 h3 ⊢
 have hA0 : (fun i => (lets.take i).map letR) 0 = [] := rfl
 have hAl : ∀ i, i ≤ lets.length → ((fun i => (lets.take i).map letR) i).length = i := fun i hi => by simp; omega
 have hAn : ∀ i l, lets[i]? = some l → (fun i => (lets.take i).map letR) (i + 1) = (fun i => (lets.take i).map letR) i ++ [letR l] := fun i x hx => by
  have hlt : i < lets.length := (List.getElem?_eq_some_iff.1 hx).1
  simp only
  rw [List.take_succ_eq_append_getElem hlt, List.map_append, (List.getElem?_eq_some_iff.1 hx).2]; rfl
 have hAe : (lets.map fun l => [U.str l.name, .int .i64 l.body.op, .int .i64 l.body.n, .int .i64 l.body.unit, .str l.body.s, .sl (l.body.args.map Exp.row)]) = (fun i => (lets.take i).map letR) lets.length := by simp [letR]
 rw [hAe] at h2
 generalize (fun i => (lets.take i).map letR) = A at hA0 hAl hAn h2
 clear hAe
 refine Fun.runW Tryz.func32 Tryz.ntmps32 rfl (by simp) fun Γ hn => ?_; simp only [entry, List.zipIdx_cons, List.zipIdx_nil, List.map_cons, List.map_nil, Nat.zero_add]
 refine V_len (x := 0) rfl fun hl1 => ?_
 refine V_len (x := 1) rfl fun hl2 => ?_
 simp only [List.length_map] at hl1 hl2
 repeat' (first
  | (refine V_run rfl ?_; simp)
  | fail)
 refine V_wk _ (Wk.own 7 39 6 (by decide) rfl) ?_
 simp [St.own]
 refine V_loopO (α := { i : Nat // i ≤ lets.length }) [0, 1, 2] (fun i => [(8, .u (.int .i64 i.1)), (7, .vec 0 i.1)]) (fun i => [(0, .vec 39 6 (rowsD (A i.1)))]) 1 (fun i => lets.length - i.1) ⟨0, by omega⟩ ?_ ?_
 ·exact (Wk.ren ((fun i => i)) rfl (by first | (simp [hn]; done) | (intro i hi; rw [hn] at hi; constructor <;> (try simp) <;> (try (intro _)) <;> omega)) (by simp [wkER, St.lp, keepE, getK_cons, getK, getK_del, getK_setOb, D.under, D.le, D.ren, hA0] <;> (try (intros; simp_all; done)) <;> (try omega)) (by simp [wkR, St.lp, getK_cons, getK, getK_del, getK_setOb, obR, leU, pureRow, pureRows, Ob.under, D.under, D.le, D.ren, hA0] <;> (try (intros; simp_all; done)) <;> (try omega)) (by simp [hA0]))
 rintro ⟨i, hi⟩
 have hal := hAl i hi
 have htk : (A i).take i = A i := List.take_of_length_le (by omega)
 simp
 rcases hx : lets[i]? with _ | l
 case none =>
  have hge : lets.length ≤ i := by simpa using hx
  obtain rfl : i = lets.length := by omega
  refine V_wk _ (Wk.frz (e := 39) (sz := 6) 0 [] (us := A lets.length) (by simp [getK_cons]; rfl) (allU2_map _)) ?_
  simp [St.frz, St.frzS, frzS, fv, fzVec, frzObS, del, hal, htk]
  have hge1 : ¬ (lets.length : Int) < lets.length := by omega
  repeat' (first
  | (refine V_run rfl ?_; simp [hlen])
  | ((first | refine CallP.f2 rfl (h1) (by first | simp [hlen] <;> rfl | fail) ?_ | refine CallP.f2 rfl (h2) (by first | simp [hlen] <;> rfl | fail) ?_ | refine CallP.f2 rfl (h3) (by first | simp [hlen] <;> rfl | fail) ?_ | fail); simp [hlen])
  | fail)
  refine EndW.here ?_
  (refine EndOK.val (.inr rfl) ?_; simp [Tryz.results32])
 case some =>
  have hlt : i < lets.length := (List.getElem?_eq_some_iff.1 hx).1
  obtain ⟨b, hb⟩ : ∃ b, bs[i]? = some b := ⟨_, List.getElem?_eq_getElem (by omega)⟩
  have hlb : i < bs.length := by omega
  have hpi := hp i l b hx hb
  have h5 := parseExp_fun b
  rw [parseX_eq, hpi] at h5
  simp only [eagg] at h5
  have hnext := hAn i l hx
  simp only [letR] at hnext
  have hnx : lets[i] = l := (List.getElem?_eq_some_iff.1 hx).2
  have hnb : bs[i] = b := (List.getElem?_eq_some_iff.1 hb).2
  repeat' (first
  | (refine V_run rfl ?_; simp [hx, hb, hlb, hlt, hlen, hnx, hnb])
  | (refine And.intro (by omega) ?_)
  | (refine ⟨hC _ (by kernel_rfl), hk _ (RN_K 8 _ _ _ ?_)⟩; clear hC hk C k; simp [hx, hb, hlb, hlt, hlen, hnx, hnb])
  | (refine V_dx rfl (by kernel_rfl) (by first | (simp [hn]; done) | (simp [hn]; omega) | fail) fun C k hC hk => ?_; simp [hx, hb, hlb, hlt, hlen, hnx, hnb])
  | (refine CallP.f2 rfl (h5) (by first | simp [hx, hb, hlb, hlt, hlen, hnx, hnb] <;> rfl | fail) ?_; simp [hx, hb, hlb, hlt, hlen, hnx, hnb])
  | fail)
  refine LoopW.next ⟨i + 1, (by omega : i + 1 ≤ lets.length)⟩ (by simp; omega) ?_
  exact (Wk.ren ((fun i => if i = 0 then 3 else i)) rfl (by first | (simp [hn]; done) | (intro i hi; rw [hn] at hi; constructor <;> (try simp) <;> (try (intro _)) <;> omega)) (by simp [wkER, St.lp, keepE, getK_cons, getK, getK_del, getK_setOb, D.under, D.le, D.ren, hnext, htk] <;> (try (intros; simp_all; done)) <;> (try omega)) (by simp [wkR, St.lp, getK_cons, getK, getK_del, getK_setOb, obR, leU, pureRow, pureRows, Ob.under, D.under, D.le, D.ren, hnext, htk] <;> (try (intros; simp_all; done)) <;> (try omega)) (by simp [hnext, htk]))
def sx1 : W8 := [112, 111, 116, 32, 45, 32, 112, 97, 105, 100, 32, 42, 32, 53, 48, 32, 112, 101, 114, 32, 109, 105, 108, 108, 101]
def sx2 : W8 := [104, 97, 108, 102, 32, 43, 32, 104, 97, 108, 102]
def sx3 : W8 := [105, 102, 32, 97, 32, 60, 32, 98, 32, 116, 104, 101, 110, 32, 49, 32, 101, 108, 115, 101, 32, 50]
def sx4 : W8 := [97, 32, 97, 110, 100, 32, 98]
def sx5 : W8 := [112, 111, 116, 32, 47, 32, 50]
def sc1 : Code := [⟨1, 0, [112, 111, 116]⟩, ⟨1, 0, [112, 97, 105, 100]⟩, ⟨0, 50, []⟩, ⟨6, 0, []⟩, ⟨3, 0, []⟩, ⟨14, 0, []⟩]
def sc2 : Code := [⟨1, 0, [112, 111, 116]⟩, ⟨0, 2, []⟩, ⟨5, 0, []⟩, ⟨1, 0, [112, 111, 116]⟩, ⟨0, 2, []⟩, ⟨5, 0, []⟩, ⟨2, 0, []⟩, ⟨14, 0, []⟩]
def sc3 : Code := [⟨1, 0, [97]⟩, ⟨1, 0, [98]⟩, ⟨9, 0, []⟩, ⟨13, 6, []⟩, ⟨0, 1, []⟩, ⟨12, 7, []⟩, ⟨0, 2, []⟩, ⟨14, 0, []⟩]
def sc4 : Code := [⟨1, 0, [97]⟩, ⟨13, 6, []⟩, ⟨1, 0, [98]⟩, ⟨11, 0, []⟩, ⟨11, 0, []⟩, ⟨12, 7, []⟩, ⟨0, 0, []⟩, ⟨14, 0, []⟩]
def hf : Let := ⟨[104, 97, 108, 102], (parseY sx5).1⟩
theorem sp1 : parseY sx1 = ((parseY sx1).1, 0, 0) := by kernel_rfl
theorem sp2 : parseY sx2 = ((parseY sx2).1, 0, 0) := by kernel_rfl
theorem sp3 : parseY sx3 = ((parseY sx3).1, 0, 0) := by kernel_rfl
theorem sp4 : parseY sx4 = ((parseY sx4).1, 0, 0) := by kernel_rfl
theorem sp5 : parseY sx5 = ((parseY sx5).1, 0, 0) := by kernel_rfl
theorem sq1 : compP [] (parseY sx1).1 = (sc1, 0) := by kernel_rfl
theorem sq2 : compP [hf] (parseY sx2).1 = (sc2, 0) := by kernel_rfl
theorem sq3 : compP [] (parseY sx3).1 = (sc3, 0) := by kernel_rfl
theorem sq4 : compP [] (parseY sx4).1 = (sc4, 0) := by kernel_rfl
theorem it_digit (n : Nat) (h : n < 10) : Lib.itoa (n : Int) = [UInt8.ofNat (48 + n)] := by
 rw [Lib.itoa, if_neg (by omega)]
 show Lib.decDigits n = _
 rw [Lib.decDigits, dif_pos h]
theorem it_50 : Lib.itoa 50 = [53, 48] := by
 rw [Lib.itoa, if_neg (by decide)]
 show Lib.decDigits 50 = _
 rw [Lib.decDigits, dif_neg (by decide), Lib.decDigits, dif_pos (by decide)]
 rfl
theorem its : Lib.itoa 0 = [48] ∧ Lib.itoa 1 = [49] ∧ Lib.itoa 2 = [50] ∧ Lib.itoa 5 = [53] ∧ Lib.itoa 6 = [54] ∧ Lib.itoa 7 = [55] := ⟨it_digit 0 (by decide), it_digit 1 (by decide), it_digit 2 (by decide), it_digit 5 (by decide), it_digit 6 (by decide), it_digit 7 (by decide)⟩
theorem tl1 : listB sc1 = [110, 97, 109, 101, 32, 112, 111, 116, 10, 110, 97, 109, 101, 32, 112, 97, 105, 100, 10, 110, 117, 109, 32, 53, 48, 10, 115, 99, 97, 108, 101, 10, 115, 117, 98, 10, 101, 110, 100, 10] := by
 have hr : rightC sc1 = true := by kernel_rfl
 rw [listB, if_pos hr]
 obtain ⟨i0, i1, i2, i5, i6, i7⟩ := its
 simp [listC, sc1, lineC, wordC, wordsL, it_50, i0, i1, i2, i5, i6, i7]
theorem tl2 : listB sc2 = [110, 97, 109, 101, 32, 112, 111, 116, 10, 110, 117, 109, 32, 50, 10, 100, 105, 118, 10, 110, 97, 109, 101, 32, 112, 111, 116, 10, 110, 117, 109, 32, 50, 10, 100, 105, 118, 10, 97, 100, 100, 10, 101, 110, 100, 10] := by
 have hr : rightC sc2 = true := by kernel_rfl
 rw [listB, if_pos hr]
 obtain ⟨i0, i1, i2, i5, i6, i7⟩ := its
 simp [listC, sc2, lineC, wordC, wordsL, it_50, i0, i1, i2, i5, i6, i7]
theorem tl3 : listB sc3 = [110, 97, 109, 101, 32, 97, 10, 110, 97, 109, 101, 32, 98, 10, 108, 101, 115, 115, 10, 102, 97, 108, 115, 101, 32, 54, 10, 110, 117, 109, 32, 49, 10, 106, 117, 109, 112, 32, 55, 10, 110, 117, 109, 32, 50, 10, 101, 110, 100, 10] := by
 have hr : rightC sc3 = true := by kernel_rfl
 rw [listB, if_pos hr]
 obtain ⟨i0, i1, i2, i5, i6, i7⟩ := its
 simp [listC, sc3, lineC, wordC, wordsL, it_50, i0, i1, i2, i5, i6, i7]
theorem tl4 : listB sc4 = [110, 97, 109, 101, 32, 97, 10, 102, 97, 108, 115, 101, 32, 54, 10, 110, 97, 109, 101, 32, 98, 10, 110, 111, 116, 10, 110, 111, 116, 10, 106, 117, 109, 112, 32, 55, 10, 110, 117, 109, 32, 48, 10, 101, 110, 100, 10] := by
 have hr : rightC sc4 = true := by kernel_rfl
 rw [listB, if_pos hr]
 obtain ⟨i0, i1, i2, i5, i6, i7⟩ := its
 simp [listC, sc4, lineC, wordC, wordsL, it_50, i0, i1, i2, i5, i6, i7]
def sc5 : Code := [⟨0, 5, []⟩, ⟨14, 0, []⟩]
theorem sr5 : rightC sc5 = true := by kernel_rfl
theorem tl5 : listC sc5 = [110, 117, 109, 32, 53, 10, 101, 110, 100, 10] := by
 obtain ⟨i0, i1, i2, i5, i6, i7⟩ := its
 simp [listC, sc5, lineC, wordC, wordsL, i5]
theorem se5 : readB [101, 110, 100, 10] = ([], 2) := by kernel_rfl
theorem small19_fun : Fun Tryz.prog 9 [] (· = .u (.bool true)) := by
 have f1 := listing_fun [] [] sx1 (parseY sx1).1 sc1 rfl (by simp) sp1 sq1 (by decide) (by decide)
 have f2 := listing_fun [hf] [sx5] sx2 (parseY sx2).1 sc2 rfl (by
  intro i l b h1 h2
  cases i with
  | zero => simp at h1 h2; subst h1 h2; exact sp5
  | succ i => simp at h1) sp2 sq2 (by decide) (by decide)
 have f3 := listing_fun [] [] sx3 (parseY sx3).1 sc3 rfl (by simp) sp3 sq3 (by decide) (by decide)
 have f4 := listing_fun [] [] sx4 (parseY sx4).1 sc4 rfl (by simp) sp4 sq4 (by decide) (by decide)
 rw [tl1] at f1
 rw [tl2] at f2
 rw [tl3] at f3
 rw [tl4] at f4
 have g1 := read_fun (listC sc5) (by rw [tl5]; decide)
 rw [read_list sr5, tl5] at g1
 have g2 := read_fun [101, 110, 100, 10] (by decide)
 rw [se5] at g2
 have c1 := cright_fun sc5 (by decide)
 rw [sr5] at c1
 have c2 := cright_fun [] (by decide)
 rw [show rightC [] = false from rfl] at c2
 have s1 := csame_fun sc5 sc5
 rw [show decide (sc5 = sc5) = true by simp] at s1
 simp [strs, Vm.inss, sc5, hf, sx1, sx2, sx3, sx4, sx5] at f1 f2 f3 f4 g1 g2 c1 c2 s1
 refine Fun.run Tryz.func9 Tryz.ntmps9 Tryz.results9 rfl (by simp) fun Γ hn => ?_
 repeat' (first
  | (refine V_run rfl ?_; simp [zcells, chunks, List.range_succ])
  | ((first | refine CallP.f2 rfl (f1) (by first | simp [zcells, chunks, List.range_succ] <;> rfl | fail) ?_ | refine CallP.f2 rfl (f2) (by first | simp [zcells, chunks, List.range_succ] <;> rfl | fail) ?_ | refine CallP.f2 rfl (f3) (by first | simp [zcells, chunks, List.range_succ] <;> rfl | fail) ?_ | refine CallP.f2 rfl (f4) (by first | simp [zcells, chunks, List.range_succ] <;> rfl | fail) ?_ | refine CallP.f2 rfl (g1) (by first | simp [zcells, chunks, List.range_succ] <;> rfl | fail) ?_ | refine CallP.f2 rfl (g2) (by first | simp [zcells, chunks, List.range_succ] <;> rfl | fail) ?_ | refine CallP.f2 rfl (c1) (by first | simp [zcells, chunks, List.range_succ] <;> rfl | fail) ?_ | refine CallP.f2 rfl (c2) (by first | simp [zcells, chunks, List.range_succ] <;> rfl | fail) ?_ | refine CallP.f2 rfl (s1) (by first | simp [zcells, chunks, List.range_succ] <;> rfl | fail) ?_ | fail); simp [zcells, chunks, List.range_succ])
  | fail)
 all_goals
  (refine Pst.of ?_; simp)
end Go.Proofs.YtkdhmbhbbciedaaGreatDoor
namespace Go.Proofs.YtkdhmbhbbciedaaGreatDoor
open Go Go.VL
theorem heights_ok {C : Code} {H : Nat → Int} (h : Hts C H) (h0 : 0 < C.length) (hl : C.length ≤ 2000) (hf : formsB C = true) : ∃ hs : List Int, heightsP C = (hs, true) ∧ hs.length = C.length ∧ ∀ z ∈ hs, 0 ≤ z := by
 obtain ⟨hi, e, hlen, hv⟩ := rgo_ok h C.length (Nat.le_refl _)
 have hr := right_of h h0 hl hf
 have h2 := heights_right C
 rw [hr] at h2
 have h3 : heightsP C = (hi.take C.length, decide (hi.getD C.length (-1) < 0)) := by
  unfold heightsP
  rw [if_pos ⟨h0, hl, hf⟩, e]
 rw [h3] at h2
 simp only at h2
 rw [h2] at h3
 refine ⟨_, h3, by simp; omega, fun z hz => ?_⟩
 obtain ⟨k, hk⟩ := List.getElem?_of_mem hz
 rw [List.getElem?_take] at hk
 split at hk
 ·rename_i hkl
  have hx : C[k]? = some C[k] := List.getElem?_eq_getElem hkl
  have h4 := (hv k (by omega)).1 (by
   by_cases hk0 : k = 0
   ·exact .inl hk0
   ·obtain ⟨i, x, g1, g2, g3⟩ := h.reach k (by omega) hkl
    exact .inr ⟨i, x, by omega, g2, g3⟩)
  have h5 := (h.ok k _ hx).1
  have : hi.getD k (-1) = z := by simp [List.getD, hk]
  omega
 ·cases hk
theorem comp_law {lets : List Let} {e : Exp} {c : Code} (hc : compP lets e = (c, 0)) : rightAll lets e = true ∧ rightC c = true ∧ 0 < c.length ∧ c.length ≤ 2000 ∧ (∃ hs : List Int, heightsP c = (hs, true) ∧ hs.length = c.length ∧ ∀ z ∈ hs, 0 ≤ z) ∧ ∀ i x, c[i]? = some x → (x.op = 14 ↔ i + 1 = c.length) := by
 have hrc := comp_ok hc
 unfold compP at hc
 split at hc
 ·rename_i hr
  split at hc
  ·cases hc
  ·rename_i hl
   obtain rfl := congrArg Prod.fst hc
   obtain ⟨H, h1, h2, h3⟩ := comp_heights hr (by omega)
   refine ⟨hr, hrc, by simp, by simp; omega, heights_ok h1 (by simp) (by simp; omega) h2, fun i x hx => ?_⟩
   have hi := (List.getElem?_eq_some_iff.1 hx).1
   simp at hi
   by_cases hil : i < (compL lets e).length
   ·rw [List.getElem?_append_left hil] at hx
    have := h3 i x hx
    simp only [List.length_append, List.length_cons, List.length_nil]
    constructor
    ·intro h; exact absurd h this
    ·omega
   ·obtain rfl : i = (compL lets e).length := by omega
    simp at hx
    subst hx
    simp
 ·cases hc
theorem comp_err {lets : List Let} {e : Exp} (h : ¬ (compP lets e).2 = 0) : (compP lets e).2 = (if rightAll lets e = true then 6 else 1) := by
 unfold compP at h ⊢
 split
 ·rename_i h1
  rw [if_pos h1] at h
  split
  ·rfl
  ·rename_i h2; rw [if_neg h2] at h; exact absurd rfl h
 ·rfl
end Go.Proofs.YtkdhmbhbbciedaaGreatDoor
