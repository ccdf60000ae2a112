import Derived.Test.YthnemhfamhnfjaaGreatDoorQ4
set_option linter.all false
set_option maxRecDepth 100000
set_option maxHeartbeats 8000000
namespace Go.Proofs.YthnemhfamhnfjaaGreatDoor
open Go Go.VL
attribute [local simp] HS zc2 zb3 evPure opd uOf zaF St.put St.at getK binD binI binS binB nilD aggD zgQ zha lookD lookR zcu Go.VL.nextD zcx zhu zhc zf2 zcw mkV zdj zbk zbu mapEff zdY zfQ Key.kk shiftI arith unD convD zdH loadD cellsAt fieldAddrD fieldD indexAddrD indexD sliceD cutD lenD minmaxD nilCheckD buildD fillD zbP zdb zeC setAll zcK zeO zco zg0 zcm St.add zaO zbF rowsOf zdA zcH zam zac zaa za7 zcC zaQ entry zbE zbO valD zb4 zcy zgh zdh zdi zbT zbK zaw zaW zbo delAll effD St.effS zcU za8 zaY zcV za9 za0 zb9 zaZ zaT zca zcS zbD zb8 zbl zb6 zb7 zaL mkD zbL zbv zbJ zaw zcn D.ids Op.operands Call.operands zby makeIfD makeFuncD typeAssertD zg9 zdw zdx zg1 zcv IntKind.bits zcN List.take_of_length_le List.range_succ
attribute [local irreducible] V G H HD HD2 HD4 zjP RetX zao Eff CallP CallV EndOK Fun Ret FinOK LoopI LoopW EndW
theorem zhj {l : List Tok} (hl : TokOK l) {f p : Nat} (hE : zf4 l f) (hf : 4 * (l.length - p) <= f) {t : Tok} (ht : l[p]? = some t) (hk : ¬ t.kind = 2) (h1 : isB l p [116, 114, 117, 101] = false) (h2 : isB l p [102, 97, 108, 115, 101] = false)
  (hm : isB l p [109, 105, 110] = false /\ isB l p [109, 97, 120] = true \/ isB l p [109, 105, 110] = true /\ isB l p [109, 97, 120] = false) {i nx : Nat} (hi : i < nx) :
  RetX Tryz.prog 133 [.ptr i 0] [(i, pOb l p)] nx (PPost l i nx zee (za3 l (f + 1) p)) := by
 have hne := zaE hi;have hp := (lGE.1 ht).1;have hnx := zb1 l p t ht hl.len;have hll := hl.len;have hp2 : p + 1 < l.length := hm.elim (fun h => zbc hl h.2) (fun h => zbc hl h.1);rw [za3, ht];have hh1 := fun nx' (h : nx <= nx') => zbj l p [116, 114, 117, 101] i nx' (by omega) hp hl.len;have hh2 := fun nx' (h : nx <= nx') => zbj l p [102, 97, 108, 115, 101] i nx' (by omega) hp hl.len;have hm1 := zec l p [109, 105, 110] hp hl.len;have hm2 := zec l p [109, 97, 120] hp hl.len;rcases hm with ⟨h3, h4⟩ | ⟨h3, h4⟩
 all_goals
  simp only [hk, h1, h2, h3, h4, if_false, if_true, Bool.false_eq_true, or_true, true_or] at hh1 hh2 hm1 hm2 ⊢;have hw1 := fun nx' (h : nx <= nx') => zeS hl [40] (q := (p + 1)) (i := i) (nx := nx') (by omega) hp2;cases hr0 : zbS l (p + 1) [[40]] with
  | stop pos e =>
   simp only [hr0] at hw1
   (refine RetX.of_bodyW Tryz.func133 rfl (by simp) fun Γ hn hpan => ?_); simp only [entry, ziC, ziN, maC, maN, oA, Tryz.ntmps133]
   repeat' (first
  | ((first | refine zaf ?_ | refine zaj ?_ | fail); simp [hne, hk, del, nAA])
  | (refine ⟨by omega, ?_⟩)
  | ((first | refine zag ?_ | refine zai ?_ | refine zat ?_ | fail); simp [hne, hk, del, nAA])
  | (refine zar ?_; simp only [zao])
  | (refine CallP.fE (hnx) (by first | rfl | fail) (by first | simp [hne, hk, del, nAA] <;> rfl | fail) ?_; (try simp [hne, hk, del, nAA]))
  | (refine CallP.fE (hm1) (by first | rfl | fail) (by first | simp [hne, hk, del, nAA] <;> rfl | fail) ?_; (try simp [hne, hk, del, nAA]))
  | (refine CallP.fE (hm2) (by first | rfl | fail) (by first | simp [hne, hk, del, nAA] <;> rfl | fail) ?_; (try simp [hne, hk, del, nAA]))
  | (refine CallP.ok1 (hh1 _ (by first | omega | simp <;> omega | fail)) (by first | (simp [hne, hk, del, nAA, zaa, getK, zab, zac]; done) | fail) (by rfl) (by rfl) ?_; (try simp [hne, hk, del, nAA]))
  | (refine CallP.ok1 (hh2 _ (by first | omega | simp <;> omega | fail)) (by first | (simp [hne, hk, del, nAA, zaa, getK, zab, zac]; done) | fail) (by rfl) (by rfl) ?_; (try simp [hne, hk, del, nAA]))
  | (refine CallP.zeg (hw1 _ (by first | omega | simp <;> omega | fail)) (by first | (simp [hne, hk, del, nAA, zaa, getK, zab, zac]; done) | fail) (by rfl) (by first | assumption | (simp; done) | fail) (by rfl) (by simp) ?_; rintro ob' ⟨q', rfl⟩; refine ⟨_, Wk.refl _, ?_⟩)
  | (refine zau (by first | rfl | fail) ?_; simp [hne, hk, del, nAA, frzN, frz1, zaC, zaB, St.frz, St.frzS, frzS, fv, zaJ, za6, zba, zaG, zav, zan, del, frz, zbb])
  | fail)
   (refine hpan _ _ ⟨{ n := _, env := [], obs := [(i, pOb l q')], next := nx }, (Wk.cut rfl (by simp [hn]) (by simp [wkO, zaa, getK, zab, zac, Ob.under, D.under, zad, zah, hi, hne, zab, zac, zaa, getK]) (by simp [wkU, zak, zaa, getK, D.under, hi, hne, zab, zac, zaa, getK]) (by simp [wkE, zak, zaa, getK, hi, hne, zab, zac, zaa, getK])), by simp [hn], ?_⟩; try simp)
   exact PPost.zaA (by simp [PR.bind, *])
  | ok v0 q0 =>
   simp only [hr0] at hw1;obtain ⟨g0a, g0b⟩ := za1 hl _ hr0 hp2;have ha := fun nx' (h : nx <= nx') => hE q0 0 i nx' (by omega) g0b (by omega) (by omega) (by omega);cases hr1 : zed l f q0 0 with
   | stop pos e =>
    simp only [hr1] at ha
    (refine RetX.of_bodyW Tryz.func133 rfl (by simp) fun Γ hn hpan => ?_); simp only [entry, ziC, ziN, maC, maN, oA, Tryz.ntmps133]
    repeat' (first
  | ((first | refine zaf ?_ | refine zaj ?_ | fail); simp [hne, hk, del, nAA])
  | (refine ⟨by omega, ?_⟩)
  | ((first | refine zag ?_ | refine zai ?_ | refine zat ?_ | fail); simp [hne, hk, del, nAA])
  | (refine zar ?_; simp only [zao])
  | (refine CallP.fE (hnx) (by first | rfl | fail) (by first | simp [hne, hk, del, nAA] <;> rfl | fail) ?_; (try simp [hne, hk, del, nAA]))
  | (refine CallP.fE (hm1) (by first | rfl | fail) (by first | simp [hne, hk, del, nAA] <;> rfl | fail) ?_; (try simp [hne, hk, del, nAA]))
  | (refine CallP.fE (hm2) (by first | rfl | fail) (by first | simp [hne, hk, del, nAA] <;> rfl | fail) ?_; (try simp [hne, hk, del, nAA]))
  | (refine CallP.ok1 (hh1 _ (by first | omega | simp <;> omega | fail)) (by first | (simp [hne, hk, del, nAA, zaa, getK, zab, zac]; done) | fail) (by rfl) (by rfl) ?_; (try simp [hne, hk, del, nAA]))
  | (refine CallP.ok1 (hh2 _ (by first | omega | simp <;> omega | fail)) (by first | (simp [hne, hk, del, nAA, zaa, getK, zab, zac]; done) | fail) (by rfl) (by rfl) ?_; (try simp [hne, hk, del, nAA]))
  | (refine CallP.ok1 (hw1 _ (by first | omega | simp <;> omega | fail)) (by first | (simp [hne, hk, del, nAA, zaa, getK, zab, zac]; done) | fail) (by rfl) (by rfl) ?_; (try simp [hne, hk, del, nAA]))
  | (refine CallP.zeg (ha _ (by first | omega | simp <;> omega | fail)) (by first | (simp [hne, hk, del, nAA, zaa, getK, zab, zac]; done) | fail) (by rfl) (by first | assumption | (simp; done) | fail) (by rfl) (by simp) ?_; rintro ob' ⟨q', rfl⟩; refine ⟨_, Wk.refl _, ?_⟩)
  | (refine zau (by first | rfl | fail) ?_; simp [hne, hk, del, nAA, frzN, frz1, zaC, zaB, St.frz, St.frzS, frzS, fv, zaJ, za6, zba, zaG, zav, zan, del, frz, zbb])
  | fail)
    (refine hpan _ _ ⟨{ n := _, env := [], obs := [(i, pOb l q')], next := nx }, (Wk.cut rfl (by simp [hn]) (by simp [wkO, zaa, getK, zab, zac, Ob.under, D.under, zad, zah, hi, hne, zab, zac, zaa, getK]) (by simp [wkU, zak, zaa, getK, D.under, hi, hne, zab, zac, zaa, getK]) (by simp [wkE, zak, zaa, getK, hi, hne, zab, zac, zaa, getK])), by simp [hn], ?_⟩; try simp)
    exact PPost.zaA (by simp [PR.bind, *])
   | ok v1 q1 =>
    have ha := fun nx' h => zdk (ha nx' h) hr1;obtain ⟨g1a, g1b⟩ := (zci hl f).1 _ _ _ _ hr1 g0b;have hw2 := fun nx' (h : nx <= nx') => zeS hl [44] (q := q1) (i := i) (nx := nx') (by omega) g1b;cases hr2 : zbS l q1 [[44]] with
    | stop pos e =>
     simp only [hr2] at hw2
     (refine RetX.of_bodyW Tryz.func133 rfl (by simp) fun Γ hn hpan => ?_); simp only [entry, ziC, ziN, maC, maN, oA, Tryz.ntmps133]
     repeat' (first
  | ((first | refine zaf ?_ | refine zaj ?_ | fail); simp [hne, hk, del, nAA])
  | (refine ⟨by omega, ?_⟩)
  | ((first | refine zag ?_ | refine zai ?_ | refine zat ?_ | fail); simp [hne, hk, del, nAA])
  | (refine zar ?_; simp only [zao])
  | (refine CallP.fE (hnx) (by first | rfl | fail) (by first | simp [hne, hk, del, nAA] <;> rfl | fail) ?_; (try simp [hne, hk, del, nAA]))
  | (refine CallP.fE (hm1) (by first | rfl | fail) (by first | simp [hne, hk, del, nAA] <;> rfl | fail) ?_; (try simp [hne, hk, del, nAA]))
  | (refine CallP.fE (hm2) (by first | rfl | fail) (by first | simp [hne, hk, del, nAA] <;> rfl | fail) ?_; (try simp [hne, hk, del, nAA]))
  | (refine CallP.ok1 (hh1 _ (by first | omega | simp <;> omega | fail)) (by first | (simp [hne, hk, del, nAA, zaa, getK, zab, zac]; done) | fail) (by rfl) (by rfl) ?_; (try simp [hne, hk, del, nAA]))
  | (refine CallP.ok1 (hh2 _ (by first | omega | simp <;> omega | fail)) (by first | (simp [hne, hk, del, nAA, zaa, getK, zab, zac]; done) | fail) (by rfl) (by rfl) ?_; (try simp [hne, hk, del, nAA]))
  | (refine CallP.ok1 (hw1 _ (by first | omega | simp <;> omega | fail)) (by first | (simp [hne, hk, del, nAA, zaa, getK, zab, zac]; done) | fail) (by rfl) (by rfl) ?_; (try simp [hne, hk, del, nAA]))
  | (refine CallP.ok1 (ha _ (by first | omega | simp <;> omega | fail)) (by first | (simp [hne, hk, del, nAA, zaa, getK, zab, zac]; done) | fail) (by rfl) (by rfl) ?_; (try simp [hne, hk, del, nAA]))
  | (refine CallP.zeg (hw2 _ (by first | omega | simp <;> omega | fail)) (by first | (simp [hne, hk, del, nAA, zaa, getK, zab, zac]; done) | fail) (by rfl) (by first | assumption | (simp; done) | fail) (by rfl) (by simp) ?_; rintro ob' ⟨q', rfl⟩; refine ⟨_, Wk.refl _, ?_⟩)
  | (refine zau (by first | rfl | fail) ?_; simp [hne, hk, del, nAA, frzN, frz1, zaC, zaB, St.frz, St.frzS, frzS, fv, zaJ, za6, zba, zaG, zav, zan, del, frz, zbb])
  | fail)
     (refine hpan _ _ ⟨{ n := _, env := [], obs := [(i, pOb l q')], next := nx }, (Wk.cut rfl (by simp [hn]) (by simp [wkO, zaa, getK, zab, zac, Ob.under, D.under, zad, zah, hi, hne, zab, zac, zaa, getK]) (by simp [wkU, zak, zaa, getK, D.under, hi, hne, zab, zac, zaa, getK]) (by simp [wkE, zak, zaa, getK, hi, hne, zab, zac, zaa, getK])), by simp [hn], ?_⟩; try simp)
     exact PPost.zaA (by simp [PR.bind, *])
    | ok v2 q2 =>
     simp only [hr2] at hw2;obtain ⟨g2a, g2b⟩ := za1 hl _ hr2 g1b;have hb := fun nx' (h : nx <= nx') => hE q2 0 i nx' (by omega) g2b (by omega) (by omega) (by omega);cases hr3 : zed l f q2 0 with
     | stop pos e =>
      simp only [hr3] at hb
      (refine RetX.of_bodyW Tryz.func133 rfl (by simp) fun Γ hn hpan => ?_); simp only [entry, ziC, ziN, maC, maN, oA, Tryz.ntmps133]
      repeat' (first
  | ((first | refine zaf ?_ | refine zaj ?_ | fail); simp [hne, hk, del, nAA])
  | (refine ⟨by omega, ?_⟩)
  | ((first | refine zag ?_ | refine zai ?_ | refine zat ?_ | fail); simp [hne, hk, del, nAA])
  | (refine zar ?_; simp only [zao])
  | (refine CallP.fE (hnx) (by first | rfl | fail) (by first | simp [hne, hk, del, nAA] <;> rfl | fail) ?_; (try simp [hne, hk, del, nAA]))
  | (refine CallP.fE (hm1) (by first | rfl | fail) (by first | simp [hne, hk, del, nAA] <;> rfl | fail) ?_; (try simp [hne, hk, del, nAA]))
  | (refine CallP.fE (hm2) (by first | rfl | fail) (by first | simp [hne, hk, del, nAA] <;> rfl | fail) ?_; (try simp [hne, hk, del, nAA]))
  | (refine CallP.ok1 (hh1 _ (by first | omega | simp <;> omega | fail)) (by first | (simp [hne, hk, del, nAA, zaa, getK, zab, zac]; done) | fail) (by rfl) (by rfl) ?_; (try simp [hne, hk, del, nAA]))
  | (refine CallP.ok1 (hh2 _ (by first | omega | simp <;> omega | fail)) (by first | (simp [hne, hk, del, nAA, zaa, getK, zab, zac]; done) | fail) (by rfl) (by rfl) ?_; (try simp [hne, hk, del, nAA]))
  | (refine CallP.ok1 (hw1 _ (by first | omega | simp <;> omega | fail)) (by first | (simp [hne, hk, del, nAA, zaa, getK, zab, zac]; done) | fail) (by rfl) (by rfl) ?_; (try simp [hne, hk, del, nAA]))
  | (refine CallP.ok1 (ha _ (by first | omega | simp <;> omega | fail)) (by first | (simp [hne, hk, del, nAA, zaa, getK, zab, zac]; done) | fail) (by rfl) (by rfl) ?_; (try simp [hne, hk, del, nAA]))
  | (refine CallP.ok1 (hw2 _ (by first | omega | simp <;> omega | fail)) (by first | (simp [hne, hk, del, nAA, zaa, getK, zab, zac]; done) | fail) (by rfl) (by rfl) ?_; (try simp [hne, hk, del, nAA]))
  | (refine CallP.zeg (hb _ (by first | omega | simp <;> omega | fail)) (by first | (simp [hne, hk, del, nAA, zaa, getK, zab, zac]; done) | fail) (by rfl) (by first | assumption | (simp; done) | fail) (by rfl) (by simp) ?_; rintro ob' ⟨q', rfl⟩; refine ⟨_, Wk.refl _, ?_⟩)
  | (refine zau (by first | rfl | fail) ?_; simp [hne, hk, del, nAA, frzN, frz1, zaC, zaB, St.frz, St.frzS, frzS, fv, zaJ, za6, zba, zaG, zav, zan, del, frz, zbb])
  | fail)
      (refine hpan _ _ ⟨{ n := _, env := [], obs := [(i, pOb l q')], next := nx }, (Wk.cut rfl (by simp [hn]) (by simp [wkO, zaa, getK, zab, zac, Ob.under, D.under, zad, zah, hi, hne, zab, zac, zaa, getK]) (by simp [wkU, zak, zaa, getK, D.under, hi, hne, zab, zac, zaa, getK]) (by simp [wkE, zak, zaa, getK, hi, hne, zab, zac, zaa, getK])), by simp [hn], ?_⟩; try simp)
      exact PPost.zaA (by simp [PR.bind, *])
     | ok v3 q3 =>
      have hb := fun nx' h => zdk (hb nx' h) hr3;obtain ⟨g3a, g3b⟩ := (zci hl f).1 _ _ _ _ hr3 g2b;have hw3 := fun nx' (h : nx <= nx') => zeS hl [41] (q := q3) (i := i) (nx := nx') (by omega) g3b;cases hr4 : zbS l q3 [[41]] with
      | stop pos e =>
       simp only [hr4] at hw3
       (refine RetX.of_bodyW Tryz.func133 rfl (by simp) fun Γ hn hpan => ?_); simp only [entry, ziC, ziN, maC, maN, oA, Tryz.ntmps133]
       repeat' (first
  | ((first | refine zaf ?_ | refine zaj ?_ | fail); simp [hne, hk, del, nAA])
  | (refine ⟨by omega, ?_⟩)
  | ((first | refine zag ?_ | refine zai ?_ | refine zat ?_ | fail); simp [hne, hk, del, nAA])
  | (refine zar ?_; simp only [zao])
  | (refine CallP.fE (hnx) (by first | rfl | fail) (by first | simp [hne, hk, del, nAA] <;> rfl | fail) ?_; (try simp [hne, hk, del, nAA]))
  | (refine CallP.fE (hm1) (by first | rfl | fail) (by first | simp [hne, hk, del, nAA] <;> rfl | fail) ?_; (try simp [hne, hk, del, nAA]))
  | (refine CallP.fE (hm2) (by first | rfl | fail) (by first | simp [hne, hk, del, nAA] <;> rfl | fail) ?_; (try simp [hne, hk, del, nAA]))
  | (refine CallP.ok1 (hh1 _ (by first | omega | simp <;> omega | fail)) (by first | (simp [hne, hk, del, nAA, zaa, getK, zab, zac]; done) | fail) (by rfl) (by rfl) ?_; (try simp [hne, hk, del, nAA]))
  | (refine CallP.ok1 (hh2 _ (by first | omega | simp <;> omega | fail)) (by first | (simp [hne, hk, del, nAA, zaa, getK, zab, zac]; done) | fail) (by rfl) (by rfl) ?_; (try simp [hne, hk, del, nAA]))
  | (refine CallP.ok1 (hw1 _ (by first | omega | simp <;> omega | fail)) (by first | (simp [hne, hk, del, nAA, zaa, getK, zab, zac]; done) | fail) (by rfl) (by rfl) ?_; (try simp [hne, hk, del, nAA]))
  | (refine CallP.ok1 (ha _ (by first | omega | simp <;> omega | fail)) (by first | (simp [hne, hk, del, nAA, zaa, getK, zab, zac]; done) | fail) (by rfl) (by rfl) ?_; (try simp [hne, hk, del, nAA]))
  | (refine CallP.ok1 (hw2 _ (by first | omega | simp <;> omega | fail)) (by first | (simp [hne, hk, del, nAA, zaa, getK, zab, zac]; done) | fail) (by rfl) (by rfl) ?_; (try simp [hne, hk, del, nAA]))
  | (refine CallP.ok1 (hb _ (by first | omega | simp <;> omega | fail)) (by first | (simp [hne, hk, del, nAA, zaa, getK, zab, zac]; done) | fail) (by rfl) (by rfl) ?_; (try simp [hne, hk, del, nAA]))
  | (refine CallP.zeg (hw3 _ (by first | omega | simp <;> omega | fail)) (by first | (simp [hne, hk, del, nAA, zaa, getK, zab, zac]; done) | fail) (by rfl) (by first | assumption | (simp; done) | fail) (by rfl) (by simp) ?_; rintro ob' ⟨q', rfl⟩; refine ⟨_, Wk.refl _, ?_⟩)
  | (refine zau (by first | rfl | fail) ?_; simp [hne, hk, del, nAA, frzN, frz1, zaC, zaB, St.frz, St.frzS, frzS, fv, zaJ, za6, zba, zaG, zav, zan, del, frz, zbb])
  | fail)
       (refine hpan _ _ ⟨{ n := _, env := [], obs := [(i, pOb l q')], next := nx }, (Wk.cut rfl (by simp [hn]) (by simp [wkO, zaa, getK, zab, zac, Ob.under, D.under, zad, zah, hi, hne, zab, zac, zaa, getK]) (by simp [wkU, zak, zaa, getK, D.under, hi, hne, zab, zac, zaa, getK]) (by simp [wkE, zak, zaa, getK, hi, hne, zab, zac, zaa, getK])), by simp [hn], ?_⟩; try simp)
       exact PPost.zaA (by simp [PR.bind, *])
      | ok v4 q4 =>
       simp only [hr4] at hw3;obtain ⟨g4a, g4b⟩ := za1 hl _ hr4 g3b
       (refine RetX.of_bodyW Tryz.func133 rfl (by simp) fun Γ hn hpan => ?_); simp only [entry, ziC, ziN, maC, maN, oA, Tryz.ntmps133]
       repeat' (first
  | ((first | refine zaf ?_ | refine zaj ?_ | fail); simp [hne, hk, del, nAA])
  | (refine ⟨by omega, ?_⟩)
  | ((first | refine zag ?_ | refine zai ?_ | refine zat ?_ | fail); simp [hne, hk, del, nAA])
  | ((first | refine zap ?_ | refine zar ?_ | fail); simp only [zao])
  | (refine CallP.fE (hnx) (by first | rfl | fail) (by first | simp [hne, hk, del, nAA] <;> rfl | fail) ?_; (try simp [hne, hk, del, nAA]))
  | (refine CallP.fE (hm1) (by first | rfl | fail) (by first | simp [hne, hk, del, nAA] <;> rfl | fail) ?_; (try simp [hne, hk, del, nAA]))
  | (refine CallP.fE (hm2) (by first | rfl | fail) (by first | simp [hne, hk, del, nAA] <;> rfl | fail) ?_; (try simp [hne, hk, del, nAA]))
  | (refine CallP.ok1 (hh1 _ (by first | omega | simp <;> omega | fail)) (by first | (simp [hne, hk, del, nAA, zaa, getK, zab, zac]; done) | fail) (by rfl) (by rfl) ?_; (try simp [hne, hk, del, nAA]))
  | (refine CallP.ok1 (hh2 _ (by first | omega | simp <;> omega | fail)) (by first | (simp [hne, hk, del, nAA, zaa, getK, zab, zac]; done) | fail) (by rfl) (by rfl) ?_; (try simp [hne, hk, del, nAA]))
  | (refine CallP.ok1 (hw1 _ (by first | omega | simp <;> omega | fail)) (by first | (simp [hne, hk, del, nAA, zaa, getK, zab, zac]; done) | fail) (by rfl) (by rfl) ?_; (try simp [hne, hk, del, nAA]))
  | (refine CallP.ok1 (ha _ (by first | omega | simp <;> omega | fail)) (by first | (simp [hne, hk, del, nAA, zaa, getK, zab, zac]; done) | fail) (by rfl) (by rfl) ?_; (try simp [hne, hk, del, nAA]))
  | (refine CallP.ok1 (hw2 _ (by first | omega | simp <;> omega | fail)) (by first | (simp [hne, hk, del, nAA, zaa, getK, zab, zac]; done) | fail) (by rfl) (by rfl) ?_; (try simp [hne, hk, del, nAA]))
  | (refine CallP.ok1 (hb _ (by first | omega | simp <;> omega | fail)) (by first | (simp [hne, hk, del, nAA, zaa, getK, zab, zac]; done) | fail) (by rfl) (by rfl) ?_; (try simp [hne, hk, del, nAA]))
  | (refine CallP.ok1 (hw3 _ (by first | omega | simp <;> omega | fail)) (by first | (simp [hne, hk, del, nAA, zaa, getK, zab, zac]; done) | fail) (by rfl) (by rfl) ?_; (try simp [hne, hk, del, nAA]))
  | (refine zau (by first | rfl | fail) ?_; simp [hne, hk, del, nAA, frzN, frz1, zaC, zaB, St.frz, St.frzS, frzS, fv, zaJ, za6, zba, zaG, zav, zan, del, frz, zbb])
  | fail)
       (refine EndW.frzN 1 ?_; simp [frzN, frz1, zaC, zaB, St.frz, St.frzS, frzS, fv, zaJ, za6, zba, zaG, zav, zan, del, frz, zbb, hne, nAA])
       refine EndW.norm ?_;simp [St.norm, zbi, zb2, zcq, zcr, hne, nAA]
       (refine EndW.here ?_; (first | (refine EndOK.fin (.inr rfl) ?_) | (refine EndOK.fin (.inl rfl) ?_)); simp [zay, zae, Tryz.results133, hne, hi]; refine FinOK.cut [(i, pOb l q4)] (nx) (by simp [zaa, getK, zab, zac, Ob.under, D.under, zad, zah, hne, hi] <;> omega) (by simp [D.under]) (by simp [hn]) ?_; try simp)
       exact PPost.zct (by simp [PR.bind, *]; rfl) (by simp [Exp.row_eq, Exp.op, Exp.n, Exp.unit, Exp.s, Exp.args]) rfl
theorem zjY {l : List Tok} (hl : TokOK l) {f p : Nat} (hE : zf4 l f) (hf : 4 * (l.length - p) <= f) {t : Tok} (ht : l[p]? = some t) (hk : ¬ t.kind = 2) (h1 : isB l p [116, 114, 117, 101] = false) (h2 : isB l p [102, 97, 108, 115, 101] = false)
  (h3 : isB l p [109, 105, 110] = false) (h4 : isB l p [109, 97, 120] = true) {i nx : Nat} (hi : i < nx) :
  RetX Tryz.prog 133 [.ptr i 0] [(i, pOb l p)] nx (PPost l i nx zee (za3 l (f + 1) p)) := zhj hl hE hf ht hk h1 h2 (.inl ⟨h3, h4⟩) hi
theorem zmn {l : List Tok} (hl : TokOK l) {f p : Nat} {form : Int} (hE : zf4 l f) (hp : p < l.length) (hf : 4 * (l.length - p) + 1 <= f)
  (hf0 : form = 0) (h1 : isB l p [105, 102] = true) {i nx : Nat} (hi : i < nx) :
  RetX Tryz.prog 95 [.ptr i 0, zid form] [(i, pOb l p)] nx (PPost l i nx zja (zbt l (f + 1) p form)) := by
 have hne := zaE hi;have hll := hl.len;rw [zbt];have hp2 := zbc hl h1;subst hf0;have hf0 : (0 : Int) = 0 := rfl;have hf3 : (0 : Int) <= 3 := by omega
 have hh1 := fun nx' (h : nx <= nx') => zbj l p [105, 102] i nx' (by omega) hp hl.len;simp only [h1, if_true] at hh1;rw [if_pos ⟨rfl, h1⟩];have ha := fun nx' (h : nx <= nx') => hE (p + 1) 0 i nx' (by omega) hp2 (by omega) (by omega) (by omega);cases hr0 : zed l f (p + 1) 0 with
 | stop pos e =>
  simp only [hr0] at ha
  (refine RetX.of_bodyW Tryz.func95 rfl (by simp) fun Γ hn hpan => ?_); simp only [entry, ziC, ziN, maC, maN, oA, Tryz.ntmps95]
  repeat' (first
  | ((first | refine zaf ?_ | refine zaj ?_ | refine zag ?_ | refine zai ?_ | fail); simp [hne, hf0, hf3, del, nAA])
  | (refine CallP.ok1 (hh1 _ (by first | omega | simp <;> omega | fail)) (by first | (simp [hne, hf0, hf3, del, nAA, zaa, getK, zab, zac]; done) | fail) (by rfl) (by rfl) ?_; (try simp [hne, hf0, hf3, del, nAA]))
  | (refine CallP.zeg (ha _ (by first | omega | simp <;> omega | fail)) (by first | (simp [hne, hf0, hf3, del, nAA, zaa, getK, zab, zac]; done) | fail) (by rfl) (by first | assumption | (simp; done) | fail) (by rfl) (by simp) ?_; rintro ob' ⟨q', rfl⟩; refine ⟨_, Wk.refl _, ?_⟩)
  | fail)
  (refine hpan _ _ ⟨{ n := _, env := [], obs := [(i, pOb l q')], next := nx }, (Wk.cut rfl (by simp [hn]) (by simp [wkO, zaa, getK, zab, zac, Ob.under, D.under, zad, zah, hi, hne, zab, zac, zaa, getK]) (by simp [wkU, zak, zaa, getK, D.under, hi, hne, zab, zac, zaa, getK]) (by simp [wkE, zak, zaa, getK, hi, hne, zab, zac, zaa, getK])), by simp [hn], ?_⟩; try simp)
  exact PPost.zaA (by simp [PR.bind, *])
 | ok v0 q0 =>
  have ha := fun nx' h => zdk (ha nx' h) hr0;obtain ⟨g0a, g0b⟩ := (zci hl f).1 _ _ _ _ hr0 hp2;have hw1 := fun nx' (h : nx <= nx') => zeS hl [116, 104, 101, 110] (q := q0) (i := i) (nx := nx') (by omega) g0b;cases hr1 : zbS l q0 [[116, 104, 101, 110]] with
  | stop pos e =>
   simp only [hr1] at hw1
   (refine RetX.of_bodyW Tryz.func95 rfl (by simp) fun Γ hn hpan => ?_); simp only [entry, ziC, ziN, maC, maN, oA, Tryz.ntmps95]
   repeat' (first
  | ((first | refine zaf ?_ | refine zaj ?_ | refine zag ?_ | refine zai ?_ | fail); simp [hne, hf0, hf3, del, nAA])
  | (refine CallP.ok1 (hh1 _ (by first | omega | simp <;> omega | fail)) (by first | (simp [hne, hf0, hf3, del, nAA, zaa, getK, zab, zac]; done) | fail) (by rfl) (by rfl) ?_; (try simp [hne, hf0, hf3, del, nAA]))
  | (refine CallP.ok1 (ha _ (by first | omega | simp <;> omega | fail)) (by first | (simp [hne, hf0, hf3, del, nAA, zaa, getK, zab, zac]; done) | fail) (by rfl) (by rfl) ?_; (try simp [hne, hf0, hf3, del, nAA]))
  | (refine CallP.zeg (hw1 _ (by first | omega | simp <;> omega | fail)) (by first | (simp [hne, hf0, hf3, del, nAA, zaa, getK, zab, zac]; done) | fail) (by rfl) (by first | assumption | (simp; done) | fail) (by rfl) (by simp) ?_; rintro ob' ⟨q', rfl⟩; refine ⟨_, Wk.refl _, ?_⟩)
  | (refine zau (by first | rfl | fail) ?_; simp [hne, hf0, hf3, del, nAA, frzN, frz1, zaC, zaB, St.frz, St.frzS, frzS, fv, zaJ, za6, zba, zaG, zav, zan, del, frz, zbb])
  | fail)
   (refine hpan _ _ ⟨{ n := _, env := [], obs := [(i, pOb l q')], next := nx }, (Wk.cut rfl (by simp [hn]) (by simp [wkO, zaa, getK, zab, zac, Ob.under, D.under, zad, zah, hi, hne, zab, zac, zaa, getK]) (by simp [wkU, zak, zaa, getK, D.under, hi, hne, zab, zac, zaa, getK]) (by simp [wkE, zak, zaa, getK, hi, hne, zab, zac, zaa, getK])), by simp [hn], ?_⟩; try simp)
   exact PPost.zaA (by simp [PR.bind, *])
  | ok v1 q1 =>
   simp only [hr1] at hw1;obtain ⟨g1a, g1b⟩ := za1 hl _ hr1 g0b;have hb := fun nx' (h : nx <= nx') => hE q1 0 i nx' (by omega) g1b (by omega) (by omega) (by omega);cases hr2 : zed l f q1 0 with
   | stop pos e =>
    simp only [hr2] at hb
    (refine RetX.of_bodyW Tryz.func95 rfl (by simp) fun Γ hn hpan => ?_); simp only [entry, ziC, ziN, maC, maN, oA, Tryz.ntmps95]
    repeat' (first
  | ((first | refine zaf ?_ | refine zaj ?_ | refine zag ?_ | refine zai ?_ | fail); simp [hne, hf0, hf3, del, nAA])
  | (refine CallP.ok1 (hh1 _ (by first | omega | simp <;> omega | fail)) (by first | (simp [hne, hf0, hf3, del, nAA, zaa, getK, zab, zac]; done) | fail) (by rfl) (by rfl) ?_; (try simp [hne, hf0, hf3, del, nAA]))
  | (refine CallP.ok1 (ha _ (by first | omega | simp <;> omega | fail)) (by first | (simp [hne, hf0, hf3, del, nAA, zaa, getK, zab, zac]; done) | fail) (by rfl) (by rfl) ?_; (try simp [hne, hf0, hf3, del, nAA]))
  | (refine CallP.ok1 (hw1 _ (by first | omega | simp <;> omega | fail)) (by first | (simp [hne, hf0, hf3, del, nAA, zaa, getK, zab, zac]; done) | fail) (by rfl) (by rfl) ?_; (try simp [hne, hf0, hf3, del, nAA]))
  | (refine CallP.zeg (hb _ (by first | omega | simp <;> omega | fail)) (by first | (simp [hne, hf0, hf3, del, nAA, zaa, getK, zab, zac]; done) | fail) (by rfl) (by first | assumption | (simp; done) | fail) (by rfl) (by simp) ?_; rintro ob' ⟨q', rfl⟩; refine ⟨_, Wk.refl _, ?_⟩)
  | (refine zau (by first | rfl | fail) ?_; simp [hne, hf0, hf3, del, nAA, frzN, frz1, zaC, zaB, St.frz, St.frzS, frzS, fv, zaJ, za6, zba, zaG, zav, zan, del, frz, zbb])
  | fail)
    (refine hpan _ _ ⟨{ n := _, env := [], obs := [(i, pOb l q')], next := nx }, (Wk.cut rfl (by simp [hn]) (by simp [wkO, zaa, getK, zab, zac, Ob.under, D.under, zad, zah, hi, hne, zab, zac, zaa, getK]) (by simp [wkU, zak, zaa, getK, D.under, hi, hne, zab, zac, zaa, getK]) (by simp [wkE, zak, zaa, getK, hi, hne, zab, zac, zaa, getK])), by simp [hn], ?_⟩; try simp)
    exact PPost.zaA (by simp [PR.bind, *])
   | ok v2 q2 =>
    have hb := fun nx' h => zdk (hb nx' h) hr2;obtain ⟨g2a, g2b⟩ := (zci hl f).1 _ _ _ _ hr2 g1b;have hw2 := fun nx' (h : nx <= nx') => zeS hl [101, 108, 115, 101] (q := q2) (i := i) (nx := nx') (by omega) g2b;cases hr3 : zbS l q2 [[101, 108, 115, 101]] with
    | stop pos e =>
     simp only [hr3] at hw2
     (refine RetX.of_bodyW Tryz.func95 rfl (by simp) fun Γ hn hpan => ?_); simp only [entry, ziC, ziN, maC, maN, oA, Tryz.ntmps95]
     repeat' (first
  | ((first | refine zaf ?_ | refine zaj ?_ | refine zag ?_ | refine zai ?_ | fail); simp [hne, hf0, hf3, del, nAA])
  | (refine CallP.ok1 (hh1 _ (by first | omega | simp <;> omega | fail)) (by first | (simp [hne, hf0, hf3, del, nAA, zaa, getK, zab, zac]; done) | fail) (by rfl) (by rfl) ?_; (try simp [hne, hf0, hf3, del, nAA]))
  | (refine CallP.ok1 (ha _ (by first | omega | simp <;> omega | fail)) (by first | (simp [hne, hf0, hf3, del, nAA, zaa, getK, zab, zac]; done) | fail) (by rfl) (by rfl) ?_; (try simp [hne, hf0, hf3, del, nAA]))
  | (refine CallP.ok1 (hw1 _ (by first | omega | simp <;> omega | fail)) (by first | (simp [hne, hf0, hf3, del, nAA, zaa, getK, zab, zac]; done) | fail) (by rfl) (by rfl) ?_; (try simp [hne, hf0, hf3, del, nAA]))
  | (refine CallP.ok1 (hb _ (by first | omega | simp <;> omega | fail)) (by first | (simp [hne, hf0, hf3, del, nAA, zaa, getK, zab, zac]; done) | fail) (by rfl) (by rfl) ?_; (try simp [hne, hf0, hf3, del, nAA]))
  | (refine CallP.zeg (hw2 _ (by first | omega | simp <;> omega | fail)) (by first | (simp [hne, hf0, hf3, del, nAA, zaa, getK, zab, zac]; done) | fail) (by rfl) (by first | assumption | (simp; done) | fail) (by rfl) (by simp) ?_; rintro ob' ⟨q', rfl⟩; refine ⟨_, Wk.refl _, ?_⟩)
  | (refine zau (by first | rfl | fail) ?_; simp [hne, hf0, hf3, del, nAA, frzN, frz1, zaC, zaB, St.frz, St.frzS, frzS, fv, zaJ, za6, zba, zaG, zav, zan, del, frz, zbb])
  | fail)
     (refine hpan _ _ ⟨{ n := _, env := [], obs := [(i, pOb l q')], next := nx }, (Wk.cut rfl (by simp [hn]) (by simp [wkO, zaa, getK, zab, zac, Ob.under, D.under, zad, zah, hi, hne, zab, zac, zaa, getK]) (by simp [wkU, zak, zaa, getK, D.under, hi, hne, zab, zac, zaa, getK]) (by simp [wkE, zak, zaa, getK, hi, hne, zab, zac, zaa, getK])), by simp [hn], ?_⟩; try simp)
     exact PPost.zaA (by simp [PR.bind, *])
    | ok v3 q3 =>
     simp only [hr3] at hw2;obtain ⟨g3a, g3b⟩ := za1 hl _ hr3 g2b;have hc := fun nx' (h : nx <= nx') => hE q3 0 i nx' (by omega) g3b (by omega) (by omega) (by omega);cases hr4 : zed l f q3 0 with
     | stop pos e =>
      simp only [hr4] at hc
      (refine RetX.of_bodyW Tryz.func95 rfl (by simp) fun Γ hn hpan => ?_); simp only [entry, ziC, ziN, maC, maN, oA, Tryz.ntmps95]
      repeat' (first
  | (refine zfq (fun nx' h' => hc nx' (by simp at h'; omega)) (by first | (simp [hne, hf0, hf3, del, nAA, zaa, getK, zab, zac, zam, zaL]; done) | fail) (by rfl) (by first | assumption | simp) (by rfl) (by simp) ?_ ?_; rintro env' ob' n' hn' ⟨q', rfl⟩; refine ⟨_, Wk.refl _, ?_⟩)
  | (refine zeA rfl (by simp) ?_; simp)
  | ((first | refine zaf ?_ | refine zaR rfl ?_ | refine zaj ?_ | refine zag ?_ | refine zai ?_ | fail); simp [hne, hf0, hf3, del, nAA])
  | (refine zfr (hC _ (zcj [i] nx (by simp <;> omega) (by simp <;> omega) (by apply Exists.intro; apply And.intro; (focus (repeat' (first | exact KF.nil | exact KL.nil | apply KF.cons | apply KL.cons 0 rfl | apply KL.cons 1 rfl | apply KL.cons 2 rfl | apply KL.cons 3 rfl | apply KL.cons 4 rfl | apply KL.cons 5 rfl | apply KL.cons 6 rfl | apply KL.cons 7 rfl | apply KL.cons 8 rfl | apply KL.cons 9 rfl))); kernel_rfl))) rfl; done)
  | (refine za2 rfl (by kernel_rfl) (by first | (simp [hn]; done) | (simp [hn]; omega) | fail) fun C k hC hk => ?_; simp [hne, hf0, hf3, del, nAA])
  | (refine CallP.ok1 (hh1 _ (by first | omega | simp <;> omega | fail)) (by first | (simp [hne, hf0, hf3, del, nAA, zaa, getK, zab, zac]; done) | fail) (by rfl) (by rfl) ?_; (try simp [hne, hf0, hf3, del, nAA]))
  | (refine CallP.ok1 (ha _ (by first | omega | simp <;> omega | fail)) (by first | (simp [hne, hf0, hf3, del, nAA, zaa, getK, zab, zac]; done) | fail) (by rfl) (by rfl) ?_; (try simp [hne, hf0, hf3, del, nAA]))
  | (refine CallP.ok1 (hw1 _ (by first | omega | simp <;> omega | fail)) (by first | (simp [hne, hf0, hf3, del, nAA, zaa, getK, zab, zac]; done) | fail) (by rfl) (by rfl) ?_; (try simp [hne, hf0, hf3, del, nAA]))
  | (refine CallP.ok1 (hb _ (by first | omega | simp <;> omega | fail)) (by first | (simp [hne, hf0, hf3, del, nAA, zaa, getK, zab, zac]; done) | fail) (by rfl) (by rfl) ?_; (try simp [hne, hf0, hf3, del, nAA]))
  | (refine CallP.ok1 (hw2 _ (by first | omega | simp <;> omega | fail)) (by first | (simp [hne, hf0, hf3, del, nAA, zaa, getK, zab, zac]; done) | fail) (by rfl) (by rfl) ?_; (try simp [hne, hf0, hf3, del, nAA]))
  | (refine zau (by first | rfl | fail) ?_; simp [hne, hf0, hf3, del, nAA, frzN, frz1, zaC, zaB, St.frz, St.frzS, frzS, fv, zaJ, za6, zba, zaG, zav, zan, del, frz, zbb])
  | fail)
      (refine hpan _ _ ⟨{ n := _, env := [], obs := [(i, pOb l q')], next := nx }, (Wk.cut rfl (by simp [hn]) (by simp [wkO, zaa, getK, zab, zac, Ob.under, D.under, zad, zah, hi, hne, zab, zac, zaa, getK]) (by simp [wkU, zak, zaa, getK, D.under, hi, hne, zab, zac, zaa, getK]) (by simp [wkE, zak, zaa, getK, hi, hne, zab, zac, zaa, getK])), by simp [hn], ?_⟩; try simp)
      exact PPost.zaA (by simp [PR.bind, *])
     | ok v4 q4 =>
      have hc := fun nx' h => zdk (hc nx' h) hr4;obtain ⟨g4a, g4b⟩ := (zci hl f).1 _ _ _ _ hr4 g3b
      (refine RetX.of_bodyW Tryz.func95 rfl (by simp) fun Γ hn hpan => ?_); simp only [entry, ziC, ziN, maC, maN, oA, Tryz.ntmps95]
      repeat' (first
  | (refine zgY (fun nx' h' => hc nx' (by simp at h'; omega)) (by first | (simp [hne, hf0, hf3, del, nAA, zaa, getK, zab, zac, zam, zaL]; done) | fail) (by rfl) (by first | assumption | simp) (by rfl) (by simp [D.under, Ob.under]) (by simp) ?_; (try simp [hne, hf0, hf3, del, nAA]))
  | ((first | refine zaf ?_ | refine zaR rfl ?_ | refine zcb rfl ?_ | refine zaj ?_ | refine zag ?_ | refine zai ?_ | fail); simp [hne, hf0, hf3, del, nAA])
  | (refine zaX (hC _ (zcj [i] nx (by simp <;> omega) (by simp <;> omega) (by apply Exists.intro; apply And.intro; (focus (repeat' (first | exact KF.nil | exact KL.nil | apply KF.cons | apply KL.cons 0 rfl | apply KL.cons 1 rfl | apply KL.cons 2 rfl | apply KL.cons 3 rfl | apply KL.cons 4 rfl | apply KL.cons 5 rfl | apply KL.cons 6 rfl | apply KL.cons 7 rfl | apply KL.cons 8 rfl | apply KL.cons 9 rfl))); kernel_rfl))) (hk _ ?_); clear hC hk C k; simp only [zao])
  | (refine za2 rfl (by kernel_rfl) (by first | (simp [hn]; done) | (simp [hn]; omega) | fail) fun C k hC hk => ?_; simp [hne, hf0, hf3, del, nAA])
  | (refine zap ?_; simp only [zao])
  | (refine CallP.ok1 (hh1 _ (by first | omega | simp <;> omega | fail)) (by first | (simp [hne, hf0, hf3, del, nAA, zaa, getK, zab, zac]; done) | fail) (by rfl) (by rfl) ?_; (try simp [hne, hf0, hf3, del, nAA]))
  | (refine CallP.ok1 (ha _ (by first | omega | simp <;> omega | fail)) (by first | (simp [hne, hf0, hf3, del, nAA, zaa, getK, zab, zac]; done) | fail) (by rfl) (by rfl) ?_; (try simp [hne, hf0, hf3, del, nAA]))
  | (refine CallP.ok1 (hw1 _ (by first | omega | simp <;> omega | fail)) (by first | (simp [hne, hf0, hf3, del, nAA, zaa, getK, zab, zac]; done) | fail) (by rfl) (by rfl) ?_; (try simp [hne, hf0, hf3, del, nAA]))
  | (refine CallP.ok1 (hb _ (by first | omega | simp <;> omega | fail)) (by first | (simp [hne, hf0, hf3, del, nAA, zaa, getK, zab, zac]; done) | fail) (by rfl) (by rfl) ?_; (try simp [hne, hf0, hf3, del, nAA]))
  | (refine CallP.ok1 (hw2 _ (by first | omega | simp <;> omega | fail)) (by first | (simp [hne, hf0, hf3, del, nAA, zaa, getK, zab, zac]; done) | fail) (by rfl) (by rfl) ?_; (try simp [hne, hf0, hf3, del, nAA]))
  | (refine zau (by first | rfl | fail) ?_; simp [hne, hf0, hf3, del, nAA, frzN, frz1, zaC, zaB, St.frz, St.frzS, frzS, fv, zaJ, za6, zba, zaG, zav, zan, del, frz, zbb])
  | fail)
      (refine EndW.frzN 1 ?_; simp [frzN, frz1, zaC, zaB, St.frz, St.frzS, frzS, fv, zaJ, za6, zba, zaG, zav, zan, del, frz, zbb, hne, nAA])
      refine EndW.norm ?_;simp [St.norm, zbi, zb2, zcq, zcr, hne, nAA]
      (refine EndW.here ?_; (first | (refine EndOK.fin (.inr rfl) ?_) | (refine EndOK.fin (.inl rfl) ?_)); simp [zay, zae, Tryz.results95, hne, hi]; refine FinOK.cut [(i, pOb l q4)] (nx) (by simp [zaa, getK, zab, zac, Ob.under, D.under, zad, zah, hne, hi] <;> omega) (by simp [D.under]) (by simp [hn]) ?_; try simp)
      exact PPost.zct (by simp [PR.bind, *]; rfl) (by simp [Exp.row_eq, Exp.op, Exp.n, Exp.unit, Exp.s, Exp.args]) rfl
theorem zj1 {l : List Tok} (hl : TokOK l) {f p : Nat} {form : Int} (hE : zf4 l f) (hp : p < l.length) (hf : 4 * (l.length - p) + 1 <= f)
  (hf0 : form = 0) (hf3 : form <= 3) (h1 : isB l p [105, 102] = false) (h2 : isB l p [110, 111, 116] = true) {i nx : Nat} (hi : i < nx) :
  RetX Tryz.prog 95 [.ptr i 0, zid form] [(i, pOb l p)] nx (PPost l i nx zja (zbt l (f + 1) p form)) := by
 have hne := zaE hi;have hll := hl.len;rw [zbt];have hh1 := fun nx' (h : nx <= nx') => zbj l p [105, 102] i nx' (by omega) hp hl.len;rw [h1] at hh1;simp only [if_true, Bool.false_eq_true, if_false] at hh1;have hp2 := zbc hl h2;have hh2 := fun nx' (h : nx <= nx') => zbj l p [110, 111, 116] i nx' (by omega) hp hl.len;rw [h2] at hh2;simp only [if_true, Bool.false_eq_true, if_false] at hh2;rw [if_neg (by simp [*]), if_pos ⟨hf3, h2⟩];have ha := fun nx' (h : nx <= nx') => hE (p + 1) 3 i nx' (by omega) hp2 (by omega) (by omega) (by omega);cases hr0 : zed l f (p + 1) 3 with
 | stop pos e =>
  simp only [hr0] at ha
  (refine RetX.of_bodyW Tryz.func95 rfl (by simp) fun Γ hn hpan => ?_); simp only [entry, ziC, ziN, maC, maN, oA, Tryz.ntmps95]
  repeat' (first
  | ((first | refine zaf ?_ | refine zaj ?_ | refine zag ?_ | refine zai ?_ | fail); simp [hne, hf0, hf3, del, nAA])
  | (refine zar ?_; simp only [zao])
  | (refine CallP.ok1 (hh1 _ (by first | omega | simp <;> omega | fail)) (by first | (simp [hne, hf0, hf3, del, nAA, zaa, getK, zab, zac]; done) | fail) (by rfl) (by rfl) ?_; (try simp [hne, hf0, hf3, del, nAA]))
  | (refine CallP.ok1 (hh2 _ (by first | omega | simp <;> omega | fail)) (by first | (simp [hne, hf0, hf3, del, nAA, zaa, getK, zab, zac]; done) | fail) (by rfl) (by rfl) ?_; (try simp [hne, hf0, hf3, del, nAA]))
  | (refine CallP.zeg (ha _ (by first | omega | simp <;> omega | fail)) (by first | (simp [hne, hf0, hf3, del, nAA, zaa, getK, zab, zac]; done) | fail) (by rfl) (by first | assumption | (simp; done) | fail) (by rfl) (by simp) ?_; rintro ob' ⟨q', rfl⟩; refine ⟨_, Wk.refl _, ?_⟩)
  | fail)
  (refine hpan _ _ ⟨{ n := _, env := [], obs := [(i, pOb l q')], next := nx }, (Wk.cut rfl (by simp [hn]) (by simp [wkO, zaa, getK, zab, zac, Ob.under, D.under, zad, zah, hi, hne, zab, zac, zaa, getK]) (by simp [wkU, zak, zaa, getK, D.under, hi, hne, zab, zac, zaa, getK]) (by simp [wkE, zak, zaa, getK, hi, hne, zab, zac, zaa, getK])), by simp [hn], ?_⟩; try simp)
  exact PPost.zaA (by simp [PR.bind, *])
 | ok v0 q0 =>
  have ha := fun nx' h => zdk (ha nx' h) hr0
  (refine RetX.of_bodyW Tryz.func95 rfl (by simp) fun Γ hn hpan => ?_); simp only [entry, ziC, ziN, maC, maN, oA, Tryz.ntmps95]
  repeat' (first
  | ((first | refine zaf ?_ | refine zaj ?_ | refine zag ?_ | refine zai ?_ | fail); simp [hne, hf0, hf3, del, nAA])
  | ((first | refine zap ?_ | refine zar ?_ | fail); simp only [zao])
  | (refine CallP.ok1 (hh1 _ (by first | omega | simp <;> omega | fail)) (by first | (simp [hne, hf0, hf3, del, nAA, zaa, getK, zab, zac]; done) | fail) (by rfl) (by rfl) ?_; (try simp [hne, hf0, hf3, del, nAA]))
  | (refine CallP.ok1 (hh2 _ (by first | omega | simp <;> omega | fail)) (by first | (simp [hne, hf0, hf3, del, nAA, zaa, getK, zab, zac]; done) | fail) (by rfl) (by rfl) ?_; (try simp [hne, hf0, hf3, del, nAA]))
  | (refine CallP.ok1 (ha _ (by first | omega | simp <;> omega | fail)) (by first | (simp [hne, hf0, hf3, del, nAA, zaa, getK, zab, zac]; done) | fail) (by rfl) (by rfl) ?_; (try simp [hne, hf0, hf3, del, nAA]))
  | fail)
  (refine EndW.frzN 1 ?_; simp [frzN, frz1, zaC, zaB, St.frz, St.frzS, frzS, fv, zaJ, za6, zba, zaG, zav, zan, del, frz, zbb, hne, nAA])
  refine EndW.norm ?_;simp [St.norm, zbi, zb2, zcq, zcr, hne, nAA]
  (refine EndW.here ?_; (first | (refine EndOK.fin (.inr rfl) ?_) | (refine EndOK.fin (.inl rfl) ?_)); simp [zay, zae, Tryz.results95, hne, hi]; refine FinOK.cut [(i, pOb l q0)] (nx) (by simp [zaa, getK, zab, zac, Ob.under, D.under, zad, zah, hne, hi] <;> omega) (by simp [D.under]) (by simp [hn]) ?_; try simp)
  exact PPost.zct (by simp [PR.bind, *]; rfl) (by simp [Exp.row_eq, Exp.op, Exp.n, Exp.unit, Exp.s, Exp.args]) rfl
theorem zj0 {l : List Tok} (hl : TokOK l) {f p : Nat} {form : Int} (hE : zf4 l f) (hp : p < l.length) (hf : 4 * (l.length - p) + 1 <= f)
  (hf0 : ¬ form = 0) (hf3 : form <= 3) (h2 : isB l p [110, 111, 116] = true) {i nx : Nat} (hi : i < nx) :
  RetX Tryz.prog 95 [.ptr i 0, zid form] [(i, pOb l p)] nx (PPost l i nx zja (zbt l (f + 1) p form)) := by
 have hne := zaE hi;have hll := hl.len;rw [zbt];have hp2 := zbc hl h2;have hh2 := fun nx' (h : nx <= nx') => zbj l p [110, 111, 116] i nx' (by omega) hp hl.len;rw [h2] at hh2;simp only [if_true, Bool.false_eq_true, if_false] at hh2;rw [if_neg (by simp [*]), if_pos ⟨hf3, h2⟩];have ha := fun nx' (h : nx <= nx') => hE (p + 1) 3 i nx' (by omega) hp2 (by omega) (by omega) (by omega);cases hr0 : zed l f (p + 1) 3 with
 | stop pos e =>
  simp only [hr0] at ha
  (refine RetX.of_bodyW Tryz.func95 rfl (by simp) fun Γ hn hpan => ?_); simp only [entry, ziC, ziN, maC, maN, oA, Tryz.ntmps95]
  repeat' (first
  | ((first | refine zaf ?_ | refine zaj ?_ | refine zag ?_ | refine zai ?_ | fail); simp [hne, hf0, hf3, del, nAA])
  | (refine zar ?_; simp only [zao])
  | (refine CallP.ok1 (hh2 _ (by first | omega | simp <;> omega | fail)) (by first | (simp [hne, hf0, hf3, del, nAA, zaa, getK, zab, zac]; done) | fail) (by rfl) (by rfl) ?_; (try simp [hne, hf0, hf3, del, nAA]))
  | (refine CallP.zeg (ha _ (by first | omega | simp <;> omega | fail)) (by first | (simp [hne, hf0, hf3, del, nAA, zaa, getK, zab, zac]; done) | fail) (by rfl) (by first | assumption | (simp; done) | fail) (by rfl) (by simp) ?_; rintro ob' ⟨q', rfl⟩; refine ⟨_, Wk.refl _, ?_⟩)
  | fail)
  (refine hpan _ _ ⟨{ n := _, env := [], obs := [(i, pOb l q')], next := nx }, (Wk.cut rfl (by simp [hn]) (by simp [wkO, zaa, getK, zab, zac, Ob.under, D.under, zad, zah, hi, hne, zab, zac, zaa, getK]) (by simp [wkU, zak, zaa, getK, D.under, hi, hne, zab, zac, zaa, getK]) (by simp [wkE, zak, zaa, getK, hi, hne, zab, zac, zaa, getK])), by simp [hn], ?_⟩; try simp)
  exact PPost.zaA (by simp [PR.bind, *])
 | ok v0 q0 =>
  have ha := fun nx' h => zdk (ha nx' h) hr0
  (refine RetX.of_bodyW Tryz.func95 rfl (by simp) fun Γ hn hpan => ?_); simp only [entry, ziC, ziN, maC, maN, oA, Tryz.ntmps95]
  repeat' (first
  | ((first | refine zaf ?_ | refine zaj ?_ | refine zag ?_ | refine zai ?_ | fail); simp [hne, hf0, hf3, del, nAA])
  | ((first | refine zap ?_ | refine zar ?_ | fail); simp only [zao])
  | (refine CallP.ok1 (hh2 _ (by first | omega | simp <;> omega | fail)) (by first | (simp [hne, hf0, hf3, del, nAA, zaa, getK, zab, zac]; done) | fail) (by rfl) (by rfl) ?_; (try simp [hne, hf0, hf3, del, nAA]))
  | (refine CallP.ok1 (ha _ (by first | omega | simp <;> omega | fail)) (by first | (simp [hne, hf0, hf3, del, nAA, zaa, getK, zab, zac]; done) | fail) (by rfl) (by rfl) ?_; (try simp [hne, hf0, hf3, del, nAA]))
  | fail)
  (refine EndW.frzN 1 ?_; simp [frzN, frz1, zaC, zaB, St.frz, St.frzS, frzS, fv, zaJ, za6, zba, zaG, zav, zan, del, frz, zbb, hne, nAA])
  refine EndW.norm ?_;simp [St.norm, zbi, zb2, zcq, zcr, hne, nAA]
  (refine EndW.here ?_; (first | (refine EndOK.fin (.inr rfl) ?_) | (refine EndOK.fin (.inl rfl) ?_)); simp [zay, zae, Tryz.results95, hne, hi]; refine FinOK.cut [(i, pOb l q0)] (nx) (by simp [zaa, getK, zab, zac, Ob.under, D.under, zad, zah, hne, hi] <;> omega) (by simp [D.under]) (by simp [hn]) ?_; try simp)
  exact PPost.zct (by simp [PR.bind, *]; rfl) (by simp [Exp.row_eq, Exp.op, Exp.n, Exp.unit, Exp.s, Exp.args]) rfl
theorem zi3 {l : List Tok} (hl : TokOK l) {f p : Nat} {form : Int} (hP : zhI l f) (hp : p < l.length) (hf : 4 * (l.length - p) + 1 <= f)
  (hf0 : form = 0) (hf3 : form <= 3) (h1 : isB l p [105, 102] = false) (h2 : isB l p [110, 111, 116] = false) {i nx : Nat} (hi : i < nx) :
  RetX Tryz.prog 95 [.ptr i 0, zid form] [(i, pOb l p)] nx (PPost l i nx zja (zbt l (f + 1) p form)) := by
 have hne := zaE hi;have hll := hl.len;rw [zbt];have hh1 := fun nx' (h : nx <= nx') => zbj l p [105, 102] i nx' (by omega) hp hl.len;rw [h1] at hh1;simp only [if_true, Bool.false_eq_true, if_false] at hh1;have hh2 := fun nx' (h : nx <= nx') => zbj l p [110, 111, 116] i nx' (by omega) hp hl.len;rw [h2] at hh2;simp only [if_true, Bool.false_eq_true, if_false] at hh2;rw [if_neg (by simp [*]), if_neg (by simp [*])];have ha := fun nx' (h : nx <= nx') => hP p i nx' (by omega) hp (by omega);cases hr0 : za3 l f p with
 | stop pos e =>
  simp only [hr0] at ha
  (refine RetX.of_bodyW Tryz.func95 rfl (by simp) fun Γ hn hpan => ?_); simp only [entry, ziC, ziN, maC, maN, oA, Tryz.ntmps95]
  repeat' (first
  | ((first | refine zaf ?_ | refine zaj ?_ | refine zag ?_ | refine zai ?_ | fail); simp [hne, hf0, hf3, del, nAA])
  | (refine zar ?_; simp only [zao])
  | (refine CallP.ok1 (hh1 _ (by first | omega | simp <;> omega | fail)) (by first | (simp [hne, hf0, hf3, del, nAA, zaa, getK, zab, zac]; done) | fail) (by rfl) (by rfl) ?_; (try simp [hne, hf0, hf3, del, nAA]))
  | (refine CallP.ok1 (hh2 _ (by first | omega | simp <;> omega | fail)) (by first | (simp [hne, hf0, hf3, del, nAA, zaa, getK, zab, zac]; done) | fail) (by rfl) (by rfl) ?_; (try simp [hne, hf0, hf3, del, nAA]))
  | (refine CallP.zeg (ha _ (by first | omega | simp <;> omega | fail)) (by first | (simp [hne, hf0, hf3, del, nAA, zaa, getK, zab, zac]; done) | fail) (by rfl) (by first | assumption | (simp; done) | fail) (by rfl) (by simp) ?_; rintro ob' ⟨q', rfl⟩; refine ⟨_, Wk.refl _, ?_⟩)
  | fail)
  (refine hpan _ _ ⟨{ n := _, env := [], obs := [(i, pOb l q')], next := nx }, (Wk.cut rfl (by simp [hn]) (by simp [wkO, zaa, getK, zab, zac, Ob.under, D.under, zad, zah, hi, hne, zab, zac, zaa, getK]) (by simp [wkU, zak, zaa, getK, D.under, hi, hne, zab, zac, zaa, getK]) (by simp [wkE, zak, zaa, getK, hi, hne, zab, zac, zaa, getK])), by simp [hn], ?_⟩; try simp)
  exact PPost.zaA (by simp [PR.bind, *])
 | ok v0 q0 =>
  have ha := fun nx' h => zdk (ha nx' h) hr0
  (refine RetX.of_bodyW Tryz.func95 rfl (by simp) fun Γ hn hpan => ?_); simp only [entry, ziC, ziN, maC, maN, oA, Tryz.ntmps95]
  repeat' (first
  | ((first | refine zaf ?_ | refine zaj ?_ | refine zag ?_ | refine zai ?_ | fail); simp [hne, hf0, hf3, del, nAA])
  | ((first | refine zap ?_ | refine zar ?_ | fail); simp only [zao])
  | (refine CallP.ok1 (hh1 _ (by first | omega | simp <;> omega | fail)) (by first | (simp [hne, hf0, hf3, del, nAA, zaa, getK, zab, zac]; done) | fail) (by rfl) (by rfl) ?_; (try simp [hne, hf0, hf3, del, nAA]))
  | (refine CallP.ok1 (hh2 _ (by first | omega | simp <;> omega | fail)) (by first | (simp [hne, hf0, hf3, del, nAA, zaa, getK, zab, zac]; done) | fail) (by rfl) (by rfl) ?_; (try simp [hne, hf0, hf3, del, nAA]))
  | (refine CallP.ok1 (ha _ (by first | omega | simp <;> omega | fail)) (by first | (simp [hne, hf0, hf3, del, nAA, zaa, getK, zab, zac]; done) | fail) (by rfl) (by rfl) ?_; (try simp [hne, hf0, hf3, del, nAA]))
  | fail)
  refine EndW.norm ?_;simp [St.norm, zbi, zb2, zcq, zcr, hne, nAA]
  (refine EndW.here ?_; (first | (refine EndOK.fin (.inr rfl) ?_) | (refine EndOK.fin (.inl rfl) ?_)); simp [zay, zae, Tryz.results95, hne, hi]; refine FinOK.cut [(i, pOb l q0)] (nx) (by simp [zaa, getK, zab, zac, Ob.under, D.under, zad, zah, hne, hi] <;> omega) (by simp [D.under]) (by simp [hn]) ?_; try simp)
  exact PPost.zct (by simp [PR.bind, *]; rfl) (by simp [Exp.row_eq, Exp.op, Exp.n, Exp.unit, Exp.s, Exp.args]) rfl
theorem zi2 {l : List Tok} (hl : TokOK l) {f p : Nat} {form : Int} (hP : zhI l f) (hp : p < l.length) (hf : 4 * (l.length - p) + 1 <= f)
  (hf0 : ¬ form = 0) (hf3 : form <= 3) (h2 : isB l p [110, 111, 116] = false) {i nx : Nat} (hi : i < nx) :
  RetX Tryz.prog 95 [.ptr i 0, zid form] [(i, pOb l p)] nx (PPost l i nx zja (zbt l (f + 1) p form)) := by
 have hne := zaE hi;have hll := hl.len;rw [zbt];have hh2 := fun nx' (h : nx <= nx') => zbj l p [110, 111, 116] i nx' (by omega) hp hl.len;rw [h2] at hh2;simp only [if_true, Bool.false_eq_true, if_false] at hh2;rw [if_neg (by simp [*]), if_neg (by simp [*])];have ha := fun nx' (h : nx <= nx') => hP p i nx' (by omega) hp (by omega);cases hr0 : za3 l f p with
 | stop pos e =>
  simp only [hr0] at ha
  (refine RetX.of_bodyW Tryz.func95 rfl (by simp) fun Γ hn hpan => ?_); simp only [entry, ziC, ziN, maC, maN, oA, Tryz.ntmps95]
  repeat' (first
  | ((first | refine zaf ?_ | refine zaj ?_ | refine zag ?_ | refine zai ?_ | fail); simp [hne, hf0, hf3, del, nAA])
  | (refine zar ?_; simp only [zao])
  | (refine CallP.ok1 (hh2 _ (by first | omega | simp <;> omega | fail)) (by first | (simp [hne, hf0, hf3, del, nAA, zaa, getK, zab, zac]; done) | fail) (by rfl) (by rfl) ?_; (try simp [hne, hf0, hf3, del, nAA]))
  | (refine CallP.zeg (ha _ (by first | omega | simp <;> omega | fail)) (by first | (simp [hne, hf0, hf3, del, nAA, zaa, getK, zab, zac]; done) | fail) (by rfl) (by first | assumption | (simp; done) | fail) (by rfl) (by simp) ?_; rintro ob' ⟨q', rfl⟩; refine ⟨_, Wk.refl _, ?_⟩)
  | fail)
  (refine hpan _ _ ⟨{ n := _, env := [], obs := [(i, pOb l q')], next := nx }, (Wk.cut rfl (by simp [hn]) (by simp [wkO, zaa, getK, zab, zac, Ob.under, D.under, zad, zah, hi, hne, zab, zac, zaa, getK]) (by simp [wkU, zak, zaa, getK, D.under, hi, hne, zab, zac, zaa, getK]) (by simp [wkE, zak, zaa, getK, hi, hne, zab, zac, zaa, getK])), by simp [hn], ?_⟩; try simp)
  exact PPost.zaA (by simp [PR.bind, *])
 | ok v0 q0 =>
  have ha := fun nx' h => zdk (ha nx' h) hr0
  (refine RetX.of_bodyW Tryz.func95 rfl (by simp) fun Γ hn hpan => ?_); simp only [entry, ziC, ziN, maC, maN, oA, Tryz.ntmps95]
  repeat' (first
  | ((first | refine zaf ?_ | refine zaj ?_ | refine zag ?_ | refine zai ?_ | fail); simp [hne, hf0, hf3, del, nAA])
  | ((first | refine zap ?_ | refine zar ?_ | fail); simp only [zao])
  | (refine CallP.ok1 (hh2 _ (by first | omega | simp <;> omega | fail)) (by first | (simp [hne, hf0, hf3, del, nAA, zaa, getK, zab, zac]; done) | fail) (by rfl) (by rfl) ?_; (try simp [hne, hf0, hf3, del, nAA]))
  | (refine CallP.ok1 (ha _ (by first | omega | simp <;> omega | fail)) (by first | (simp [hne, hf0, hf3, del, nAA, zaa, getK, zab, zac]; done) | fail) (by rfl) (by rfl) ?_; (try simp [hne, hf0, hf3, del, nAA]))
  | fail)
  refine EndW.norm ?_;simp [St.norm, zbi, zb2, zcq, zcr, hne, nAA]
  (refine EndW.here ?_; (first | (refine EndOK.fin (.inr rfl) ?_) | (refine EndOK.fin (.inl rfl) ?_)); simp [zay, zae, Tryz.results95, hne, hi]; refine FinOK.cut [(i, pOb l q0)] (nx) (by simp [zaa, getK, zab, zac, Ob.under, D.under, zad, zah, hne, hi] <;> omega) (by simp [D.under]) (by simp [hn]) ?_; try simp)
  exact PPost.zct (by simp [PR.bind, *]; rfl) (by simp [Exp.row_eq, Exp.op, Exp.n, Exp.unit, Exp.s, Exp.args]) rfl
theorem zi1 {l : List Tok} (hl : TokOK l) {f p : Nat} {form : Int} (hP : zhI l f) (hp : p < l.length) (hf : 4 * (l.length - p) + 1 <= f)
  (hf0 : ¬ form = 0) (hf3 : ¬ form <= 3) {i nx : Nat} (hi : i < nx) :
  RetX Tryz.prog 95 [.ptr i 0, zid form] [(i, pOb l p)] nx (PPost l i nx zja (zbt l (f + 1) p form)) := by
 have hne := zaE hi;have hll := hl.len;rw [zbt];rw [if_neg (by simp [*]), if_neg (by simp [*])];have ha := fun nx' (h : nx <= nx') => hP p i nx' (by omega) hp (by omega);cases hr0 : za3 l f p with
 | stop pos e =>
  simp only [hr0] at ha
  (refine RetX.of_bodyW Tryz.func95 rfl (by simp) fun Γ hn hpan => ?_); simp only [entry, ziC, ziN, maC, maN, oA, Tryz.ntmps95]
  repeat' (first
  | ((first | refine zaf ?_ | refine zaj ?_ | refine zag ?_ | refine zai ?_ | fail); simp [hne, hf0, hf3, del, nAA])
  | (refine zar ?_; simp only [zao])
  | (refine CallP.zeg (ha _ (by first | omega | simp <;> omega | fail)) (by first | (simp [hne, hf0, hf3, del, nAA, zaa, getK, zab, zac]; done) | fail) (by rfl) (by first | assumption | (simp; done) | fail) (by rfl) (by simp) ?_; rintro ob' ⟨q', rfl⟩; refine ⟨_, Wk.refl _, ?_⟩)
  | fail)
  (refine hpan _ _ ⟨{ n := _, env := [], obs := [(i, pOb l q')], next := nx }, (Wk.cut rfl (by simp [hn]) (by simp [wkO, zaa, getK, zab, zac, Ob.under, D.under, zad, zah, hi, hne, zab, zac, zaa, getK]) (by simp [wkU, zak, zaa, getK, D.under, hi, hne, zab, zac, zaa, getK]) (by simp [wkE, zak, zaa, getK, hi, hne, zab, zac, zaa, getK])), by simp [hn], ?_⟩; try simp)
  exact PPost.zaA (by simp [PR.bind, *])
 | ok v0 q0 =>
  have ha := fun nx' h => zdk (ha nx' h) hr0
  (refine RetX.of_bodyW Tryz.func95 rfl (by simp) fun Γ hn hpan => ?_); simp only [entry, ziC, ziN, maC, maN, oA, Tryz.ntmps95]
  repeat' (first
  | ((first | refine zaf ?_ | refine zaj ?_ | refine zag ?_ | refine zai ?_ | fail); simp [hne, hf0, hf3, del, nAA])
  | ((first | refine zap ?_ | refine zar ?_ | fail); simp only [zao])
  | (refine CallP.ok1 (ha _ (by first | omega | simp <;> omega | fail)) (by first | (simp [hne, hf0, hf3, del, nAA, zaa, getK, zab, zac]; done) | fail) (by rfl) (by rfl) ?_; (try simp [hne, hf0, hf3, del, nAA]))
  | fail)
  refine EndW.norm ?_;simp [St.norm, zbi, zb2, zcq, zcr, hne, nAA]
  (refine EndW.here ?_; (first | (refine EndOK.fin (.inr rfl) ?_) | (refine EndOK.fin (.inl rfl) ?_)); simp [zay, zae, Tryz.results95, hne, hi]; refine FinOK.cut [(i, pOb l q0)] (nx) (by simp [zaa, getK, zab, zac, Ob.under, D.under, zad, zah, hne, hi] <;> omega) (by simp [D.under]) (by simp [hn]) ?_; try simp)
  exact PPost.zct (by simp [PR.bind, *]; rfl) (by simp [Exp.row_eq, Exp.op, Exp.n, Exp.unit, Exp.s, Exp.args]) rfl
theorem zjZ {l : List Tok} (hl : TokOK l) {f : Nat} (hE : zf4 l f) (hP : zhI l f) : zpq l (f + 1) := by
 intro p form i nx hi hp hf hm0 hm7;have hf' : 4 * (l.length - p) + 1 <= f := by omega
 by_cases hf0 : form = 0
 ·have hf3 : form <= 3 := by omega
  cases h1 : isB l p [105, 102] with
  | true => exact zmn hl hE hp hf' hf0 h1 hi
  | false =>
   cases h2 : isB l p [110, 111, 116] with
   | true => exact zj1 hl hE hp hf' hf0 hf3 h1 h2 hi
   | false => exact zi3 hl hP hp hf' hf0 hf3 h1 h2 hi
 ·by_cases hf3 : form <= 3
  ·cases h2 : isB l p [110, 111, 116] with
   | true => exact zj0 hl hE hp hf' hf0 hf3 h2 hi
   | false => exact zi2 hl hP hp hf' hf0 hf3 h2 hi
  ·exact zi1 hl hP hp hf' hf0 hf3 hi
theorem zmv (s : List UInt8) (l : List Tok) (nx : Nat) (h : zkA s = .ok l) :
  RetX Tryz.prog 34 [.u (.str s)] [] nx (fun r o n => r = .val (.tup [.ptr nx 0, .u (.int .i64 0), .u (.int .i64 0)]) /\ o = [(nx, pOb l 0)] /\ n = nx + 1) := by
 have h1 := zmK s;rw [h] at h1;simp only [zhr] at h1
 (refine RetX.of_bodyW Tryz.func34 rfl (by simp) fun Γ hn hpan => ?_); simp only [entry, ziC, ziN, maC, maN, oA, Tryz.ntmps34]
 repeat' (first
  | ((first | refine zaf ?_ | refine zaj ?_ | refine zag ?_ | fail); simp)
  | (refine zap ?_; simp only [zao])
  | (refine CallP.fE (h1) (by first | rfl | fail) (by first | (simp; done) | (simp; rfl) | fail) ?_; (try simp))
  | fail)
 (refine EndW.here ?_; (first | (refine EndOK.fin (.inr rfl) ?_) | (refine EndOK.fin (.inl rfl) ?_)); simp [zay, zae, Tryz.results34]; refine FinOK.here (by simp) ?_; try simp)
theorem zku (s : List UInt8) (p : Nat) (e : Int) (nx : Nat) (h : zkA s = .error (p, e)) :
  RetX Tryz.prog 34 [.u (.str s)] [] nx (fun r o n => r = .val (.tup [.ptr nx 0, .u (.int .i64 p), .u (.int .i64 e)]) /\ o = [(nx, pOb [] 0)] /\ n = nx + 1) := by
 have h1 := zmK s;rw [h] at h1;simp only [zhr] at h1
 (refine RetX.of_bodyW Tryz.func34 rfl (by simp) fun Γ hn hpan => ?_); simp only [entry, ziC, ziN, maC, maN, oA, Tryz.ntmps34]
 repeat' (first
  | ((first | refine zaf ?_ | refine zaj ?_ | refine zag ?_ | fail); simp)
  | (refine zap ?_; simp only [zao])
  | (refine CallP.fE (h1) (by first | rfl | fail) (by first | (simp; done) | (simp; rfl) | fail) ?_; (try simp))
  | fail)
 (refine EndW.here ?_; (first | (refine EndOK.fin (.inr rfl) ?_) | (refine EndOK.fin (.inl rfl) ?_)); simp [zay, zae, Tryz.results34]; refine FinOK.here (by simp) ?_; try simp)
theorem zgV (i j nx : Nat) (hi : i < nx) (hj : j < nx) (hij : i ≠ j) (p e : Int) :
  RetX Tryz.prog 36 [.u (.oth .nilIface), .ptr i 0, .ptr j 0] [(i, .box [.u (.int .i64 p)]), (j, .box [.u (.int .i64 e)])] nx
   (fun r o n => r = .val (.u (.bool false)) /\ o = [(i, .box [.u (.int .i64 p)]), (j, .box [.u (.int .i64 e)])] /\ n = nx) := by
 have hne := zaE hi;have hne2 := zaE hj
 (refine RetX.of_bodyW Tryz.func36 rfl (by simp) fun Γ hn hpan => ?_); simp only [entry, ziC, ziN, maC, maN, oA, Tryz.ntmps36]
 repeat' (first
  | ((first | refine zaf ?_ | refine zaj ?_ | refine zag ?_ | fail); simp [hne, hne2, hij, Ne.symm hij])
  | fail)
 refine ⟨[.int .i64 0, .int .i64 0], rfl, ?_⟩
 repeat' (first
  | ((first | refine zaf ?_ | refine zaj ?_ | refine zag ?_ | refine zai ?_ | fail); simp [hne, hne2, hij, Ne.symm hij])
  | ((first | refine zap ?_ | refine zar ?_ | fail); simp only [zao])
  | fail)
 (refine EndW.here ?_; (first | (refine EndOK.fin (.inr rfl) ?_) | (refine EndOK.fin (.inl rfl) ?_)); simp [zay, zae, Tryz.results36, hne, hne2, hij, Ne.symm hij, hi, hj]; refine FinOK.cut [(i, .box [.u (.int .i64 p)]), (j, .box [.u (.int .i64 e)])] (nx) (by simp [zaa, getK, zab, zac, Ob.under, D.under, zad, zah, hne, hne2, hij, Ne.symm hij, hi, hj] <;> omega) (by simp [D.under]) (by simp [hn]) ?_; try simp)
theorem zgU (i j nx : Nat) (hi : i < nx) (hj : j < nx) (hij : i ≠ j) (p e pos err : Int) :
  RetX Tryz.prog 36 [.u (.oth (.iface 105 (.agg #[.int .i64 pos, .int .i64 err]))), .ptr i 0, .ptr j 0] [(i, .box [.u (.int .i64 p)]), (j, .box [.u (.int .i64 e)])] nx
   (fun r o n => r = .val (.u (.bool true)) /\ o = [(i, .box [.u (.int .i64 pos)]), (j, .box [.u (.int .i64 err)])] /\ n = nx) := by
 have hne := zaE hi;have hne2 := zaE hj
 (refine RetX.of_bodyW Tryz.func36 rfl (by simp) fun Γ hn hpan => ?_); simp only [entry, ziC, ziN, maC, maN, oA, Tryz.ntmps36]
 repeat' (first
  | ((first | refine zaf ?_ | refine zaR rfl ?_ | refine zcb rfl ?_ | refine zaj ?_ | refine zag ?_ | refine zai ?_ | fail); simp [hne, hne2, hij, Ne.symm hij])
  | (refine zaX (hC _ (zcj [i, j] nx (by simp <;> omega) (by simp <;> omega) (by apply Exists.intro; apply And.intro; (focus (repeat' (first | exact KF.nil | exact KL.nil | apply KF.cons | apply KL.cons 0 rfl | apply KL.cons 1 rfl | apply KL.cons 2 rfl | apply KL.cons 3 rfl | apply KL.cons 4 rfl | apply KL.cons 5 rfl | apply KL.cons 6 rfl | apply KL.cons 7 rfl | apply KL.cons 8 rfl | apply KL.cons 9 rfl))); kernel_rfl))) (hk _ ?_); clear hC hk C k; simp only [zao])
  | (refine za2 rfl (by kernel_rfl) (by first | (simp [hn]; done) | (simp [hn]; omega) | fail) fun C k hC hk => ?_; simp [hne, hne2, hij, Ne.symm hij])
  | ((first | refine zap ?_ | refine zar ?_ | fail); simp only [zao])
  | fail)
 (refine EndW.here ?_; (first | (refine EndOK.fin (.inr rfl) ?_) | (refine EndOK.fin (.inl rfl) ?_)); simp [zay, zae, Tryz.results36, hne, hne2, hij, Ne.symm hij, hi, hj]; refine FinOK.cut [(i, .box [.u (.int .i64 pos)]), (j, .box [.u (.int .i64 err)])] (nx) (by simp [zaa, getK, zab, zac, Ob.under, D.under, zad, zah, hne, hne2, hij, Ne.symm hij, hi, hj] <;> omega) (by simp [D.under]) (by simp [hn]) ?_; try simp)
theorem znP (i j q nx : Nat) (hi : i < nx) (hj : j < nx) (hq : q < nx) (hij : i ≠ j) (hiq : i ≠ q) (hjq : j ≠ q) (p e : Int) (cells : List U) :
  RetDf Tryz.prog 40 [.ptr i 0, .ptr j 0, .ptr q 0] [(i, .box [.u (.int .i64 p)]), (j, .box [.u (.int .i64 e)]), (q, .box (cells.map .u))] nx .returning
   (fun u o n => settle u = .returning /\ n = nx /\ o = [(i, .box [.u (.int .i64 p)]), (j, .box [.u (.int .i64 e)]), (q, .box (cells.map .u))]) := by
 have hne := zaE hi;have hne2 := zaE hj;have hne3 := zaE hq;have hc0 := zgV i j nx hi hj hij p e;refine RetDf.of_body Tryz.func40 rfl (by simp) (by simp) rfl fun Γ hn => ?_;simp [entry, zjV, Tryz.ntmps40];refine CallP.x2 hc0 (by simp [getK]) (by simp [getK, hij, Ne.symm hij]) hij rfl rfl (by simp) (by simp) (fun d o1 nx' hnx h => ?_) (fun ch o1 nx' hnx h => by cases h.1);obtain ⟨h1, rfl, h4⟩ := h;have h4 := h4.symm;subst h4;cases h1;simp [del, hij, Ne.symm hij, hiq, hjq, Ne.symm hiq, Ne.symm hjq]
 repeat' (first
  | (refine zai ?_; simp [hij, hiq, hjq])
  | (refine zar ?_; simp only [zao])
  | fail)
 (refine ⟨by simp, { n := _, env := [], obs := [(i, .box [.u (.int .i64 p)]), (j, .box [.u (.int .i64 e)]), (q, .box (cells.map .u))], next := nx }, (Wk.cut rfl (by simp [hn]) (by simp [wkO, zaa, getK, zab, zac, Ob.under, D.under, zad, zah, hi, hj, hq, hne, hne2, hne3, hij, hiq, hjq, Ne.symm hij, Ne.symm hiq, Ne.symm hjq]) (by simp [wkU, zak, zaa, getK, D.under, hi, hj, hq, hne, hne2, hne3, hij, hiq, hjq, Ne.symm hij, Ne.symm hiq, Ne.symm hjq]) (by simp [wkE, zak, zaa, getK, hi, hj, hq, hne, hne2, hne3, hij, hiq, hjq, Ne.symm hij, Ne.symm hiq, Ne.symm hjq])), by simp [hn], ?_⟩; try simp)
 all_goals rfl
end Go.Proofs.YthnemhfamhnfjaaGreatDoor
namespace Go.Proofs.YthnemhfamhnfjaaGreatDoor
open Go Go.VL
theorem zjX {l : List Tok} (hl : TokOK l) {f p : Nat} (hE : zf4 l f) (hf : 4 * (l.length - p) <= f) {t : Tok} (ht : l[p]? = some t) (hk : ¬ t.kind = 2) (h1 : isB l p [116, 114, 117, 101] = false) (h2 : isB l p [102, 97, 108, 115, 101] = false)
  (h3 : isB l p [109, 105, 110] = true) (h4 : isB l p [109, 97, 120] = false) {i nx : Nat} (hi : i < nx) :
  RetX Tryz.prog 133 [.ptr i 0] [(i, pOb l p)] nx (PPost l i nx zee (za3 l (f + 1) p)) := zhj hl hE hf ht hk h1 h2 (.inr ⟨h3, h4⟩) hi
end Go.Proofs.YthnemhfamhnfjaaGreatDoor
namespace Go.Proofs.YthnemhfamhnfjaaGreatDoor
open Go Go.VL
attribute [local simp] HS zc2 zb3 evPure opd uOf zaF St.put St.at getK binD binI binS binB nilD aggD zgQ zha lookD lookR zcu Go.VL.nextD zcx zhu zhc zf2 zcw mkV zdj zbk zbu mapEff zdY zfQ Key.kk shiftI arith unD convD zdH loadD cellsAt fieldAddrD fieldD indexAddrD indexD sliceD cutD lenD minmaxD nilCheckD buildD fillD zbP zdb zeC setAll zcK zeO zco zg0 zcm St.add zaO zbF rowsOf zdA zcH zam zac zaa za7 zcC zaQ entry zbE zbO valD zb4 zcy zgh zdh zdi zbT zbK zaw zaW zbo delAll effD St.effS zcU za8 zaY zcV za9 za0 zb9 zaZ zaT zca zcS zbD zb8 zbl zb6 zb7 zaL mkD zbL zbv zbJ zaw zcn D.ids Op.operands Call.operands zby makeIfD makeFuncD typeAssertD zg9 zdw zdx zg1 zcv IntKind.bits zcN List.take_of_length_le List.range_succ
attribute [local irreducible] V G H HD HD2 HD4 zjP RetX zao Eff CallP CallV EndOK Fun Ret FinOK LoopI LoopW EndW
theorem zi0 {l : List Tok} (hl : TokOK l) {f p : Nat} {t : Tok} (ht : l[p]? = some t) (hk : ¬ t.kind = 2) (h1 : isB l p [116, 114, 117, 101] = false) (h2 : isB l p [102, 97, 108, 115, 101] = false)
  (h3 : isB l p [109, 105, 110] = false) (h4 : isB l p [109, 97, 120] = false) (h5 : isB l p [40] = false) {i nx : Nat} (hi : i < nx) :
  RetX Tryz.prog 133 [.ptr i 0] [(i, pOb l p)] nx (PPost l i nx zee (za3 l (f + 1) p)) := by
 have hne := zaE hi;have hp := (lGE.1 ht).1;have hnx := zb1 l p t ht hl.len;have hll := hl.len;rw [za3, ht];have hh1 := fun nx' (h : nx <= nx') => zbj l p [116, 114, 117, 101] i nx' (by omega) hp hl.len;have hh2 := fun nx' (h : nx <= nx') => zbj l p [102, 97, 108, 115, 101] i nx' (by omega) hp hl.len;have hm1 := zec l p [109, 105, 110] hp hl.len;have hm2 := zec l p [109, 97, 120] hp hl.len;have hh3 := fun nx' (h : nx <= nx') => zbj l p [40] i nx' (by omega) hp hl.len;have hnm := zeD t.text;have hc1 := fun nx' (h : nx <= nx') => zdF l p 12 i nx' (by omega);have hc2 := fun nx' (h : nx <= nx') => zcM l p t 12 i nx' (by omega) ht hl.len;simp only [hk, h1, h2, h3, h4, h5, if_false, if_true, Bool.false_eq_true, or_self] at hh1 hh2 hm1 hm2 hh3 ⊢;by_cases hw : t.kind = 1
 ·cases hb : zcs t.text with
  | true =>
   simp only [hb, hw, and_self, if_true] at hnm ⊢
   (refine RetX.of_bodyW Tryz.func133 rfl (by simp) fun Γ hn hpan => ?_); simp only [entry, ziC, ziN, maC, maN, oA, Tryz.ntmps133]
   repeat' (first
  | ((first | refine zaf ?_ | refine zaj ?_ | fail); simp [hne, hk, hw, del, nAA])
  | (refine ⟨by omega, ?_⟩)
  | ((first | refine zag ?_ | refine zai ?_ | fail); simp [hne, hk, hw, del, nAA])
  | ((first | refine zap ?_ | refine zar ?_ | fail); simp only [zao])
  | (refine CallP.fE (hnx) (by first | rfl | fail) (by first | simp [hne, hk, hw, del, nAA] <;> rfl | fail) ?_; (try simp [hne, hk, hw, del, nAA]))
  | (refine CallP.fE (hm1) (by first | rfl | fail) (by first | simp [hne, hk, hw, del, nAA] <;> rfl | fail) ?_; (try simp [hne, hk, hw, del, nAA]))
  | (refine CallP.fE (hm2) (by first | rfl | fail) (by first | simp [hne, hk, hw, del, nAA] <;> rfl | fail) ?_; (try simp [hne, hk, hw, del, nAA]))
  | (refine CallP.fE (hnm) (by first | rfl | fail) (by first | simp [hne, hk, hw, del, nAA] <;> rfl | fail) ?_; (try simp [hne, hk, hw, del, nAA]))
  | (refine CallP.ok1 (hh1 _ (by first | omega | simp <;> omega | fail)) (by first | (simp [hne, hk, hw, del, nAA, zaa, getK, zab, zac]; done) | fail) (by rfl) (by rfl) ?_; (try simp [hne, hk, hw, del, nAA]))
  | (refine CallP.ok1 (hh2 _ (by first | omega | simp <;> omega | fail)) (by first | (simp [hne, hk, hw, del, nAA, zaa, getK, zab, zac]; done) | fail) (by rfl) (by rfl) ?_; (try simp [hne, hk, hw, del, nAA]))
  | (refine CallP.ok1 (hh3 _ (by first | omega | simp <;> omega | fail)) (by first | (simp [hne, hk, hw, del, nAA, zaa, getK, zab, zac]; done) | fail) (by rfl) (by rfl) ?_; (try simp [hne, hk, hw, del, nAA]))
  | (refine CallP.ok1 (hc1 _ (by first | omega | simp <;> omega | fail)) (by first | (simp [hne, hk, hw, del, nAA, zaa, getK, zab, zac]; done) | fail) (by rfl) (by rfl) ?_; (try simp [hne, hk, hw, del, nAA]))
  | fail)
   refine EndW.norm ?_;simp [St.norm, zbi, zb2, zcq, zcr, hne]
   (refine EndW.here ?_; (first | (refine EndOK.fin (.inr rfl) ?_) | (refine EndOK.fin (.inl rfl) ?_)); simp [zay, zae, Tryz.results133, hne, hi]; refine FinOK.cut [(i, pOb l (p + 1))] (nx) (by simp [zaa, getK, zab, zac, Ob.under, D.under, zad, zah, hne, hi] <;> omega) (by simp [D.under]) (by simp [hn]) ?_; try simp)
   exact PPost.zct rfl (by simp [Exp.row]) rfl
  | false =>
   simp only [hb, hw, Bool.false_eq_true, and_false, if_false] at hnm ⊢
   (refine RetX.of_bodyW Tryz.func133 rfl (by simp) fun Γ hn hpan => ?_); simp only [entry, ziC, ziN, maC, maN, oA, Tryz.ntmps133]
   repeat' (first
  | ((first | refine zaf ?_ | refine zaj ?_ | refine zag ?_ | refine zai ?_ | fail); simp [hne, hk, hw, del, nAA])
  | (refine zar ?_; simp only [zao])
  | (refine CallP.fE (hnx) (by first | rfl | fail) (by first | simp [hne, hk, hw, del, nAA] <;> rfl | fail) ?_; (try simp [hne, hk, hw, del, nAA]))
  | (refine CallP.fE (hm1) (by first | rfl | fail) (by first | simp [hne, hk, hw, del, nAA] <;> rfl | fail) ?_; (try simp [hne, hk, hw, del, nAA]))
  | (refine CallP.fE (hm2) (by first | rfl | fail) (by first | simp [hne, hk, hw, del, nAA] <;> rfl | fail) ?_; (try simp [hne, hk, hw, del, nAA]))
  | (refine CallP.fE (hnm) (by first | rfl | fail) (by first | simp [hne, hk, hw, del, nAA] <;> rfl | fail) ?_; (try simp [hne, hk, hw, del, nAA]))
  | (refine CallP.ok1 (hh1 _ (by first | omega | simp <;> omega | fail)) (by first | (simp [hne, hk, hw, del, nAA, zaa, getK, zab, zac]; done) | fail) (by rfl) (by rfl) ?_; (try simp [hne, hk, hw, del, nAA]))
  | (refine CallP.ok1 (hh2 _ (by first | omega | simp <;> omega | fail)) (by first | (simp [hne, hk, hw, del, nAA, zaa, getK, zab, zac]; done) | fail) (by rfl) (by rfl) ?_; (try simp [hne, hk, hw, del, nAA]))
  | (refine CallP.ok1 (hh3 _ (by first | omega | simp <;> omega | fail)) (by first | (simp [hne, hk, hw, del, nAA, zaa, getK, zab, zac]; done) | fail) (by rfl) (by rfl) ?_; (try simp [hne, hk, hw, del, nAA]))
  | (refine CallP.zeg (hc2 _ (by first | omega | simp <;> omega | fail)) (by first | (simp [hne, hk, hw, del, nAA, zaa, getK, zab, zac]; done) | fail) (by rfl) (by first | assumption | (simp; done) | fail) (by rfl) (by simp) ?_; rintro ob' ⟨q', rfl⟩; refine ⟨_, Wk.refl _, ?_⟩)
  | fail)
   (refine hpan _ _ ⟨{ n := _, env := [], obs := [(i, pOb l q')], next := nx }, (Wk.cut rfl (by simp [hn]) (by simp [wkO, zaa, getK, zab, zac, Ob.under, D.under, zad, zah, hi, hne, zab, zac, zaa, getK]) (by simp [wkU, zak, zaa, getK, D.under, hi, hne, zab, zac, zaa, getK]) (by simp [wkE, zak, zaa, getK, hi, hne, zab, zac, zaa, getK])), by simp [hn], ?_⟩; try simp)
   exact PPost.zaA rfl
 ·simp only [hw, false_and, if_false]
  (refine RetX.of_bodyW Tryz.func133 rfl (by simp) fun Γ hn hpan => ?_); simp only [entry, ziC, ziN, maC, maN, oA, Tryz.ntmps133]
  repeat' (first
  | ((first | refine zaf ?_ | refine zaj ?_ | refine zag ?_ | refine zai ?_ | fail); simp [hne, hk, hw, del, nAA])
  | (refine zar ?_; simp only [zao])
  | (refine CallP.fE (hnx) (by first | rfl | fail) (by first | simp [hne, hk, hw, del, nAA] <;> rfl | fail) ?_; (try simp [hne, hk, hw, del, nAA]))
  | (refine CallP.fE (hm1) (by first | rfl | fail) (by first | simp [hne, hk, hw, del, nAA] <;> rfl | fail) ?_; (try simp [hne, hk, hw, del, nAA]))
  | (refine CallP.fE (hm2) (by first | rfl | fail) (by first | simp [hne, hk, hw, del, nAA] <;> rfl | fail) ?_; (try simp [hne, hk, hw, del, nAA]))
  | (refine CallP.ok1 (hh1 _ (by first | omega | simp <;> omega | fail)) (by first | (simp [hne, hk, hw, del, nAA, zaa, getK, zab, zac]; done) | fail) (by rfl) (by rfl) ?_; (try simp [hne, hk, hw, del, nAA]))
  | (refine CallP.ok1 (hh2 _ (by first | omega | simp <;> omega | fail)) (by first | (simp [hne, hk, hw, del, nAA, zaa, getK, zab, zac]; done) | fail) (by rfl) (by rfl) ?_; (try simp [hne, hk, hw, del, nAA]))
  | (refine CallP.ok1 (hh3 _ (by first | omega | simp <;> omega | fail)) (by first | (simp [hne, hk, hw, del, nAA, zaa, getK, zab, zac]; done) | fail) (by rfl) (by rfl) ?_; (try simp [hne, hk, hw, del, nAA]))
  | (refine CallP.zeg (hc2 _ (by first | omega | simp <;> omega | fail)) (by first | (simp [hne, hk, hw, del, nAA, zaa, getK, zab, zac]; done) | fail) (by rfl) (by first | assumption | (simp; done) | fail) (by rfl) (by simp) ?_; rintro ob' ⟨q', rfl⟩; refine ⟨_, Wk.refl _, ?_⟩)
  | fail)
  (refine hpan _ _ ⟨{ n := _, env := [], obs := [(i, pOb l q')], next := nx }, (Wk.cut rfl (by simp [hn]) (by simp [wkO, zaa, getK, zab, zac, Ob.under, D.under, zad, zah, hi, hne, zab, zac, zaa, getK]) (by simp [wkU, zak, zaa, getK, D.under, hi, hne, zab, zac, zaa, getK]) (by simp [wkE, zak, zaa, getK, hi, hne, zab, zac, zaa, getK])), by simp [hn], ?_⟩; try simp)
  exact PPost.zaA rfl
theorem zkK {l : List Tok} {p : Nat} {w : List UInt8} {t : Tok} (ht : l[p]? = some t) (h : isB l p w = true) : t.text = w := by
 unfold isB at h;rw [ht] at h;simp only [Bool.and_eq_true, decide_eq_true_eq] at h;exact h.2
theorem ziZ {l : List Tok} (hl : TokOK l) {f : Nat} (hE : zf4 l f) : zhI l (f + 1) := by
 intro p i nx hi hp hf;obtain ⟨t, ht⟩ : ∃ t, l[p]? = some t := ⟨_, List.getElem?_eq_getElem hp⟩;by_cases hk : t.kind = 2
 ·exact zjW hl ht hk hi
 cases h1 : isB l p [116, 114, 117, 101] with
 | true => exact ziY hl ht hk h1 hi
 | false =>
 cases h2 : isB l p [102, 97, 108, 115, 101] with
 | true => exact zhY hl ht hk h1 h2 hi
 | false =>
 cases h3 : isB l p [109, 105, 110] with
 | true =>
  cases h4 : isB l p [109, 97, 120] with
  | true => exact absurd ((zkK ht h3).symm.trans (zkK ht h4)) (by decide)
  | false => exact zjX hl hE (by omega) ht hk h1 h2 h3 h4 hi
 | false =>
 cases h4 : isB l p [109, 97, 120] with
 | true => exact zjY hl hE (by omega) ht hk h1 h2 h3 h4 hi
 | false =>
 cases h5 : isB l p [40] with
 | true => exact zhX hl hE (by omega) ht hk h1 h2 h3 h4 h5 hi
 | false => exact zi0 hl ht hk h1 h2 h3 h4 h5 hi
end Go.Proofs.YthnemhfamhnfjaaGreatDoor
namespace Go.Proofs.YthnemhfamhnfjaaGreatDoor
open Go Go.VL
attribute [local simp] zc2 zb3 evPure opd uOf zaF St.put St.at getK binD binI binS binB nilD aggD zgQ zha lookD lookR zcu Go.VL.nextD zcx zhu zhc zf2 zcw mkV zdj zbk zbu mapEff zdY zfQ Key.kk shiftI arith unD convD zdH loadD cellsAt fieldAddrD fieldD indexAddrD indexD sliceD cutD lenD minmaxD nilCheckD buildD fillD zbP zdb zeC setAll zcK zeO zco zg0 zcm St.add zaO zbF rowsOf zdA zcH zam zac zaa za7 zcC zaQ entry zbE zbO valD zb4 zcy zgh zdh zdi zbT zbK zaw zaW zbo delAll effD St.effS zcU za8 zaY zcV za9 za0 zb9 zaZ zaT zca zcS zbD zb8 zbl zb6 zb7 zaL mkD zbL zbv zbJ zaw zcn D.ids Op.operands Call.operands zby makeIfD makeFuncD typeAssertD zg9 zdw zdx zg1 zcv IntKind.bits zcN List.take_of_length_le List.range_succ
attribute [local irreducible] V G H HD HD2 zao Eff CallP CallV EndOK Fun Ret FinOK LoopI LoopW EndW
abbrev zpB (o : Opr) : D := .u (.agg [.str o.text, .int .i64 o.op, .int .i64 o.form])
abbrev zlq (l : List Opr) : U := .sl (l.map fun o => [.str o.text, .int .i64 o.op, .int .i64 o.form])
theorem zd3 : Fun Tryz.prog 97 [] (· = .u (zlq oprs)) := by
 unfold zlq oprs
 (refine Fun.of_bodyW Tryz.func97 rfl (by simp) fun Γ hn => ?_); simp only [entry, ziC, ziN, maC, maN, oA, Tryz.ntmps97]
 repeat' (first
  | ((first | refine zaf ?_ | refine zaj ?_ | refine zag ?_ | fail); simp [zbO, zbE])
  | (refine zap ?_; simp only [zao])
  | fail)
 (refine EndW.frzN 1 ?_; simp [frzN, frz1, zaC, zaB, St.frz, St.frzS, frzS, fv, zaJ, za6, zba, zaG, zav, zan, del, frz, zbb])
 refine EndW.here ?_
 (refine EndOK.val (.inr rfl) ?_; simp [zay, zae, zaq, Tryz.results97])
theorem zoe (l : List Tok) (q : Nat) (o : Opr) (hq : q < l.length) (hl : l.length <= 1000000) : Fun Tryz.prog 98 (zpB o :: [U.row [zoK l q] 0].map .u) (· = .u (.bool (isB l q o.text))) := by
 have h1 := zec l q o.text hq hl;simp only [List.map_cons, List.map_nil, zpB]
 (refine Fun.of_body Tryz.func98 rfl (by simp) fun Γ hn => ?_); simp only [entry, ziC, ziN, maC, maN, oA, Tryz.ntmps98]
 repeat' (first
  | ((first | refine zaf ?_ | refine zaj ?_ | refine zag ?_ | fail); simp)
  | (refine zap ?_; simp only [zao])
  | (refine CallP.fE (h1) (by first | rfl | fail) (by first | (simp; done) | (simp; rfl) | fail) ?_; (try simp))
  | fail)
 (refine EndOK.val (.inr rfl) ?_; simp [zay, zae, zaq, Tryz.results98])
theorem zhx (l : List (Opr)) (f : FuncId) (caps : List U) (p : Opr -> Bool) (hf : ∀ n ∈ l, Fun Tryz.prog f (zpB n :: caps.map .u) (· = .u (.bool (p n)))) (hcl : zal Tryz.prog f = true)
  (hca : ∀ o, zcy o (caps.map .u) = some (caps.map .u, [])) : Fun Tryz.prog 96 [.u (zlq l), .fnc (.func f) (caps.map .u)] (· = .u (.int .i64 (zg5 p l 0))) := by
 (refine Fun.of_body Tryz.func96 rfl (by simp) fun Γ hn => ?_); simp only [entry, ziC, ziN, maC, maN, oA, Tryz.ntmps96]
 simp only [zlq];refine ziu (x := 0) rfl fun hl => ?_;simp at hl
 repeat' (first
  | ((first | refine zaf ?_ | refine zaj ?_ | refine zag ?_ | refine zas ?_ | fail); simp)
  | fail)
 refine zbU (α := { i : Nat // i <= l.length /\ ∀ c ∈ l.take i, p c = false }) [0, 1, 7] (fun i => [(8, .u (.int .i64 i.1))]) (fun i => l.length - i.1) ⟨0, by omega, by simp⟩ ?_ ?_
 ·exact (Wk.env rfl rfl rfl (by simp [wkE, St.lp, zak, zaa, getK] <;> (try (intros; simp_all; done)) <;> (try (intros; omega)) <;> (try grind)))
 rintro ⟨i, hi, hb⟩;simp [St.lp, St.only, zak, zaa, getK];rcases hx : l[i]? with _ | n
 ·have hge : l.length <= i := by simpa using hx
  repeat' (first
  | ((first | refine zaf ?_ | refine zaj ?_ | fail); simp [hx])
  | (refine ⟨by omega, ?_⟩)
  | (refine zag ?_; simp [hx])
  | (refine zap ?_; simp only [zao])
  | (refine zbq ?_; simp [zao])
  | (intro hc <;> (try (exfalso; omega)))
  | fail)
  (refine EndOK.val (.inr rfl) ?_; simp [zay, zae, zaq, Tryz.results96])
  rw [List.take_of_length_le hge] at hb;exact (zff hb).symm
 ·have hlt : i < l.length := (lGE.1 hx).1;have h1 := hf n (List.mem_of_getElem? hx);simp only [zpB] at h1;cases hp : p n
  ·rw [hp] at h1
   repeat' (first
  | ((first | refine zaf ?_ | refine zaj ?_ | fail); simp [hx, hca])
  | (refine ⟨by omega, ?_⟩)
  | ((first | refine zag ?_ | refine zai ?_ | refine zat ?_ | fail); simp [hx, hca])
  | (refine zar ?_; simp only [zao])
  | (refine ⟨?_, by omega⟩)
  | (intro hc <;> (try (exfalso; omega)))
  | (refine CallP.fE (h1) (by first | rfl | fail) (by first | simp [hx, hca] <;> rfl | fail) ?_; (try simp [hcl, hx, hca]))
  | fail)
   refine LoopW.next ⟨i + 1, by omega, za5 hx hb hp⟩ (by simp; omega) ?_
   exact (Wk.env rfl rfl rfl (by simp [wkE, St.lp, zak, zaa, getK] <;> (try (intros; simp_all; done)) <;> (try (intros; omega)) <;> (try grind)))
  ·rw [hp] at h1
   repeat' (first
  | ((first | refine zaf ?_ | refine zaj ?_ | refine zag ?_ | refine zai ?_ | fail); simp [hx, hca])
  | ((first | refine zap ?_ | refine zar ?_ | fail); simp only [zao])
  | (refine ⟨?_, by omega⟩)
  | (intro hc <;> (try (exfalso; omega)))
  | (refine CallP.fE (h1) (by first | rfl | fail) (by first | simp [hx, hca] <;> rfl | fail) ?_; (try simp [hcl, hx, hca]))
  | fail)
   (refine EndOK.val (.inr rfl) ?_; simp [zay, zae, zaq, Tryz.results96])
   rw [zie hb hx hp];omega
theorem zfg {p : Opr -> Bool} : ∀ (L : List Opr) (k : Int), (L.find? p = none -> zg5 p L k = -1) /\ ∀ x, L.find? p = some x -> ∃ j : Nat, L[j]? = some x /\ zg5 p L k = k + j
 | [], k => ⟨fun _ => rfl, fun x h => by simp at h⟩
 | a :: L, k => by
  by_cases h : p a = true
  ·refine ⟨fun h1 => by simp [h] at h1, fun x h1 => ?_⟩;rw [List.find?_cons, h] at h1;cases h1;exact ⟨0, rfl, by rw [zg5, if_pos h]; simp⟩
  ·have h' : p a = false := by simpa using h
   obtain ⟨h1, h2⟩ := zfg L (k + 1);refine ⟨fun h3 => ?_, fun x h3 => ?_⟩
   ·rw [List.find?_cons, h'] at h3;rw [zg5, if_neg h];exact h1 h3
   ·rw [List.find?_cons, h'] at h3;obtain ⟨j, h4, h5⟩ := h2 x h3;exact ⟨j + 1, h4, by rw [zg5, if_neg h, h5]; omega⟩
theorem zlH (l : List Tok) (q : Nat) (hq : q < l.length) (hl : l.length <= 1000000) : Fun Tryz.prog 96 [.u (zlq oprs), .fnc (.func 98) [.u (.row [zoK l q] 0)]]
  (· = .u (.int .i64 (zg5 (fun o => isB l q o.text) oprs 0))) :=
 zhx oprs 98 [U.row [zoK l q] 0] (fun o => isB l q o.text) (fun o _ => zoe l q o hq hl) rfl (fun o => rfl)
end Go.Proofs.YthnemhfamhnfjaaGreatDoor
namespace Go.Proofs.YthnemhfamhnfjaaGreatDoor
open Go Go.VL
attribute [local simp] HS zc2 zb3 evPure opd uOf zaF St.put St.at getK binD binI binS binB nilD aggD zgQ zha lookD lookR zcu Go.VL.nextD zcx zhu zhc zf2 zcw mkV zdj zbk zbu mapEff zdY zfQ Key.kk shiftI arith unD convD zdH loadD cellsAt fieldAddrD fieldD indexAddrD indexD sliceD cutD lenD minmaxD nilCheckD buildD fillD zbP zdb zeC setAll zcK zeO zco zg0 zcm St.add zaO zbF rowsOf zdA zcH zam zac zaa za7 zcC zaQ entry zbE zbO valD zb4 zcy zgh zdh zdi zbT zbK zaw zaW zbo delAll effD St.effS zcU za8 zaY zcV za9 za0 zb9 zaZ zaT zca zcS zbD zb8 zbl zb6 zb7 zaL mkD zbL zbv zbJ zaw zcn D.ids Op.operands Call.operands zby makeIfD makeFuncD typeAssertD zg9 zdw zdx zg1 zcv IntKind.bits zcN List.take_of_length_le List.range_succ
attribute [local irreducible] V G H HD HD2 HD4 zjP RetX zao Eff CallP CallV EndOK Fun Ret FinOK LoopI LoopW EndW
theorem zpM {l : List Tok} {F : FuncId} {r : PR (Exp × Int)} {e : Exp × Int} {q i nx : Nat} {ds : List D} {obs : List (Nat × Ob)} (h : RetX Tryz.prog F ds obs nx (PPost l i nx zja r)) (hr : r = .ok e q) :
  RetX Tryz.prog F ds obs nx fun r o n => r = .val (.tup [.u (.agg [.int .i64 e.1.op, .int .i64 e.1.n, .int .i64 e.1.unit, .str e.1.s, .sl (e.1.args.map Exp.row)]), .u (.int .i64 e.2)]) /\ o = [(i, pOb l q)] /\ n = nx := by
 subst hr;rw [<- Exp.row_eq];exact h
abbrev zqG (e : Exp) : Ob := .box [.u (.int .i64 e.op), .u (.int .i64 e.n), .u (.int .i64 e.unit), .u (.str e.s), .u (.sl (e.args.map Exp.row))]
theorem zod {l : List Tok} (hl : TokOK l) {f : Nat} (hE : ∀ g, g < f -> zf4 l g) (hP : zpq l f) : zf4 l (f + 1) := by
 intro p form i nx hi hp hf hm0 hm7;have hne := zaE hi;have hll := hl.len;rw [zed];have ha := fun nx' (h : nx <= nx') => hP p form i nx' (by omega) hp (by omega) hm0 hm7;have hop := zd3;cases hr0 : zbt l f p form with
 | stop pos e =>
  simp only [hr0] at ha
  (refine RetX.of_bodyW Tryz.func41 rfl (by simp) fun Γ hn hpan => ?_); simp only [entry, ziC, ziN, maC, maN, oA, Tryz.ntmps41]
  repeat' (first
  | ((first | refine zaf ?_ | refine zaj ?_ | refine zag ?_ | fail); simp [hne, del, nAA])
  | (refine CallP.zeg (ha _ (by first | omega | simp <;> omega | fail)) (by first | (simp [hne, del, nAA, zaa, getK, zab, zac]; done) | fail) (by rfl) (by first | assumption | (simp; done) | fail) (by rfl) (by simp) ?_; rintro ob' ⟨q', rfl⟩; refine ⟨_, Wk.refl _, ?_⟩)
  | fail)
  (refine hpan _ _ ⟨{ n := _, env := [], obs := [(i, pOb l q')], next := nx }, (Wk.cut rfl (by simp [hn]) (by simp [wkO, zaa, getK, zab, zac, Ob.under, D.under, zad, zah, hi, hne, zab, zac, zaa, getK]) (by simp [wkU, zak, zaa, getK, D.under, hi, hne, zab, zac, zaa, getK]) (by simp [wkE, zak, zaa, getK, hi, hne, zab, zac, zaa, getK])), by simp [hn], ?_⟩; try simp)
  exact PPost.zaA (by simp [PR.bind, *])
 | ok v0 q0 =>
  have ha := fun nx' h => zpM (ha nx' h) hr0;obtain ⟨g0a, g0b⟩ := (zci hl f).2.2.1 _ _ _ _ hr0 hp;generalize hR : (PR.ok v0 q0).bind (fun e q => zeM l f form e.1 e.2 q) = R;have hR' : R = zeM l f form v0.1 v0.2 q0 := hR.symm
  (refine RetX.of_bodyW Tryz.func41 rfl (by simp) fun Γ hn hpan => ?_); simp only [entry, ziC, ziN, maC, maN, oA, Tryz.ntmps41]
  repeat' (first
  | ((first | refine zaf ?_ | refine zaj ?_ | refine zag ?_ | refine zas ?_ | fail); simp [hne, del, nAA])
  | (refine CallP.ok1 (ha _ (by first | omega | simp <;> omega | fail)) (by first | (simp [hne, del, nAA, zaa, getK, zab, zac]; done) | fail) (by rfl) (by rfl) ?_; (try simp [hne, del, nAA]))
  | fail)
  refine zdL (α := { x : Exp × Int × Nat × Nat // x.2.2.1 < l.length /\ 4 * (l.length - x.2.2.1) + 2 <= x.2.2.2 /\ x.2.2.2 <= f /\ R = zeM l x.2.2.2 form x.1 x.2.1 x.2.2.1 }) [0, 1, 2, 4, 5] (fun x => [(6, .u (.int .i64 x.1.2.1))])
   (fun x => [(nx + 2, zqG x.1.1), (nx + 1, .box [.u (.int .i64 0), .u (.int .i64 0), .u (.int .i64 0), .u (.str []), .u .nil]), (nx, .box [.ptr i 0]), (i, pOb l x.1.2.2.1)]) (nx + 3) (fun x => x.1.2.2.2) ⟨(v0.1, v0.2, q0, f), g0b, (by show 4 * (l.length - q0) + 2 <= f; omega), (by show f <= f; omega), hR'⟩ ?_ ?_
  ·have hi3 : i < nx + 3 := by omega
   exact (Wk.cut rfl (by simp [hn, St.lp]) (by simp [wkO, St.lp, zaa, getK, Ob.under, D.under, zad, zah, hi, hi3, hne]) (by simp [wkU, St.lp, zak, zaa, getK, D.under, hi, hi3, hne]) (by simp [wkE, St.lp, zak, zaa, getK, hi, hi3, hne] <;> (try (intros; simp_all; done)) <;> (try (intros; omega)) <;> (try grind)))
  rintro ⟨⟨e, own, q, g⟩, h1, h2, h2b, h3⟩;simp only at h1 h2 h2b h3;simp [St.lp, St.only, zak, zaa, getK];obtain ⟨g, rfl⟩ : ∃ g', g = g' + 1 := ⟨g - 1, by omega⟩;rw [zeM] at h3;have hix := zlH l q h1 hl.len;cases hx : zpN l q with
  | none =>
   rw [(zfg oprs 0).1 hx] at hix;rw [hx] at h3
   repeat' (first
  | ((first | refine zaf ?_ | refine zaj ?_ | refine zag ?_ | refine zai ?_ | refine zas ?_ | fail); simp [hne, del, nAA])
  | (refine zap ?_; simp only [zao])
  | (refine CallP.fE (hop) (by first | rfl | fail) (by first | simp [hne, del, nAA] <;> rfl | fail) ?_; (try simp [hne, del, nAA]))
  | (refine CallP.fE (hix) (by first | rfl | fail) (by first | simp [hne, del, nAA] <;> rfl | fail) ?_; (try simp [hne, del, nAA]))
  | fail)
   refine EndW.norm ?_;simp [St.norm, zbi, zb2, zcq, zcr, hne, nAA]
   (refine EndW.here ?_; (first | (refine EndOK.fin (.inr rfl) ?_) | (refine EndOK.fin (.inl rfl) ?_)); simp [zay, zae, Tryz.results41, hne, hi]; refine FinOK.cut [(i, pOb l q)] (nx) (by simp [zaa, getK, zab, zac, Ob.under, D.under, zad, zah, hne, hi] <;> omega) (by simp [D.under]) (by simp [hn]) ?_; try simp)
   exact PPost.zct h3 (by simp [Exp.row_eq]) rfl
  | some x =>
   obtain ⟨k, hk1, hk2⟩ := (zfg oprs 0).2 x hx;rw [hk2] at hix;rw [hx] at h3;simp only at h3;have hqb := zbc hl (by have := List.find?_some (p := fun o : Opr => isB l q o.text) hx; exact this);have hk0 : ¬ ((k : Int) < 0) := by omega
   have hkl : k < 8 := (lGE.1 hk1).1;rw [show (0 : Int) + k = (k : Int) by omega] at hix;have hfm : 0 <= x.form /\ x.form <= 6 := by
    have := List.mem_of_getElem? hk1;simp only [oprs, List.mem_cons, List.not_mem_nil, or_false] at this;rcases this with rfl | rfl | rfl | rfl | rfl | rfl | rfl | rfl <;> decide
   obtain ⟨hf0, hf6⟩ := hfm;generalize hL : oprs = L at hop hix hk1;by_cases c1 : x.form < form
   ·rw [if_pos (Or.inl c1)] at h3
    repeat' (first
  | ((first | refine zaf ?_ | refine zaj ?_ | refine zag ?_ | refine zai ?_ | refine zas ?_ | fail); simp [hne, del, nAA, hk0, hk1, c1])
  | ((first | refine zap ?_ | refine zar ?_ | fail); simp only [zao])
  | (refine CallP.fE (hop) (by first | rfl | fail) (by first | simp [hne, del, nAA, hk0, hk1, c1] <;> rfl | fail) ?_; (try simp [hne, del, nAA, hk0, hk1, c1]))
  | (refine CallP.fE (hix) (by first | rfl | fail) (by first | simp [hne, del, nAA, hk0, hk1, c1] <;> rfl | fail) ?_; (try simp [hne, del, nAA, hk0, hk1, c1]))
  | fail)
    refine EndW.norm ?_;simp [St.norm, zbi, zb2, zcq, zcr, hne, nAA]
    (refine EndW.here ?_; (first | (refine EndOK.fin (.inr rfl) ?_) | (refine EndOK.fin (.inl rfl) ?_)); simp [zay, zae, Tryz.results41, hne, hi]; refine FinOK.cut [(i, pOb l q)] (nx) (by simp [zaa, getK, zab, zac, Ob.under, D.under, zad, zah, hne, hi] <;> omega) (by simp [D.under]) (by simp [hn]) ?_; try simp)
    exact PPost.zct h3 (by simp [Exp.row_eq]) rfl
   ·by_cases c2 : own < x.form
    ·rw [if_pos (Or.inr (Or.inl c2))] at h3
     repeat' (first
  | ((first | refine zaf ?_ | refine zaj ?_ | refine zag ?_ | refine zai ?_ | refine zas ?_ | fail); simp [hne, del, nAA, hk0, hk1, c1, c2])
  | ((first | refine zap ?_ | refine zar ?_ | fail); simp only [zao])
  | (refine CallP.fE (hop) (by first | rfl | fail) (by first | simp [hne, del, nAA, hk0, hk1, c1, c2] <;> rfl | fail) ?_; (try simp [hne, del, nAA, hk0, hk1, c1, c2]))
  | (refine CallP.fE (hix) (by first | rfl | fail) (by first | simp [hne, del, nAA, hk0, hk1, c1, c2] <;> rfl | fail) ?_; (try simp [hne, del, nAA, hk0, hk1, c1, c2]))
  | fail)
     refine EndW.norm ?_;simp [St.norm, zbi, zb2, zcq, zcr, hne, nAA]
     (refine EndW.here ?_; (first | (refine EndOK.fin (.inr rfl) ?_) | (refine EndOK.fin (.inl rfl) ?_)); simp [zay, zae, Tryz.results41, hne, hi]; refine FinOK.cut [(i, pOb l q)] (nx) (by simp [zaa, getK, zab, zac, Ob.under, D.under, zad, zah, hne, hi] <;> omega) (by simp [D.under]) (by simp [hn]) ?_; try simp)
     exact PPost.zct h3 (by simp [Exp.row_eq]) rfl
    ·by_cases c3 : own = 4 /\ x.form = 4
     ·rw [if_pos (Or.inr (Or.inr c3))] at h3;obtain ⟨c4, c5⟩ := c3
      repeat' (first
  | ((first | refine zaf ?_ | refine zaj ?_ | refine zag ?_ | refine zai ?_ | refine zas ?_ | fail); simp [hne, del, nAA, hk0, hk1, c1, c2, c4, c5])
  | ((first | refine zap ?_ | refine zar ?_ | fail); simp only [zao])
  | (refine ⟨?_, by omega⟩)
  | (intro hc <;> (try (exfalso; omega)))
  | (refine CallP.fE (hop) (by first | rfl | fail) (by first | simp [hne, del, nAA, hk0, hk1, c1, c2, c4, c5] <;> rfl | fail) ?_; (try simp [hne, del, nAA, hk0, hk1, c1, c2, c4, c5]))
  | (refine CallP.fE (hix) (by first | rfl | fail) (by first | simp [hne, del, nAA, hk0, hk1, c1, c2, c4, c5] <;> rfl | fail) ?_; (try simp [hne, del, nAA, hk0, hk1, c1, c2, c4, c5]))
  | fail)
      refine EndW.norm ?_;simp [St.norm, zbi, zb2, zcq, zcr, hne, nAA]
      (refine EndW.here ?_; (first | (refine EndOK.fin (.inr rfl) ?_) | (refine EndOK.fin (.inl rfl) ?_)); simp [zay, zae, Tryz.results41, hne, hi]; refine FinOK.cut [(i, pOb l q)] (nx) (by simp [zaa, getK, zab, zac, Ob.under, D.under, zad, zah, hne, hi] <;> omega) (by simp [D.under]) (by simp [hn]) ?_; try simp)
      exact PPost.zct h3 (by simp [Exp.row_eq]) rfl
     ·rw [if_neg (by rintro (h | h | h) <;> contradiction)] at h3;have hb := fun nx' (h : nx <= nx') => hE g (by omega) (q + 1) (x.form + 1) i nx' (by omega) hqb (by omega) (by omega) (by omega);cases hr1 : zed l g (q + 1) (x.form + 1) with
      | stop pos err =>
       simp only [hr1] at hb;rw [hr1] at h3;by_cases c4 : own = 4
       ·have c5 : ¬ x.form = 4 := fun h => c3 ⟨c4, h⟩
        repeat' (first
  | (refine zfq (fun nx' h' => hb nx' (by simp at h'; omega)) (by first | (simp [hne, del, nAA, hk0, hk1, c1, c2, c4, c5, zaa, getK, zab, zac, zam, zaL]; done) | fail) (by rfl) (by first | assumption | simp) (by rfl) (by simp) ?_ ?_; rintro env' ob' n' hn' ⟨q', rfl⟩; refine ⟨_, Wk.refl _, ?_⟩)
  | (refine zeA rfl (by simp) ?_; simp)
  | ((first | refine zaf ?_ | refine zaR rfl ?_ | refine zaj ?_ | fail); simp [hne, del, nAA, hk0, hk1, c1, c2, c4, c5])
  | (refine ⟨by omega, ?_⟩)
  | ((first | refine zag ?_ | refine zai ?_ | fail); simp [hne, del, nAA, hk0, hk1, c1, c2, c4, c5])
  | (refine zfr (hC _ (zcj [i] nx (by simp <;> omega) (by simp <;> omega) (by apply Exists.intro; apply And.intro; (focus (repeat' (first | exact KF.nil | exact KL.nil | apply KF.cons | apply KL.cons 0 rfl | apply KL.cons 1 rfl | apply KL.cons 2 rfl | apply KL.cons 3 rfl | apply KL.cons 4 rfl | apply KL.cons 5 rfl | apply KL.cons 6 rfl | apply KL.cons 7 rfl | apply KL.cons 8 rfl | apply KL.cons 9 rfl))); kernel_rfl))) rfl; done)
  | (refine za2 rfl (by kernel_rfl) (by first | (simp [hn]; done) | (simp [hn]; omega) | fail) fun C k hC hk => ?_; simp [hne, del, nAA, hk0, hk1, c1, c2, c4, c5])
  | (refine zas ?_; simp [hne, del, nAA, hk0, hk1, c1, c2, c4, c5])
  | (refine zar ?_; simp only [zao])
  | (refine ⟨?_, by omega⟩)
  | (intro hc <;> (try (exfalso; omega)))
  | (refine CallP.fE (hop) (by first | rfl | fail) (by first | simp [hne, del, nAA, hk0, hk1, c1, c2, c4, c5] <;> rfl | fail) ?_; (try simp [hne, del, nAA, hk0, hk1, c1, c2, c4, c5]))
  | (refine CallP.fE (hix) (by first | rfl | fail) (by first | simp [hne, del, nAA, hk0, hk1, c1, c2, c4, c5] <;> rfl | fail) ?_; (try simp [hne, del, nAA, hk0, hk1, c1, c2, c4, c5]))
  | fail)
        (refine hpan _ _ ⟨{ n := _, env := [], obs := [(i, pOb l q')], next := nx }, (Wk.cut rfl (by simp [hn]) (by simp [wkO, zaa, getK, zab, zac, Ob.under, D.under, zad, zah, hi, hne, zab, zac, zaa, getK]) (by simp [wkU, zak, zaa, getK, D.under, hi, hne, zab, zac, zaa, getK]) (by simp [wkE, zak, zaa, getK, hi, hne, zab, zac, zaa, getK])), by simp [hn], ?_⟩; try simp)
        exact PPost.zaA h3
       ·repeat' (first
  | (refine zfq (fun nx' h' => hb nx' (by simp at h'; omega)) (by first | (simp [hne, del, nAA, hk0, hk1, c1, c2, c4, zaa, getK, zab, zac, zam, zaL]; done) | fail) (by rfl) (by first | assumption | simp) (by rfl) (by simp) ?_ ?_; rintro env' ob' n' hn' ⟨q', rfl⟩; refine ⟨_, Wk.refl _, ?_⟩)
  | (refine zeA rfl (by simp) ?_; simp)
  | ((first | refine zaf ?_ | refine zaR rfl ?_ | refine zaj ?_ | fail); simp [hne, del, nAA, hk0, hk1, c1, c2, c4])
  | (refine ⟨by omega, ?_⟩)
  | ((first | refine zag ?_ | refine zai ?_ | fail); simp [hne, del, nAA, hk0, hk1, c1, c2, c4])
  | (refine zfr (hC _ (zcj [i] nx (by simp <;> omega) (by simp <;> omega) (by apply Exists.intro; apply And.intro; (focus (repeat' (first | exact KF.nil | exact KL.nil | apply KF.cons | apply KL.cons 0 rfl | apply KL.cons 1 rfl | apply KL.cons 2 rfl | apply KL.cons 3 rfl | apply KL.cons 4 rfl | apply KL.cons 5 rfl | apply KL.cons 6 rfl | apply KL.cons 7 rfl | apply KL.cons 8 rfl | apply KL.cons 9 rfl))); kernel_rfl))) rfl; done)
  | (refine za2 rfl (by kernel_rfl) (by first | (simp [hn]; done) | (simp [hn]; omega) | fail) fun C k hC hk => ?_; simp [hne, del, nAA, hk0, hk1, c1, c2, c4])
  | (refine zas ?_; simp [hne, del, nAA, hk0, hk1, c1, c2, c4])
  | (refine zar ?_; simp only [zao])
  | (refine CallP.fE (hop) (by first | rfl | fail) (by first | simp [hne, del, nAA, hk0, hk1, c1, c2, c4] <;> rfl | fail) ?_; (try simp [hne, del, nAA, hk0, hk1, c1, c2, c4]))
  | (refine CallP.fE (hix) (by first | rfl | fail) (by first | simp [hne, del, nAA, hk0, hk1, c1, c2, c4] <;> rfl | fail) ?_; (try simp [hne, del, nAA, hk0, hk1, c1, c2, c4]))
  | fail)
        (refine hpan _ _ ⟨{ n := _, env := [], obs := [(i, pOb l q')], next := nx }, (Wk.cut rfl (by simp [hn]) (by simp [wkO, zaa, getK, zab, zac, Ob.under, D.under, zad, zah, hi, hne, zab, zac, zaa, getK]) (by simp [wkU, zak, zaa, getK, D.under, hi, hne, zab, zac, zaa, getK]) (by simp [wkE, zak, zaa, getK, hi, hne, zab, zac, zaa, getK])), by simp [hn], ?_⟩; try simp)
        exact PPost.zaA h3
      | ok e2 q2 =>
       have hb := fun nx' h => zdk (hb nx' h) hr1;obtain ⟨g1a, g1b⟩ := (zci hl g).1 _ _ _ _ hr1 hqb;rw [hr1] at h3;by_cases c4 : own = 4
       ·have c5 : ¬ x.form = 4 := fun h => c3 ⟨c4, h⟩
        repeat' (first
  | (refine zgY (fun nx' h' => hb nx' (by simp at h'; omega)) (by first | (simp [hne, del, nAA, hk0, hk1, c1, c2, c4, c5, zaa, getK, zab, zac, zam, zaL]; done) | fail) (by rfl) (by first | assumption | simp) (by rfl) (by simp [D.under, Ob.under]) (by simp) ?_; (try simp [hne, del, nAA, hk0, hk1, c1, c2, c4, c5]))
  | ((first | refine zaf ?_ | refine zaR rfl ?_ | refine zcb rfl ?_ | refine zaj ?_ | fail); simp [hne, del, nAA, hk0, hk1, c1, c2, c4, c5])
  | (refine ⟨by omega, ?_⟩)
  | ((first | refine zag ?_ | refine zai ?_ | fail); simp [hne, del, nAA, hk0, hk1, c1, c2, c4, c5])
  | (refine zaX (hC _ (zcj [i] nx (by simp <;> omega) (by simp <;> omega) (by apply Exists.intro; apply And.intro; (focus (repeat' (first | exact KF.nil | exact KL.nil | apply KF.cons | apply KL.cons 0 rfl | apply KL.cons 1 rfl | apply KL.cons 2 rfl | apply KL.cons 3 rfl | apply KL.cons 4 rfl | apply KL.cons 5 rfl | apply KL.cons 6 rfl | apply KL.cons 7 rfl | apply KL.cons 8 rfl | apply KL.cons 9 rfl))); kernel_rfl))) (hk _ ?_); clear hC hk C k; simp only [zao])
  | (refine za2 rfl (by kernel_rfl) (by first | (simp [hn]; done) | (simp [hn]; omega) | fail) fun C k hC hk => ?_; simp [hne, del, nAA, hk0, hk1, c1, c2, c4, c5])
  | ((first | refine zas ?_ | refine zat ?_ | fail); simp [hne, del, nAA, hk0, hk1, c1, c2, c4, c5])
  | (refine zar ?_; simp only [zao])
  | (refine ⟨?_, by omega⟩)
  | (intro hc <;> (try (exfalso; omega)))
  | (refine CallP.fE (hop) (by first | rfl | fail) (by first | simp [hne, del, nAA, hk0, hk1, c1, c2, c4, c5] <;> rfl | fail) ?_; (try simp [hne, del, nAA, hk0, hk1, c1, c2, c4, c5]))
  | (refine CallP.fE (hix) (by first | rfl | fail) (by first | simp [hne, del, nAA, hk0, hk1, c1, c2, c4, c5] <;> rfl | fail) ?_; (try simp [hne, del, nAA, hk0, hk1, c1, c2, c4, c5]))
  | fail)
        have hi3 : i < nx + 3 := by omega
        refine LoopW.next ⟨(.mk x.op 0 0 [] [e, e2], x.form, q2, g), g1b, (by show 4 * (l.length - q2) + 2 <= g; omega), (by show g <= f; omega), h3⟩ (by show g < g + 1; omega) ?_
        refine Wk.trans (Wk.frzN 1 _) ?_;simp [hne, nAA, frzN, frz1, zaC, zaB, St.frz, St.frzS, frzS, fv, zaJ, za6, zba, zaG, zav, zan, del, frz, zbb];exact (Wk.cut rfl (by simp [hn, St.lp]) (by simp [wkO, St.lp, zaa, getK, Ob.under, D.under, zad, zah, hi, hi3, hne, Exp.row_eq, Exp.op, Exp.n, Exp.unit, Exp.s, Exp.args]) (by simp [wkU, St.lp, zak, zaa, getK, D.under, hi, hi3, hne, Exp.row_eq, Exp.op, Exp.n, Exp.unit, Exp.s, Exp.args]) (by simp [wkE, St.lp, zak, zaa, getK, hi, hi3, hne, Exp.row_eq, Exp.op, Exp.n, Exp.unit, Exp.s, Exp.args] <;> (try (intros; simp_all; done)) <;> (try (intros; omega)) <;> (try grind)))
       ·repeat' (first
  | (refine zgY (fun nx' h' => hb nx' (by simp at h'; omega)) (by first | (simp [hne, del, nAA, hk0, hk1, c1, c2, c4, zaa, getK, zab, zac, zam, zaL]; done) | fail) (by rfl) (by first | assumption | simp) (by rfl) (by simp [D.under, Ob.under]) (by simp) ?_; (try simp [hne, del, nAA, hk0, hk1, c1, c2, c4]))
  | ((first | refine zaf ?_ | refine zaR rfl ?_ | refine zcb rfl ?_ | refine zaj ?_ | fail); simp [hne, del, nAA, hk0, hk1, c1, c2, c4])
  | (refine ⟨by omega, ?_⟩)
  | ((first | refine zag ?_ | refine zai ?_ | fail); simp [hne, del, nAA, hk0, hk1, c1, c2, c4])
  | (refine zaX (hC _ (zcj [i] nx (by simp <;> omega) (by simp <;> omega) (by apply Exists.intro; apply And.intro; (focus (repeat' (first | exact KF.nil | exact KL.nil | apply KF.cons | apply KL.cons 0 rfl | apply KL.cons 1 rfl | apply KL.cons 2 rfl | apply KL.cons 3 rfl | apply KL.cons 4 rfl | apply KL.cons 5 rfl | apply KL.cons 6 rfl | apply KL.cons 7 rfl | apply KL.cons 8 rfl | apply KL.cons 9 rfl))); kernel_rfl))) (hk _ ?_); clear hC hk C k; simp only [zao])
  | (refine za2 rfl (by kernel_rfl) (by first | (simp [hn]; done) | (simp [hn]; omega) | fail) fun C k hC hk => ?_; simp [hne, del, nAA, hk0, hk1, c1, c2, c4])
  | ((first | refine zas ?_ | refine zat ?_ | fail); simp [hne, del, nAA, hk0, hk1, c1, c2, c4])
  | (refine zar ?_; simp only [zao])
  | (refine CallP.fE (hop) (by first | rfl | fail) (by first | simp [hne, del, nAA, hk0, hk1, c1, c2, c4] <;> rfl | fail) ?_; (try simp [hne, del, nAA, hk0, hk1, c1, c2, c4]))
  | (refine CallP.fE (hix) (by first | rfl | fail) (by first | simp [hne, del, nAA, hk0, hk1, c1, c2, c4] <;> rfl | fail) ?_; (try simp [hne, del, nAA, hk0, hk1, c1, c2, c4]))
  | fail)
        have hi3 : i < nx + 3 := by omega
        refine LoopW.next ⟨(.mk x.op 0 0 [] [e, e2], x.form, q2, g), g1b, (by show 4 * (l.length - q2) + 2 <= g; omega), (by show g <= f; omega), h3⟩ (by show g < g + 1; omega) ?_
        refine Wk.trans (Wk.frzN 1 _) ?_;simp [hne, nAA, frzN, frz1, zaC, zaB, St.frz, St.frzS, frzS, fv, zaJ, za6, zba, zaG, zav, zan, del, frz, zbb];exact (Wk.cut rfl (by simp [hn, St.lp]) (by simp [wkO, St.lp, zaa, getK, Ob.under, D.under, zad, zah, hi, hi3, hne, Exp.row_eq, Exp.op, Exp.n, Exp.unit, Exp.s, Exp.args]) (by simp [wkU, St.lp, zak, zaa, getK, D.under, hi, hi3, hne, Exp.row_eq, Exp.op, Exp.n, Exp.unit, Exp.s, Exp.args]) (by simp [wkE, St.lp, zak, zaa, getK, hi, hi3, hne, Exp.row_eq, Exp.op, Exp.n, Exp.unit, Exp.s, Exp.args] <;> (try (intros; simp_all; done)) <;> (try (intros; omega)) <;> (try grind)))
end Go.Proofs.YthnemhfamhnfjaaGreatDoor
namespace Go.VL
open Go
theorem znt {P : Program} {Γ : Ctx} {c : Code} {s : St} {Q : Exit -> St -> Prop} {x j : Nat} {cells : List U} {rows : List (List U)} (hx : getK s.env x = some (.u (.agg cells))) (hj : cells[j]? = some (.sl rows)) (h : rows.length <= 9223372036854775807 -> V P Γ c s Q) : V P Γ c s Q :=
 zoT (fun K a w hs => by
  have hr := (hs.getK hx).2;obtain ⟨vs, hl, _, hr⟩ := zd2 hr;have hr := hr j _ hj;generalize vs.getD j undef = v at hr;cases hr with
  | slE => simp
  | sl _ b o sz c f hc hcx => unfold maxLen at hcx; omega) h
end Go.VL
namespace Go.Proofs.YthnemhfamhnfjaaGreatDoor
open Go Go.VL
attribute [local simp] zc2 zb3 evPure opd uOf zaF St.put St.at getK binD binI binS binB nilD aggD zgQ zha lookD lookR zcu Go.VL.nextD zcx zhu zhc zf2 zcw mkV zdj zbk zbu mapEff zdY zfQ Key.kk shiftI arith unD convD zdH loadD cellsAt fieldAddrD fieldD indexAddrD indexD sliceD cutD lenD minmaxD nilCheckD buildD fillD zbP zdb zeC setAll zcK zeO zco zg0 zcm St.add zaO zbF rowsOf zdA zcH zam zac zaa za7 zcC zaQ entry zbE zbO valD zb4 zcy zgh zdh zdi zbT zbK zaw zaW zbo delAll effD St.effS zcU za8 zaY zcV za9 za0 zb9 zaZ zaT zca zcS zbD zb8 zbl zb6 zb7 zaL mkD zbL zbv zbJ zaw zcn D.ids Op.operands Call.operands zby makeIfD makeFuncD typeAssertD zg9 zdw zdx zg1 zcv IntKind.bits zcN List.take_of_length_le List.range_succ
attribute [local irreducible] V G H HD HD2 zao Eff CallP CallV EndOK Fun Ret FinOK LoopI LoopW EndW
theorem zi5 {l : List Tok} (hl : TokOK l) : ∀ f, zf4 l f /\ zpq l f /\ zhI l f := by
 intro f
 induction f using Nat.strongRecOn with
 | _ f ih =>
  cases f with
  | zero => exact ⟨fun p form i nx _ _ h => by omega, fun p form i nx _ _ h => by omega, fun p i nx _ _ h => by omega⟩
  | succ f =>
   obtain ⟨h1, h2, h3⟩ := ih f (by omega);exact ⟨zod hl (fun g hg => (ih g (by omega)).1) h2, zjZ hl h1 h3, ziZ hl h1⟩
def Exp.lev : Exp -> Int
 | .mk _ _ _ _ args => (args.map fun e => e.lev).foldl max 0 + 1
theorem Exp.zgZ (e : Exp) : e.lev = (e.args.map Exp.lev).foldl max 0 + 1 := by
 cases e with
 | mk op n u s args => rw [Exp.lev]; rfl
theorem zck : ∀ (l : List Int) (a : Int), a <= l.foldl max a /\ ∀ x ∈ l, x <= l.foldl max a
 | [], a => ⟨by simp, fun x h => by simp at h⟩
 | b :: l, a => by
  obtain ⟨h1, h2⟩ := zck l (max a b);refine ⟨by simp only [List.foldl_cons]; omega, fun x hx => ?_⟩;rcases List.mem_cons.1 hx with rfl | hx
  ·simp only [List.foldl_cons]; omega
  ·exact h2 x hx
theorem Exp.lev_pos (e : Exp) : 1 <= e.lev := by
 rw [Exp.zgZ];have := (zck (e.args.map Exp.lev) 0).1;omega
theorem Exp.ze5 {e x : Exp} (h : x ∈ e.args) : SizeOf.sizeOf x < SizeOf.sizeOf e := by
 cases e with
 | mk op n u s args =>
  have := List.sizeOf_lt_of_mem h;simp only [Exp.args] at this;simp only [Exp.mk.sizeOf_spec];omega
theorem zhs : ∀ (n : Nat) (e : Exp), SizeOf.sizeOf e <= n -> e.lev <= 1000000000 -> Fun Tryz.prog 44 [.u (.agg e.row)] (· = .u (.int .i64 e.lev)) := by
 intro n
 induction n with
 | zero =>
  intro e h;cases e with
  | mk op n u s args => simp only [Exp.mk.sizeOf_spec] at h; omega
 | succ n ih =>
  intro e hs he;have hx : ∀ x ∈ e.args, Fun Tryz.prog 44 [.u (.agg [.int .i64 x.op, .int .i64 x.n, .int .i64 x.unit, .str x.s, .sl (x.args.map Exp.row)])] (· = .u (.int .i64 x.lev)) := fun x hx => by
   rw [<- Exp.row_eq];refine ih x (by have := Exp.ze5 hx; omega) ?_;have := (zck (e.args.map Exp.lev) 0).2 x.lev (List.mem_map.2 ⟨x, hx, rfl⟩);rw [Exp.zgZ] at he;omega
  have hlb : ∀ k, ((e.args.map Exp.lev).take k).foldl max 0 <= 1000000000 := fun k => by
   rw [<- List.map_take];rw [Exp.zgZ] at he;have h2 : (e.args.map Exp.lev).foldl max 0 = (e.args.drop k |>.map Exp.lev).foldl max ((e.args.take k |>.map Exp.lev).foldl max 0) := by
    rw [<- List.foldl_append, <- List.map_append, List.take_append_drop]
   have := (zck (e.args.drop k |>.map Exp.lev) ((e.args.take k |>.map Exp.lev).foldl max 0)).1;omega
  rw [Exp.row_eq, Exp.zgZ];generalize hA : e.args = A at *;rw [Exp.zgZ, hA] at he
  (refine Fun.of_body Tryz.func44 rfl (by simp) fun Γ hn => ?_); simp only [entry, ziC, ziN, maC, maN, oA, Tryz.ntmps44]
  refine znt (x := 0) (j := 4) rfl rfl fun hl => ?_;simp at hl
  repeat' (first
  | ((first | refine zaf ?_ | refine zaj ?_ | refine zag ?_ | refine zas ?_ | fail); simp)
  | fail)
  refine zbU (α := { k : Nat // k <= A.length }) [0, 1, 2, 7, 8] (fun k => [(9, .u (.int .i64 k.1)), (3, .u (.int .i64 (((A.map Exp.lev).take k.1).foldl max 0)))]) (fun k => A.length - k.1) ⟨0, by omega⟩ ?_ ?_
  ·exact (Wk.env rfl rfl rfl (by simp [wkE, St.lp, zak, zaa, getK] <;> (try (intros; simp_all; done)) <;> (try (intros; omega)) <;> (try grind)))
  rintro ⟨k, hk⟩;simp [St.lp, St.only, zak, zaa, getK];rcases hy : A[k]? with _ | y
  ·have hge : A.length <= k := by simpa using hy
   have hb := hlb k;rw [List.take_of_length_le (by simpa using hge : (A.map Exp.lev).length <= k)] at hb ⊢;have hb0 := (zck (A.map Exp.lev) 0).1;generalize (A.map Exp.lev).foldl max 0 = M at *
   repeat' (first
  | ((first | refine zaf ?_ | refine zaj ?_ | fail); simp [hy])
  | (refine ⟨by omega, ?_⟩)
  | (refine zag ?_; simp [hy])
  | (refine zap ?_; simp only [zao])
  | (refine zbq ?_; simp [zao])
  | (intro hc <;> (try (exfalso; omega)))
  | fail)
   (refine EndOK.val (.inr rfl) ?_; simp [zay, zae, zaq, Tryz.results44])
  ·have hlt : k < A.length := (lGE.1 hy).1;have hfn := hx y (List.mem_of_getElem? hy);have ht : ((A.map Exp.lev).take (k + 1)).foldl max 0 = max (((A.map Exp.lev).take k).foldl max 0) y.lev := by
    rw [List.take_add_one, List.getElem?_map, hy];simp
   have hb := hlb (k + 1);rw [ht] at hb;have hb0 := (zck ((A.map Exp.lev).take k) 0).1;generalize hM : ((A.map Exp.lev).take k).foldl max 0 = M at *;have hyp := y.lev_pos
   repeat' (first
  | ((first | refine zaf ?_ | refine zaj ?_ | fail); simp [hy, Exp.row_eq])
  | (refine ⟨by omega, ?_⟩)
  | ((first | refine zag ?_ | refine zat ?_ | fail); simp [hy, Exp.row_eq])
  | (refine zar ?_; simp only [zao])
  | (refine ⟨?_, by omega⟩)
  | (intro hc <;> (try (exfalso; omega)))
  | (refine CallP.fE (hfn) (by first | rfl | fail) (by first | simp [hy, Exp.row_eq] <;> rfl | fail) ?_; (try simp [hy, Exp.row_eq]))
  | fail)
   refine LoopW.next ⟨k + 1, hlt⟩ (by show A.length - (k + 1) < A.length - k; omega) ?_
   exact (Wk.cut rfl (by simp [hn, St.lp]) (by simp [wkO, St.lp, zaa, getK, Ob.under, D.under, zad, zah, ht]) (by simp [wkU, St.lp, zak, zaa, getK, D.under, ht]) (by simp [wkE, St.lp, zak, zaa, getK, ht] <;> (try (intros; simp_all; done)) <;> (try (intros; omega)) <;> (try grind)))
end Go.Proofs.YthnemhfamhnfjaaGreatDoor
namespace Go.Proofs.YthnemhfamhnfjaaGreatDoor
open Go Go.VL
def zpC (l : List Tok) (p : Nat) (least most : Int) : PR Int := match l[p]? with
 | none => .stop 0 0
 | some t => if t.kind = 2 then if least <= t.n /\ t.n <= most then .ok t.n (p + 1) else .stop t.pos 3 else .stop t.pos 12
def zdP (l : List Tok) (p : Nat) (word : W8) (least most : Int) (behind : List W8) : PR Int :=
 if isB l p word = true then (zpC l (p + 1) least most).bind fun n q => (zbS l q behind).bind fun _ r => .ok n r else .ok 0 p
def zeb (l : List Tok) (p : Nat) : PR Exp := (zed l (4 * l.length + 3) p 0).bind fun e q =>
 if isB l q [59] = true then if e.lev <= 12 then .ok e (q + 1) else .stop (zc0 l q) 6 else .stop (zc0 l q) 12
def zkd (l : List Tok) (p : Nat) : PR (Int × Bool) := (zbS l p [[99, 105, 114, 99, 108, 101]]).bind fun _ q =>
 if isB l q [114, 111, 116, 97, 116, 105, 110, 103] = true then (zbS l (q + 1) [[59]]).bind fun _ r => .ok (0, false) r
 else if isB l q [115, 97, 118, 105, 110, 103] = true then (zbS l (q + 1) [[59]]).bind fun _ r => .ok (2, false) r
 else (zbS l q [[98, 105, 100, 100, 105, 110, 103]]).bind fun _ r => if isB l r [115, 101, 97, 108, 101, 100] = true then (zbS l (r + 1) [[59]]).bind fun _ r => .ok (1, true) r else (zbS l r [[59]]).bind fun _ r => .ok (1, false) r
def ordersW : List W8 := [[106, 111, 105, 110], [100, 114, 97, 119], [110, 101, 101, 100]]
def zgz (l : List Tok) (p : Nat) : PR Int :=
 if isB l p [111, 114, 100, 101, 114] = true then match ordersW.findIdx? fun w => isB l (p + 1) w with
  | some i => (zbS l (p + 2) [[59]]).bind fun _ r => .ok i r
  | none => .stop (zc0 l (p + 1)) 12
 else .ok 0 p
def zgI (l : List Tok) : Nat -> Nat -> List Let -> PR (List Let)
 | 0, _, _ => .stop 0 0
 | f + 1, p, acc => if isB l p [108, 101, 116] = true then
   if acc.length < 20 then match l[p + 1]? with
    | none => .stop 0 0
    | some t => if t.kind = 1 ∧ zcs t.text = true then
          if (acc.any fun x => decide (x.name = t.text)) = true then .stop t.pos 5
          else (zbS l (p + 2) [[61]]).bind fun _ q => (zeb l q).bind fun e r => zgI l f r (acc ++ [⟨t.text, e⟩])
     else .stop t.pos 12
   else .stop (zc0 l p) 6
  else .ok acc p
def nothingE : Exp := .mk 0 0 3 [] []
def zdJ (l : List Tok) (p : Nat) (word : W8) : PR Exp := if isB l p word = true then zeb l (p + 1) else .ok nothingE p
def zj7 (l : List Tok) (p : Nat) (word : W8) : PR Unit := if isB l p word = true then .ok () p else .stop (zc0 l p) 12
def zpe (l : List Tok) (p : Nat) : PR Unit := match l[p]? with | some t => if t.kind = 0 then .ok () p else .stop t.pos 12 | none => .stop 0 0
def zph (l : List Tok) : PR By :=
 (zkd l 0).bind fun k p => (zj7 l p [112, 101, 114, 105, 111, 100]).bind fun _ p => (zdP l p [112, 101, 114, 105, 111, 100] 1 1000 [[100, 97, 121, 115], [59]]).bind fun period p =>
 (zj7 l p [108, 97, 115, 116]).bind fun _ p => (zdP l p [108, 97, 115, 116] 1 1000 [[59]]).bind fun last p =>
 (zdP l p [103, 114, 97, 99, 101] 0 1000 [[100, 97, 121, 115], [59]]).bind fun grace p => (zdP l p [119, 97, 105, 116] 0 1000 [[100, 97, 121, 115], [59]]).bind fun wait p =>
 (zgz l p).bind fun order p => (zdP l p [98, 97, 99, 107, 115] 0 60 [[59]]).bind fun backs p => (zdP l p [118, 111, 105, 99, 101, 115] 0 1000 [[112, 101, 114], [109, 105, 108, 108, 101], [59]]).bind fun voices p =>
 (zdP l p [106, 117, 114, 121] 0 60 [[59]]).bind fun jury p => (zdP l p [102, 117, 110, 100] 0 1000 [[112, 101, 114], [109, 105, 108, 108, 101], [59]]).bind fun fund p =>
 (zgI l 21 p []).bind fun lets p => (zbS l p [[100, 117, 101]]).bind fun _ p => (zeb l p).bind fun due p =>
 (zdJ l p [102, 105, 110, 101]).bind fun fine p => (zdJ l p [112, 97, 121]).bind fun pay p => (zdJ l p [99, 111, 118, 101, 114]).bind fun cover p => (zdJ l p [104, 111, 108, 100]).bind fun hold p =>
 (zpe l p).bind fun _ p => .ok ⟨k.1, period, grace, wait, last, order, k.2, backs, voices, jury, fund, lets, due, fine, pay, cover, hold⟩ p
def StopAt (l : List Tok) (p : Nat) (S : List W8) : Prop := ∀ v, v ∉ S -> isB l p v = false
theorem StopAt.head {l p} {w : W8} {b : List W8} (h : Reads l p (w :: b)) : StopAt l p [w] := fun v hv => by
 rw [h.isB]; exact decide_eq_false fun e => hv (by simp [e])
theorem StopAt.more {l p} {S T : List W8} (h : StopAt l p S) (hs : ∀ v ∈ S, v ∈ T) : StopAt l p T := fun v hv => h v fun hm => hv (hs v hm)
end Go.Proofs.YthnemhfamhnfjaaGreatDoor
namespace Go.Proofs.YthnemhfamhnfjaaGreatDoor
open Go Go.VL
theorem Reads.lt {l p} {w : W8} {b : List W8} (h : Reads l p (w :: b)) : p < l.length := by
 obtain ⟨_, t, ht, _⟩ := h.head;exact (lGE.1 ht).1
end Go.Proofs.YthnemhfamhnfjaaGreatDoor
namespace Go.Proofs.YthnemhfamhnfjaaGreatDoor
open Go Go.VL
end Go.Proofs.YthnemhfamhnfjaaGreatDoor
namespace Go.Proofs.YthnemhfamhnfjaaGreatDoor
open Go Go.VL
end Go.Proofs.YthnemhfamhnfjaaGreatDoor
namespace Go.Proofs.YthnemhfamhnfjaaGreatDoor
open Go Go.VL
def NoSemi (ws : List W8) : Prop := ∀ w ∈ ws, w ≠ [59]
theorem NoSemi.nil : NoSemi [] := fun _ h => by cases h
theorem NoSemi.cons {w : W8} {ws : List W8} (h : w ≠ [59]) (h2 : NoSemi ws) : NoSemi (w :: ws) := fun x hx => by
 rcases List.mem_cons.1 hx with rfl | hx
 ·exact h
 ·exact h2 x hx
theorem NoSemi.app {a b : List W8} (h : NoSemi a) (h2 : NoSemi b) : NoSemi (a ++ b) := fun x hx => by
 rcases List.mem_append.1 hx with hx | hx
 ·exact h x hx
 ·exact h2 x hx
end Go.Proofs.YthnemhfamhnfjaaGreatDoor
namespace Go.Proofs.YthnemhfamhnfjaaGreatDoor
open Go Go.VL
def txt (e : Exp) (least : Int) : W8 := zbw (zeL e least)
theorem zaI (w : W8) : zbw [w] = w := by simp [zbw, spW, zkg]
theorem zbG {w : W8} {l : List W8} (h : l ≠ []) : zbw (w :: l) = w ++ [32] ++ zbw l := by
 cases l with
 | nil => exact absurd rfl h
 | cons v l => exact zaz w v l
theorem zjC {d : Nat} {e : Exp} (h : zax d e = true) : zbQ e ≠ [] := by
 cases d with
 | zero => rw [zax] at h; cases h
 | succ d =>
  obtain ⟨op, n, u, s, args⟩ := e;rcases zd1 h with ⟨rfl, rfl, rfl, hn⟩ | ⟨rfl, rfl, rfl, rfl, hn⟩ | ⟨rfl, rfl, rfl, ha, ⟨rfl, hl⟩ | ⟨rfl, hl⟩ | ⟨g0, g1, g12, g13, g2, g3, hl⟩⟩
  ·rw [zbQ, zem, if_pos rfl, zeT];split <;> simp
  ·rw [zbQ, zem, if_neg (by decide), if_pos rfl]; simp
  ·obtain ⟨a, rfl⟩ := zn0 hl;rw [zkZ]; simp
  ·obtain ⟨a, b, c, rfl⟩ := znY hl;rw [znl]; simp
  ·obtain ⟨a, b, rfl⟩ := znZ hl;by_cases h6 : op = 6
   ·subst h6; rw [zk0]; simp
   ·by_cases h7 : op = 7
    ·subst h7; rw [zk1]; simp
    ·obtain ⟨o, ho, rfl⟩ := zkt (by omega) (by omega) h6 h7;rw [zkY ho]; simp
theorem zc4 {d : Nat} {e : Exp} (h : zax d e = true) (least : Int) : zeL e least ≠ [] := by
 rw [zeL, zpO];split
 ·simp
 ·exact zjC h
theorem ze6 {d : Nat} {e : Exp} (h : zax d e = true) {least : Int} (hl : zbA e.op < least) : txt e least = [40, 32] ++ zbw (zbQ e) ++ [32, 41] := by
 rw [txt, zeL, zpO, if_pos hl];simp only [List.cons_append];rw [zbG (by simp), zcL _ _ (zjC h) (by simp), zaI];simp
theorem zch {e : Exp} {least : Int} (hl : ¬ zbA e.op < least) : txt e least = zbw (zbQ e) := by
 rw [txt, zeL, zpO, if_neg hl]
theorem zke {d : Nat} {a b c : Exp} (ha : zax d a = true) (hb : zax d b = true) (hc : zax d c = true) :
  zbw (zbQ (.mk 13 0 0 [] [a, b, c])) = [105, 102, 32] ++ txt a 0 ++ [32, 116, 104, 101, 110, 32] ++ txt b 0 ++ [32, 101, 108, 115, 101, 32] ++ txt c 0 := by
 rw [znl, zbG (by simp), zcL _ _ (zc4 ha 0) (by simp), zbG (by simp), zcL _ _ (zc4 hb 0) (by simp), zbG (zc4 hc 0)];simp [txt]
theorem zia {d : Nat} {a : Exp} (ha : zax d a = true) : zbw (zbQ (.mk 12 0 0 [] [a])) = [110, 111, 116, 32] ++ txt a 3 := by
 rw [zkZ, zbG (zc4 ha 3)];simp [txt]
theorem zib {d : Nat} {a b : Exp} (ha : zax d a = true) (hb : zax d b = true) : zbw (zbQ (.mk 6 0 0 [] [a, b])) = [109, 105, 110, 32, 40, 32] ++ txt a 0 ++ [32, 44, 32] ++ txt b 0 ++ [32, 41] := by
 rw [zk0, zbG (by simp), zbG (by simp), zcL _ _ (zc4 ha 0) (by simp), zbG (by simp), zcL _ _ (zc4 hb 0) (by simp), zaI];simp [txt]
theorem zic {d : Nat} {a b : Exp} (ha : zax d a = true) (hb : zax d b = true) : zbw (zbQ (.mk 7 0 0 [] [a, b])) = [109, 97, 120, 32, 40, 32] ++ txt a 0 ++ [32, 44, 32] ++ txt b 0 ++ [32, 41] := by
 rw [zk1, zbG (by simp), zbG (by simp), zcL _ _ (zc4 ha 0) (by simp), zbG (by simp), zcL _ _ (zc4 hb 0) (by simp), zaI];simp [txt]
theorem zd6 {d : Nat} {a b : Exp} {o : Opr} (ho : o ∈ oprs) (ha : zax d a = true) (hb : zax d b = true) :
  zbw (zbQ (.mk o.op 0 0 [] [a, b])) = txt a (if o.form = 4 then 5 else o.form) ++ [32] ++ o.text ++ [32] ++ txt b (o.form + 1) := by
 rw [zkY ho, zcL _ _ (zc4 ha _) (by simp), zbG (zc4 hb _)];simp [txt]
def SB : Nat -> Nat
 | 0 => 0
 | d + 1 => 3 * SB d + 200
theorem zd7 {n : Int} (h0 : 0 <= n) (h1 : n <= 1099511627776) : (Lib.itoa n).length <= 13 := by
 rw [Lib.itoa, if_neg (by omega)];have hlt : n.toNat < 10 ^ (12 + 1) := by
  have : (10 : Nat) ^ 13 = 10000000000000 := by decide
  omega
 exact zil n.toNat 12 hlt
theorem zmy {n u : Int} (h : znB (.mk 0 n u [] []) = true) : (zbw (zeT n u)).length <= 30 := by
 obtain ⟨hu0, hu1, hn0, hn2, hn1⟩ := zj4 h;have hi := zd7 hn0 hn2;rw [zeT];split
 ·rw [zaI]; split <;> simp
 ·split
  ·rw [zaz, zaI]; simp; omega
  ·split
   ·rw [zaz, zaI]; simp; omega
   ·split
    ·rw [zaz, zaz, zaI]; simp; omega
    ·rw [zaI]; omega
theorem zgc {s : W8} (h : zcs s = true) : s.length <= 20 := by
 simp only [zcs, Bool.and_eq_true] at h;have h := h.1;cases s with
 | nil => simp
 | cons c r =>
  simp only [zeR, Bool.and_eq_true, decide_eq_true_eq] at h;exact h.1.2
theorem zj3 {o : Opr} (ho : o ∈ oprs) : o.text.length <= 3 := by
 simp only [oprs, List.mem_cons, List.not_mem_nil, or_false] at ho;rcases ho with rfl | rfl | rfl | rfl | rfl | rfl | rfl | rfl <;> decide
theorem zk2 : ∀ (d : Nat) (e : Exp), zax d e = true -> (zbw (zbQ e)).length + 4 <= SB d
 | 0, e, h => by rw [zax] at h; cases h
 | d + 1, .mk op n u s args, h => by
  have hx : ∀ x : Exp, zax d x = true -> ∀ least, (txt x least).length <= SB d := fun x hx least => by
   have h1 := zk2 d x hx;by_cases hl : zbA x.op < least
   ·rw [ze6 hx hl]; simp; omega
   ·rw [zch hl]; omega
  rw [SB];rcases zd1 h with ⟨rfl, rfl, rfl, hn⟩ | ⟨rfl, rfl, rfl, rfl, hn⟩ | ⟨rfl, rfl, rfl, ha, ⟨rfl, hl⟩ | ⟨rfl, hl⟩ | ⟨g0, g1, g12, g13, g2, g3, hl⟩⟩
  ·rw [zbQ, zem, if_pos rfl];have := zmy hn;omega
  ·rw [zbQ, zem, if_neg (by decide), if_pos rfl, zaI];have := zgc hn;omega
  ·obtain ⟨a, rfl⟩ := zn0 hl;have h1 := ha a (by simp);rw [zia h1];have := hx a h1 3;simp;omega
  ·obtain ⟨a, b, c, rfl⟩ := znY hl;have h1 := ha a (by simp);have h2 := ha b (by simp);have h3 := ha c (by simp);rw [zke h1 h2 h3];have := hx a h1 0;have := hx b h2 0;have := hx c h3 0;simp;omega
  ·obtain ⟨a, b, rfl⟩ := znZ hl;have h1 := ha a (by simp);have h2 := ha b (by simp);by_cases h6 : op = 6
   ·subst h6;rw [zib h1 h2];have := hx a h1 0;have := hx b h2 0;simp;omega
   ·by_cases h7 : op = 7
    ·subst h7;rw [zic h1 h2];have := hx a h1 0;have := hx b h2 0;simp;omega
    ·obtain ⟨o, ho, rfl⟩ := zkt (by omega) (by omega) h6 h7;rw [zd6 ho h1 h2];have := hx a h1 (if o.form = 4 then 5 else o.form);have := hx b h2 (o.form + 1);have := zj3 ho;simp only [List.length_append, List.length_cons, List.length_nil];omega
theorem zqM {d : Nat} (h : d <= 12) : SB d <= 53144000 := by
 have key : ∀ n, n <= 12 -> SB n <= 53144000 := by decide
 exact key d h
theorem zbf {d : Nat} {e : Exp} (h : zax d e = true) (hd : d <= 12) (least : Int) : (txt e least).length <= 53144000 := by
 have h1 := zk2 d e h;have h2 := zqM hd;by_cases hl : zbA e.op < least
 ·rw [ze6 h hl]; simp; omega
 ·rw [zch hl]; omega
end Go.Proofs.YthnemhfamhnfjaaGreatDoor
namespace Go.Proofs.YthnemhfamhnfjaaGreatDoor
open Go Go.VL
theorem zki (m : Nat) (h : m <= 1099511627776) : (Lib.decDigits m).length <= 13 := by
 have := zd7 (n := (m : Int)) (by omega) (by omega);rw [Lib.itoa, if_neg (by omega)] at this;simpa using this
end Go.Proofs.YthnemhfamhnfjaaGreatDoor
namespace Go.Proofs.YthnemhfamhnfjaaGreatDoor
open Go Go.VL
theorem zmE {l : List Tok} {p q : Nat} {w : W8} {x : Unit} (h : zj7 l p w = .ok x q) : q = p /\ isB l p w = true := by
 unfold zj7 at h;split at h
 ·cases h; exact ⟨rfl, by assumption⟩
 ·cases h
def zl2 (l : List Tok) (p : Nat) (b : Bool) (e : Int) : PR Unit := if b = true then .ok () p else .stop (zc0 l p) e
theorem zgT (l : List Tok) (p : Nat) (b : Bool) (e : Int) (i nx : Nat) (hi : i < nx) (hp : p < l.length) (hl : TokOK l) :
  RetX Tryz.prog 42 [.ptr i 0, .u (.bool b), .u (.int .i64 e)] [(i, pOb l p)] nx (PPost l i nx (fun _ => .tup []) (zl2 l p b e)) := by
 obtain ⟨t, ht⟩ : ∃ t, l[p]? = some t := ⟨_, List.getElem?_eq_getElem hp⟩;have hpa : zc0 l p = t.pos := by unfold zc0; rw [ht]
 unfold zl2;cases b with
 | true => exact zdF l p e i nx hi
 | false => rw [if_neg (by simp), hpa]; exact zcM l p t e i nx hi ht hl.len
theorem zkv (l : List Tok) (p : Nat) (w : W8) (i nx : Nat) (hi : i < nx) (hp : p < l.length) (hl : TokOK l) :
  RetX Tryz.prog 42 [.ptr i 0, .u (.bool (isB l p w)), .u (.int .i64 12)] [(i, pOb l p)] nx (PPost l i nx (fun _ => .tup []) (zj7 l p w)) := zgT l p (isB l p w) 12 i nx hi hp hl
theorem znh {l : List Tok} {p q : Nat} {b : Bool} {e : Int} {x : Unit} (h : zl2 l p b e = .ok x q) : q = p /\ b = true := by
 unfold zl2 at h;split at h
 ·cases h; exact ⟨rfl, by assumption⟩
 ·cases h
theorem zpd {l : List Tok} {p : Nat} {t : Tok} (ht : l[p]? = some t) (i nx : Nat) (hi : i < nx) (hl : TokOK l) :
  RetX Tryz.prog 42 [.ptr i 0, .u (.bool (decide (t.kind = 0))), .u (.int .i64 12)] [(i, pOb l p)] nx (PPost l i nx (fun _ => .tup []) (zpe l p)) := by
 have h := zgT l p (decide (t.kind = 0)) 12 i nx hi (lGE.1 ht).1 hl;have e : zl2 l p (decide (t.kind = 0)) 12 = zpe l p := by
  unfold zl2 zpe zc0;rw [ht];simp
 rwa [e] at h
theorem zpU {l : List Tok} {p q : Nat} {x : Unit} (h : zpe l p = .ok x q) : q = p := by
 unfold zpe at h;split at h
 ·split at h
  ·cases h; rfl
  ·cases h
 ·cases h
theorem zly {l : List Tok} {f p : Nat} {acc : List Let} {t : Tok} (ht : l[p + 1]? = some t) : zgI l (f + 1) p acc = if isB l p [108, 101, 116] = true then
  (zl2 l p (decide ((acc.length : Int) < 20)) 6).bind fun _ _ => (zl2 l (p + 1) (decide (t.kind = 1) && zcs t.text) 12).bind fun _ _ =>
  (zl2 l (p + 1) (!(acc.any fun x => decide (x.name = t.text))) 5).bind fun _ _ => (zbS l (p + 2) [[61]]).bind fun _ q => (zeb l q).bind fun e r => zgI l f r (acc ++ [⟨t.text, e⟩])
  else .ok acc p := by
 have hpa : zc0 l (p + 1) = t.pos := by unfold zc0; rw [ht]
 rw [zgI, ht];unfold zl2;rw [hpa];by_cases h1 : isB l p [108, 101, 116] = true
 ·rw [if_pos h1, if_pos h1];by_cases h2 : acc.length < 20
  ·rw [if_pos h2, if_pos (by simp; omega), PR.zaV];simp only;by_cases h3 : t.kind = 1 /\ zcs t.text = true
   ·have e3 : (decide (t.kind = 1) && zcs t.text) = true := by simp [h3]
    rw [if_pos h3, e3];simp only [if_true, PR.zaV];by_cases h4 : (acc.any fun x => decide (x.name = t.text)) = true
    ·have e4 : (!acc.any fun x => decide (x.name = t.text)) = false := by rw [h4]; rfl
     rw [if_pos h4, e4];rfl
    ·have e4 : (!acc.any fun x => decide (x.name = t.text)) = true := by simpa using h4
     rw [if_neg h4, e4];rfl
   ·have e3 : (decide (t.kind = 1) && zcs t.text) = false := by simpa using h3
    rw [if_neg h3, e3];rfl
  ·have e2 : decide ((acc.length : Int) < 20) = false := by simp; omega
   rw [if_neg h2, e2];rfl
 ·rw [if_neg h1, if_neg h1]
theorem zmP {l : List Tok} {f p : Nat} {acc : List Let} (h : ¬ isB l p [108, 101, 116] = true) : zgI l (f + 1) p acc = .ok acc p := by rw [zgI, if_neg h]
theorem PR.zdV {α β γ : Type} {r : PR α} {f : α -> Nat -> PR β} {g : β -> Nat -> PR γ} : (r.bind f).bind g = r.bind fun a p => (f a p).bind g := by cases r <;> rfl
def zf0 (acc : List Let) : List (List U) := acc.map fun l => [.str l.name, .int .i64 l.body.op, .int .i64 l.body.n, .int .i64 l.body.unit, .str l.body.s, .sl (l.body.args.map Exp.row)]
theorem zmQ (acc : List Let) : (zf0 acc).length = acc.length := by simp [zf0]
theorem zlz (acc : List Let) (s : W8) (e : Exp) : zf0 (acc ++ [⟨s, e⟩]) = zf0 acc ++ [[.str s, .int .i64 e.op, .int .i64 e.n, .int .i64 e.unit, .str e.s, .sl (e.args.map Exp.row)]] := by simp [zf0]
abbrev byD (b : By) : D := .u (.agg (zaS b))
end Go.Proofs.YthnemhfamhnfjaaGreatDoor
namespace Go.Proofs.YthnemhfamhnfjaaGreatDoor
open Go Go.VL
attribute [local simp] HS zc2 zb3 evPure opd uOf zaF St.put St.at getK binD binI binS binB nilD aggD zgQ zha lookD lookR zcu Go.VL.nextD zcx zhu zhc zf2 zcw mkV zdj zbk zbu mapEff zdY zfQ Key.kk shiftI arith unD convD zdH loadD cellsAt fieldAddrD fieldD indexAddrD indexD sliceD cutD lenD minmaxD nilCheckD buildD fillD zbP zdb zeC setAll zcK zeO zco zg0 zcm St.add zaO zbF rowsOf zdA zcH zam zac zaa za7 zcC zaQ entry zbE zbO valD zb4 zcy zgh zdh zdi zbT zbK zaw zaW zbo delAll effD St.effS zcU za8 zaY zcV za9 za0 zb9 zaZ zaT zca zcS zbD zb8 zbl zb6 zb7 zaL mkD zbL zbv zbJ zaw zcn D.ids Op.operands Call.operands zby makeIfD makeFuncD typeAssertD zg9 zdw zdx zg1 zcv IntKind.bits zcN List.take_of_length_le List.range_succ
attribute [local irreducible] V G H HD HD2 HD4 zjP RetX zao Eff CallP CallV EndOK Fun Ret FinOK LoopI LoopW EndW
theorem zkO (e : Exp) : Fun Tryz.prog 111 [.u (.agg e.row)] (· = .u (.int .i64 (zbA e.op))) := by
 have hop := zd3;rw [Exp.row_eq];by_cases h1 : e.op = 13
 ·rw [zbA, if_pos h1]
  (refine Fun.of_body Tryz.func111 rfl (by simp) fun Γ hn => ?_); simp only [entry, ziC, ziN, maC, maN, oA, Tryz.ntmps111]
  repeat' (first
  | ((first | refine zaf ?_ | refine zaj ?_ | refine zag ?_ | refine zai ?_ | refine zas ?_ | fail); simp [h1])
  | (refine zap ?_; simp only [zao])
  | fail)
  (refine EndOK.val (.inr rfl) ?_; simp [zay, zae, zaq, Tryz.results111])
 ·by_cases h2 : e.op = 12
  ·rw [zbA, if_neg h1, if_pos h2]
   (refine Fun.of_body Tryz.func111 rfl (by simp) fun Γ hn => ?_); simp only [entry, ziC, ziN, maC, maN, oA, Tryz.ntmps111]
   repeat' (first
  | ((first | refine zaf ?_ | refine zaj ?_ | refine zag ?_ | refine zai ?_ | refine zas ?_ | fail); simp [h1, h2])
  | (refine zap ?_; simp only [zao])
  | fail)
   (refine EndOK.val (.inr rfl) ?_; simp [zay, zae, zaq, Tryz.results111])
  ·rw [zbA, if_neg h1, if_neg h2];have hlen : oprs.length = 8 := rfl;generalize oprs = L at *
   (refine Fun.of_body Tryz.func111 rfl (by simp) fun Γ hn => ?_); simp only [entry, ziC, ziN, maC, maN, oA, Tryz.ntmps111]
   repeat' (first
  | ((first | refine zaf ?_ | refine zaj ?_ | refine zag ?_ | refine zai ?_ | refine zas ?_ | fail); simp [h1, h2, hlen])
  | (refine zar ?_; simp only [zao])
  | (refine CallP.fE (hop) (by first | rfl | fail) (by first | simp [h1, h2, hlen] <;> rfl | fail) ?_; (try simp [h1, h2, hlen]))
  | fail)
   refine zdL (α := { i : Nat // i <= 8 /\ ∀ o ∈ L.take i, decide (o.op = e.op) = false }) [1, 2, 11, 12] (fun x => [(13, .u (.int .i64 x.1))]) (fun x => [(0, .box [.u (.int .i64 e.op), .u (.int .i64 e.n), .u (.int .i64 e.unit), .u (.str e.s), .u (.sl (e.args.map Exp.row))])]) 1 (fun x => 8 - x.1) ⟨0, by omega, by simp⟩ ?_ ?_
   ·exact (Wk.cut rfl (by simp [hn, St.lp]) (by simp [wkO, St.lp, zaa, getK, Ob.under, D.under, zad, zah, hlen]) (by simp [wkU, St.lp, zak, zaa, getK, D.under, hlen]) (by simp [wkE, St.lp, zak, zaa, getK, hlen] <;> (try (intros; simp_all; done)) <;> (try (intros; omega)) <;> (try grind)))
   rintro ⟨i, hi, hb⟩;simp [St.lp, St.only, zak, zaa, getK];rcases hx : L[i]? with _ | o
   ·have hge : L.length <= i := by simpa using hx
    obtain rfl : i = 8 := by omega
    rw [List.take_of_length_le (by omega)] at hb;have hn0 : L.find? (fun o => decide (o.op = e.op)) = none := by rw [List.find?_eq_none]; intro o ho; simp [hb o ho]
    rw [hn0]
    repeat' (first
  | ((first | refine zaf ?_ | refine zaj ?_ | refine zag ?_ | fail); simp [hx, hlen])
  | (refine zap ?_; simp only [zao])
  | (refine zbq ?_; simp [zao])
  | fail)
    (refine EndOK.val (.inr rfl) ?_; simp [zay, zae, zaq, Tryz.results111])
   ·have hlt : i < L.length := (lGE.1 hx).1;have hi8 : i < 8 := by omega
    have hxe : L[i]'hlt = o := (lGE.1 hx).2;by_cases hp : o.op = e.op
    ·have hf : L.find? (fun o => decide (o.op = e.op)) = some o := by
      rw [List.find?_eq_some_iff_getElem];refine ⟨by simpa using hp, i, hlt, (lGE.1 hx).2, fun j hj => ?_⟩;have := hb (L[j]'(by omega)) (by rw [List.mem_take_iff_getElem]; exact ⟨j, by omega, rfl⟩);simp [this]
     rw [hf]
     repeat' (first
  | ((first | refine zaf ?_ | refine zaj ?_ | refine zag ?_ | refine zai ?_ | fail); simp [hx, hlen, hp, hi8, hxe])
  | ((first | refine zap ?_ | refine zar ?_ | fail); simp only [zao])
  | (refine ⟨?_, by omega⟩)
  | (intro hc <;> (try (exfalso; omega)))
  | fail)
     (refine EndOK.val (.inr rfl) ?_; simp [zay, zae, zaq, Tryz.results111])
    ·repeat' (first
  | ((first | refine zaf ?_ | refine zaj ?_ | fail); simp [hx, hlen, hp, hi8, hxe])
  | (refine ⟨by omega, ?_⟩)
  | ((first | refine zag ?_ | refine zai ?_ | refine zat ?_ | fail); simp [hx, hlen, hp, hi8, hxe])
  | (refine zar ?_; simp only [zao])
  | (refine ⟨?_, by omega⟩)
  | (intro hc <;> (try (exfalso; omega)))
  | fail)
     refine LoopW.next ⟨i + 1, by omega, za5 (p := fun o : Opr => decide (o.op = e.op) = false) hx hb (by simpa using hp)⟩ (by simp; omega) ?_
     exact (Wk.cut rfl (by simp [hn, St.lp]) (by simp [wkO, St.lp, zaa, getK, Ob.under, D.under, zad, zah, hlen]) (by simp [wkU, St.lp, zak, zaa, getK, D.under, hlen]) (by simp [wkE, St.lp, zak, zaa, getK, hlen] <;> (try (intros; simp_all; done)) <;> (try (intros; omega)) <;> (try grind)))
theorem zlu (n u : Int) (h : znB (.mk 0 n u [] []) = true) : Fun Tryz.prog 113 [.u (.agg (Exp.mk 0 n u [] []).row)] (· = .u (.str (zbw (zeT n u)))) := by
 obtain ⟨hu0, hu1, hn0, hn2, hn1⟩ := zj4 h;have hit := zkJ n (by omega) (by omega);have hil := zd7 hn0 hn2;rw [Exp.row, List.map_nil, zeT];generalize Lib.itoa n = T at *;have hil2 : T.length <= 1000 := by omega
 by_cases c0 : u = 0
 ·rw [if_pos c0];by_cases c1 : n = 1
  ·rw [if_pos c1, zaI]
   (refine Fun.of_body Tryz.func113 rfl (by simp) fun Γ hn => ?_); simp only [entry, ziC, ziN, maC, maN, oA, Tryz.ntmps113]
   repeat' (first
  | ((first | refine zaf ?_ | refine zaj ?_ | refine zag ?_ | refine zai ?_ | refine zas ?_ | fail); simp [c0, c1])
  | (refine zap ?_; simp only [zao])
  | (refine CallP.fE (hit) (by first | rfl | fail) (by first | simp [c0, c1] <;> rfl | fail) ?_; (try simp [c0, c1]))
  | fail)
   (refine EndOK.val (.inr rfl) ?_; simp [zay, zae, zaq, Tryz.results113])
  ·rw [if_neg c1, zaI]
   (refine Fun.of_body Tryz.func113 rfl (by simp) fun Γ hn => ?_); simp only [entry, ziC, ziN, maC, maN, oA, Tryz.ntmps113]
   repeat' (first
  | ((first | refine zaf ?_ | refine zaj ?_ | refine zag ?_ | refine zai ?_ | refine zas ?_ | fail); simp [c0, c1])
  | ((first | refine zap ?_ | refine zar ?_ | fail); simp only [zao])
  | (refine CallP.fE (hit) (by first | rfl | fail) (by first | simp [c0, c1] <;> rfl | fail) ?_; (try simp [c0, c1]))
  | fail)
   (refine EndOK.val (.inr rfl) ?_; simp [zay, zae, zaq, Tryz.results113])
 ·rw [if_neg c0];by_cases c3 : u = 3
  ·rw [if_pos c3, zaz, zaI]
   (refine Fun.of_body Tryz.func113 rfl (by simp) fun Γ hn => ?_); simp only [entry, ziC, ziN, maC, maN, oA, Tryz.ntmps113]
   repeat' (first
  | ((first | refine zaf ?_ | refine zaj ?_ | fail); simp [c0, c3])
  | (refine ⟨by omega, ?_⟩)
  | ((first | refine zag ?_ | refine zai ?_ | refine zas ?_ | fail); simp [c0, c3])
  | (refine zap ?_; simp only [zao])
  | (refine CallP.fE (hit) (by first | rfl | fail) (by first | simp [c0, c3] <;> rfl | fail) ?_; (try simp [c0, c3]))
  | fail)
   (refine EndOK.val (.inr rfl) ?_; simp [zay, zae, zaq, Tryz.results113])
  ·rw [if_neg c3];by_cases c2 : u = 2
   ·rw [if_pos c2, zaz, zaI]
    (refine Fun.of_body Tryz.func113 rfl (by simp) fun Γ hn => ?_); simp only [entry, ziC, ziN, maC, maN, oA, Tryz.ntmps113]
    repeat' (first
  | ((first | refine zaf ?_ | refine zaj ?_ | fail); simp [c0, c2, c3])
  | (refine ⟨by omega, ?_⟩)
  | ((first | refine zag ?_ | refine zai ?_ | refine zas ?_ | fail); simp [c0, c2, c3])
  | (refine zap ?_; simp only [zao])
  | (refine CallP.fE (hit) (by first | rfl | fail) (by first | simp [c0, c2, c3] <;> rfl | fail) ?_; (try simp [c0, c2, c3]))
  | fail)
    (refine EndOK.val (.inr rfl) ?_; simp [zay, zae, zaq, Tryz.results113])
   ·rw [if_neg c2];by_cases c4 : u = 4
    ·rw [if_pos c4, zaz, zaz, zaI]
     (refine Fun.of_body Tryz.func113 rfl (by simp) fun Γ hn => ?_); simp only [entry, ziC, ziN, maC, maN, oA, Tryz.ntmps113]
     repeat' (first
  | ((first | refine zaf ?_ | refine zaj ?_ | fail); simp [c0, c2, c3, c4])
  | (refine ⟨by omega, ?_⟩)
  | ((first | refine zag ?_ | refine zai ?_ | refine zas ?_ | fail); simp [c0, c2, c3, c4])
  | (refine zap ?_; simp only [zao])
  | (refine CallP.fE (hit) (by first | rfl | fail) (by first | simp [c0, c2, c3, c4] <;> rfl | fail) ?_; (try simp [c0, c2, c3, c4]))
  | fail)
     (refine EndOK.val (.inr rfl) ?_; simp [zay, zae, zaq, Tryz.results113])
    ·rw [if_neg c4, zaI]
     (refine Fun.of_body Tryz.func113 rfl (by simp) fun Γ hn => ?_); simp only [entry, ziC, ziN, maC, maN, oA, Tryz.ntmps113]
     repeat' (first
  | ((first | refine zaf ?_ | refine zaj ?_ | refine zag ?_ | refine zai ?_ | refine zas ?_ | fail); simp [c0, c2, c3, c4])
  | ((first | refine zap ?_ | refine zar ?_ | fail); simp only [zao])
  | (refine CallP.fE (hit) (by first | rfl | fail) (by first | simp [c0, c2, c3, c4] <;> rfl | fail) ?_; (try simp [c0, c2, c3, c4]))
  | fail)
     (refine EndOK.val (.inr rfl) ?_; simp [zay, zae, zaq, Tryz.results113])
theorem zkP (s : W8) : Fun Tryz.prog 61 [.u (.str s)] (· = if 2000 < s.length then .tup [.u (.str []), .u (.int .i64 6)] else .tup [.u (.str s), .u (.int .i64 0)]) := by
 by_cases h1 : 2000 < s.length
 ·have h2 : (2000 : Int) < s.length := by omega
  rw [if_pos h1]
  (refine Fun.of_body Tryz.func61 rfl (by simp) fun Γ hn => ?_); simp only [entry, ziC, ziN, maC, maN, oA, Tryz.ntmps61]
  repeat' (first
  | ((first | refine zaf ?_ | refine zaj ?_ | refine zag ?_ | refine zai ?_ | fail); simp [h2])
  | (refine zap ?_; simp only [zao])
  | fail)
  (refine EndOK.val (.inr rfl) ?_; simp [zay, zae, zaq, Tryz.results61])
 ·have h2 : ¬ (2000 : Int) < s.length := by omega
  rw [if_neg h1]
  (refine Fun.of_body Tryz.func61 rfl (by simp) fun Γ hn => ?_); simp only [entry, ziC, ziN, maC, maN, oA, Tryz.ntmps61]
  repeat' (first
  | ((first | refine zaf ?_ | refine zaj ?_ | refine zag ?_ | refine zai ?_ | fail); simp [h2])
  | ((first | refine zap ?_ | refine zar ?_ | fail); simp only [zao])
  | fail)
  (refine EndOK.val (.inr rfl) ?_; simp [zay, zae, zaq, Tryz.results61])
abbrev zk5 (e : Exp) : Prop := ∀ least : Int, Fun Tryz.prog 59 [.u (.agg e.row), .u (.int .i64 least)] (· = .u (.str (txt e least)))
theorem zdK (op n u : Int) (s : W8) (args : List Exp) (i : Nat) (a : Exp) (least : Int) (ha : args[i]? = some a) (h : zk5 a) :
  Fun Tryz.prog 112 [.u (.int .i64 i), .u (.int .i64 least), .u (.row [.int .i64 op, .int .i64 n, .int .i64 u, .str s, .sl (args.map Exp.row)] 0)] (· = .u (.str (txt a least))) := by
 have hs := h least;rw [Exp.row_eq] at hs;generalize txt a least = T at *;have hi := (lGE.1 ha).1
 (refine Fun.of_body Tryz.func112 rfl (by simp) fun Γ hn => ?_); simp only [entry, ziC, ziN, maC, maN, oA, Tryz.ntmps112]
 have hlt : (i : Int) < args.length := by omega
 repeat' (first
  | ((first | refine zaf ?_ | refine zaj ?_ | refine zag ?_ | fail); simp [ha, hlt, Exp.row_eq])
  | (refine zap ?_; simp only [zao])
  | (refine CallP.fE (hs) (by first | rfl | fail) (by first | simp [ha, hlt, Exp.row_eq] <;> rfl | fail) ?_; (try simp [ha, hlt, Exp.row_eq]))
  | fail)
 (refine EndOK.val (.inr rfl) ?_; simp [zay, zae, zaq, Tryz.results112])
theorem znQ (o : Opr) (op n u : Int) (s : W8) (g : U) : Fun Tryz.prog 114 (zpB o :: [U.row [.int .i64 op, .int .i64 n, .int .i64 u, .str s, g] 0].map .u) (· = .u (.bool (decide (o.op = op)))) := by
 simp only [List.map_cons, List.map_nil, zpB]
 (refine Fun.of_body Tryz.func114 rfl (by simp) fun Γ hn => ?_); simp only [entry, ziC, ziN, maC, maN, oA, Tryz.ntmps114]
 repeat' (first
  | ((first | refine zaf ?_ | refine zaj ?_ | refine zag ?_ | fail); simp)
  | (refine zap ?_; simp only [zao])
  | fail)
 (refine EndOK.val (.inr rfl) ?_; simp [zay, zae, zaq, Tryz.results114])
theorem znR (op n u : Int) (s : W8) (g : U) : Fun Tryz.prog 96 [.u (zlq oprs), .fnc (.func 114) [.u (.row [.int .i64 op, .int .i64 n, .int .i64 u, .str s, g] 0)]]
  (· = .u (.int .i64 (zg5 (fun o => decide (o.op = op)) oprs 0))) :=
 zhx oprs 114 [U.row [.int .i64 op, .int .i64 n, .int .i64 u, .str s, g] 0] (fun o => decide (o.op = op)) (fun o _ => znQ o op n u s g) rfl (fun o => rfl)
theorem zmf {d : Nat} {e : Exp} (he : zax d e = true) (hd : d <= 12) (h0 : Fun Tryz.prog 59 [.u (.agg e.row), .u (.int .i64 0)] (· = .u (.str (txt e 0)))) {least : Int} (hl : zbA e.op < least) (h00 : ¬ zbA e.op < 0) :
  Fun Tryz.prog 59 [.u (.agg e.row), .u (.int .i64 least)] (· = .u (.str (txt e least))) := by
 have hf := zkO e;have hlen := zbf he hd 0;rw [ze6 he hl];rw [zch h00] at h0 hlen;rw [Exp.row_eq] at *;generalize zbw (zbQ e) = T at *;generalize zbA e.op = F at *;have hT : T.length <= 9223372036854775000 := by omega
 (refine Fun.of_body Tryz.func59 rfl (by simp) fun Γ hn => ?_); simp only [entry, ziC, ziN, maC, maN, oA, Tryz.ntmps59]
 repeat' (first
  | ((first | refine zaf ?_ | refine zaj ?_ | fail); simp [hl])
  | (refine ⟨by omega, ?_⟩)
  | ((first | refine zag ?_ | refine zai ?_ | fail); simp [hl])
  | (refine zap ?_; simp only [zao])
  | (refine CallP.fE (hf) (by first | rfl | fail) (by first | simp [hl] <;> rfl | fail) ?_; (try simp [hl]))
  | (refine CallP.fE (h0) (by first | rfl | fail) (by first | simp [hl] <;> rfl | fail) ?_; (try simp [hl]))
  | fail)
 (refine EndOK.val (.inr rfl) ?_; simp [zay, zae, zaq, Tryz.results59])
theorem ziI : ∀ (d : Nat), d <= 12 -> ∀ e : Exp, zax d e = true -> ∀ least : Int, ¬ zbA e.op < least -> (∀ x ∈ e.args, zax (d - 1) x = true -> zk5 x) ->
  Fun Tryz.prog 59 [.u (.agg e.row), .u (.int .i64 least)] (· = .u (.str (zbw (zbQ e))))
 | 0, _, e, h, _, _, _ => by rw [zax] at h; cases h
 | d + 1, hd, .mk op n u s args, h, least, hl, ih => by
  have hf := zkO (.mk op n u s args);simp only [Exp.op] at hl hf;rw [Exp.row] at hf ⊢;rcases zd1 h with ⟨rfl, rfl, rfl, hn⟩ | ⟨rfl, rfl, rfl, rfl, hn⟩ | ⟨rfl, rfl, rfl, ha, ⟨rfl, hl3⟩ | ⟨rfl, hl3⟩ | ⟨g0, g1, g12, g13, g2, g3, hl3⟩⟩
  ·have h1 := zlu n u hn;rw [zbQ, zem, if_pos rfl];rw [Exp.row] at h1;simp only [List.map_nil] at *;generalize zbw (zeT n u) = T at *
   (refine Fun.of_body Tryz.func59 rfl (by simp) fun Γ hn => ?_); simp only [entry, ziC, ziN, maC, maN, oA, Tryz.ntmps59]
   repeat' (first
  | ((first | refine zaf ?_ | refine zaj ?_ | refine zag ?_ | refine zai ?_ | refine zas ?_ | fail); simp [hl])
  | ((first | refine zap ?_ | refine zar ?_ | fail); simp only [zao])
  | (refine CallP.fE (hf) (by first | rfl | fail) (by first | simp [hl] <;> rfl | fail) ?_; (try simp [hl]))
  | (refine CallP.fE (h1) (by first | rfl | fail) (by first | simp [hl] <;> rfl | fail) ?_; (try simp [hl]))
  | fail)
   (refine EndOK.val (.inr rfl) ?_; simp [zay, zae, zaq, Tryz.results59])
  ·rw [zbQ, zem, if_neg (by decide), if_pos rfl, zaI];simp only [List.map_nil] at *
   (refine Fun.of_body Tryz.func59 rfl (by simp) fun Γ hn => ?_); simp only [entry, ziC, ziN, maC, maN, oA, Tryz.ntmps59]
   repeat' (first
  | ((first | refine zaf ?_ | refine zaj ?_ | refine zag ?_ | refine zai ?_ | refine zas ?_ | fail); simp [hl])
  | ((first | refine zap ?_ | refine zar ?_ | fail); simp only [zao])
  | (refine CallP.fE (hf) (by first | rfl | fail) (by first | simp [hl] <;> rfl | fail) ?_; (try simp [hl]))
  | fail)
   (refine EndOK.val (.inr rfl) ?_; simp [zay, zae, zaq, Tryz.results59])
  ·obtain ⟨a, rfl⟩ := zn0 hl3;have h1 := ha a (by simp);have hb := zbf h1 (by omega) 3;have k1 := zdK 12 0 0 [] [a] 0 a 3 rfl (ih a (by simp [Exp.args]) h1);rw [zia h1];simp only [List.map_cons, List.map_nil] at *;generalize txt a 3 = T at *;have hT : T.length <= 9223372036854775000 := by omega
   (refine Fun.of_body Tryz.func59 rfl (by simp) fun Γ hn => ?_); simp only [entry, ziC, ziN, maC, maN, oA, Tryz.ntmps59]
   repeat' (first
  | ((first | refine zaf ?_ | refine zaj ?_ | fail); simp [hl])
  | (refine ⟨by omega, ?_⟩)
  | ((first | refine zag ?_ | refine zai ?_ | refine zas ?_ | fail); simp [hl])
  | ((first | refine zap ?_ | refine zar ?_ | fail); simp only [zao])
  | (refine CallP.fE (hf) (by first | rfl | fail) (by first | simp [hl] <;> rfl | fail) ?_; (try simp [hl]))
  | (refine CallP.fE (k1) (by first | rfl | fail) (by first | simp [hl] <;> rfl | fail) ?_; (try simp [hl]))
  | fail)
   (refine EndOK.val (.inr rfl) ?_; simp [zay, zae, zaq, Tryz.results59])
  ·obtain ⟨a, b, c, rfl⟩ := znY hl3;have h1 := ha a (by simp);have h2 := ha b (by simp);have h3 := ha c (by simp);have hb1 := zbf h1 (by omega) 0;have hb2 := zbf h2 (by omega) 0;have hb3 := zbf h3 (by omega) 0;have k1 := zdK 13 0 0 [] [a, b, c] 0 a 0 rfl (ih a (by simp [Exp.args]) h1);have k2 := zdK 13 0 0 [] [a, b, c] 1 b 0 rfl (ih b (by simp [Exp.args]) h2);have k3 := zdK 13 0 0 [] [a, b, c] 2 c 0 rfl (ih c (by simp [Exp.args]) h3);rw [zke h1 h2 h3];simp only [List.map_cons, List.map_nil] at *;generalize txt a 0 = T1 at *;generalize txt b 0 = T2 at *;generalize txt c 0 = T3 at *
   (refine Fun.of_body Tryz.func59 rfl (by simp) fun Γ hn => ?_); simp only [entry, ziC, ziN, maC, maN, oA, Tryz.ntmps59]
   repeat' (first
  | ((first | refine zaf ?_ | refine zaj ?_ | fail); simp [hl])
  | (refine ⟨by omega, ?_⟩)
  | ((first | refine zag ?_ | refine zai ?_ | refine zas ?_ | fail); simp [hl])
  | ((first | refine zap ?_ | refine zar ?_ | fail); simp only [zao])
  | (refine CallP.fE (hf) (by first | rfl | fail) (by first | simp [hl] <;> rfl | fail) ?_; (try simp [hl]))
  | (refine CallP.fE (k1) (by first | rfl | fail) (by first | simp [hl] <;> rfl | fail) ?_; (try simp [hl]))
  | (refine CallP.fE (k2) (by first | rfl | fail) (by first | simp [hl] <;> rfl | fail) ?_; (try simp [hl]))
  | (refine CallP.fE (k3) (by first | rfl | fail) (by first | simp [hl] <;> rfl | fail) ?_; (try simp [hl]))
  | fail)
   (refine EndOK.val (.inr rfl) ?_; simp [zay, zae, zaq, Tryz.results59])
  ·obtain ⟨a, b, rfl⟩ := znZ hl3;have h1 := ha a (by simp);have h2 := ha b (by simp);have ia := ih a (by simp [Exp.args]) h1;have ib := ih b (by simp [Exp.args]) h2;by_cases h6 : op = 6
   ·subst h6;have hb1 := zbf h1 (by omega) 0;have hb2 := zbf h2 (by omega) 0;have k1 := zdK 6 0 0 [] [a, b] 0 a 0 rfl ia;have k2 := zdK 6 0 0 [] [a, b] 1 b 0 rfl ib;rw [zib h1 h2];simp only [List.map_cons, List.map_nil] at *;generalize txt a 0 = T1 at *;generalize txt b 0 = T2 at *
    (refine Fun.of_body Tryz.func59 rfl (by simp) fun Γ hn => ?_); simp only [entry, ziC, ziN, maC, maN, oA, Tryz.ntmps59]
    repeat' (first
  | ((first | refine zaf ?_ | refine zaj ?_ | fail); simp [hl])
  | (refine ⟨by omega, ?_⟩)
  | ((first | refine zag ?_ | refine zai ?_ | refine zas ?_ | fail); simp [hl])
  | ((first | refine zap ?_ | refine zar ?_ | fail); simp only [zao])
  | (refine CallP.fE (hf) (by first | rfl | fail) (by first | simp [hl] <;> rfl | fail) ?_; (try simp [hl]))
  | (refine CallP.fE (k1) (by first | rfl | fail) (by first | simp [hl] <;> rfl | fail) ?_; (try simp [hl]))
  | (refine CallP.fE (k2) (by first | rfl | fail) (by first | simp [hl] <;> rfl | fail) ?_; (try simp [hl]))
  | fail)
    (refine EndOK.val (.inr rfl) ?_; simp [zay, zae, zaq, Tryz.results59])
   ·by_cases h7 : op = 7
    ·subst h7;have hb1 := zbf h1 (by omega) 0;have hb2 := zbf h2 (by omega) 0;have k1 := zdK 7 0 0 [] [a, b] 0 a 0 rfl ia;have k2 := zdK 7 0 0 [] [a, b] 1 b 0 rfl ib;rw [zic h1 h2];simp only [List.map_cons, List.map_nil] at *;generalize txt a 0 = T1 at *;generalize txt b 0 = T2 at *
     (refine Fun.of_body Tryz.func59 rfl (by simp) fun Γ hn => ?_); simp only [entry, ziC, ziN, maC, maN, oA, Tryz.ntmps59]
     repeat' (first
  | ((first | refine zaf ?_ | refine zaj ?_ | fail); simp [hl])
  | (refine ⟨by omega, ?_⟩)
  | ((first | refine zag ?_ | refine zai ?_ | refine zas ?_ | fail); simp [hl])
  | ((first | refine zap ?_ | refine zar ?_ | fail); simp only [zao])
  | (refine CallP.fE (hf) (by first | rfl | fail) (by first | simp [hl] <;> rfl | fail) ?_; (try simp [hl]))
  | (refine CallP.fE (k1) (by first | rfl | fail) (by first | simp [hl] <;> rfl | fail) ?_; (try simp [hl]))
  | (refine CallP.fE (k2) (by first | rfl | fail) (by first | simp [hl] <;> rfl | fail) ?_; (try simp [hl]))
  | fail)
     (refine EndOK.val (.inr rfl) ?_; simp [zay, zae, zaq, Tryz.results59])
    ·obtain ⟨o, ho, rfl⟩ := zkt (by omega) (by omega) h6 h7;have hop := zd3;have hfd : oprs.find? (fun x => decide (x.op = o.op)) = some o := by
      simp only [oprs, List.mem_cons, List.mem_nil_iff, or_false] at ho;rcases ho with rfl | rfl | rfl | rfl | rfl | rfl | rfl | rfl <;> rfl
     obtain ⟨j, hj1, hj2⟩ := (zfg oprs 0).2 o hfd;have hix := znR o.op 0 0 [] (.sl ([a, b].map Exp.row));rw [hj2] at hix;have hj0 : ¬ ((j : Int) < 0) := by omega
     have hjl : j < 8 := (lGE.1 hj1).1;rw [show (0 : Int) + j = (j : Int) by omega] at hix;have hfm : 0 <= o.form /\ o.form <= 6 := by
      simp only [oprs, List.mem_cons, List.mem_nil_iff, or_false] at ho;rcases ho with rfl | rfl | rfl | rfl | rfl | rfl | rfl | rfl <;> decide
     obtain ⟨hf0, hf6⟩ := hfm;have hot := zj3 ho;have hb1 := zbf h1 (by omega) (if o.form = 4 then 5 else o.form);have hb2 := zbf h2 (by omega) (o.form + 1);have k1 := zdK o.op 0 0 [] [a, b] 0 a (if o.form = 4 then 5 else o.form) rfl ia;have k2 := zdK o.op 0 0 [] [a, b] 1 b (o.form + 1) rfl ib;rw [zd6 ho h1 h2];simp only [List.map_cons, List.map_nil] at *;clear hfd hj2 ho;generalize hL : oprs = L at hop hix hj1;by_cases c4 : o.form = 4
     ·have e1 : o.form + 1 = 5 := by omega
      rw [if_pos c4] at k1 hb1 ⊢;rw [e1] at k2 hb2 ⊢;generalize txt a 5 = T1 at *;generalize txt b 5 = T2 at *
      (refine Fun.of_body Tryz.func59 rfl (by simp) fun Γ hn => ?_); simp only [entry, ziC, ziN, maC, maN, oA, Tryz.ntmps59]
      repeat' (first
  | ((first | refine zaf ?_ | refine zaR rfl ?_ | refine zaj ?_ | fail); simp [hl, g0, g1, g12, g13, h6, h7, hj0, hj1, c4])
  | (refine ⟨by omega, ?_⟩)
  | ((first | refine zag ?_ | refine zai ?_ | fail); simp [hl, g0, g1, g12, g13, h6, h7, hj0, hj1, c4])
  | (refine zaX (hC _ (by kernel_rfl)) (hk _ ?_); clear hC hk C k; simp only [zao])
  | (refine za2 rfl (by kernel_rfl) (by first | (simp [hn]; done) | (simp [hn]; omega) | fail) fun C k hC hk => ?_; simp [hl, g0, g1, g12, g13, h6, h7, hj0, hj1, c4])
  | ((first | refine zas ?_ | refine zat ?_ | fail); simp [hl, g0, g1, g12, g13, h6, h7, hj0, hj1, c4])
  | ((first | refine zap ?_ | refine zar ?_ | fail); simp only [zao])
  | (refine CallP.fE (hf) (by first | rfl | fail) (by first | simp [hl, g0, g1, g12, g13, h6, h7, hj0, hj1, c4] <;> rfl | fail) ?_; (try simp [hl, g0, g1, g12, g13, h6, h7, hj0, hj1, c4]))
  | (refine CallP.fE (hop) (by first | rfl | fail) (by first | simp [hl, g0, g1, g12, g13, h6, h7, hj0, hj1, c4] <;> rfl | fail) ?_; (try simp [hl, g0, g1, g12, g13, h6, h7, hj0, hj1, c4]))
  | (refine CallP.fE (hix) (by first | rfl | fail) (by first | simp [hl, g0, g1, g12, g13, h6, h7, hj0, hj1, c4] <;> rfl | fail) ?_; (try simp [hl, g0, g1, g12, g13, h6, h7, hj0, hj1, c4]))
  | (refine CallV.fun_ (k1) (by first | rfl | fail) (by first | simp [hl, g0, g1, g12, g13, h6, h7, hj0, hj1, c4] <;> rfl | fail) ?_ <;> (try simp [hl, g0, g1, g12, g13, h6, h7, hj0, hj1, c4]))
  | (refine CallV.fun_ (k2) (by first | rfl | fail) (by first | simp [hl, g0, g1, g12, g13, h6, h7, hj0, hj1, c4] <;> rfl | fail) ?_ <;> (try simp [hl, g0, g1, g12, g13, h6, h7, hj0, hj1, c4]))
  | fail)
      (refine EndOK.val (.inr rfl) ?_; simp [zay, zae, zaq, Tryz.results59])
     ·rw [if_neg c4] at k1 hb1 ⊢;generalize txt a o.form = T1 at *;generalize txt b (o.form + 1) = T2 at *
      (refine Fun.of_body Tryz.func59 rfl (by simp) fun Γ hn => ?_); simp only [entry, ziC, ziN, maC, maN, oA, Tryz.ntmps59]
      repeat' (first
  | ((first | refine zaf ?_ | refine zaR rfl ?_ | refine zaj ?_ | fail); simp [hl, g0, g1, g12, g13, h6, h7, hj0, hj1, c4])
  | (refine ⟨by omega, ?_⟩)
  | ((first | refine zag ?_ | refine zai ?_ | fail); simp [hl, g0, g1, g12, g13, h6, h7, hj0, hj1, c4])
  | (refine zaX (hC _ (by kernel_rfl)) (hk _ ?_); clear hC hk C k; simp only [zao])
  | (refine za2 rfl (by kernel_rfl) (by first | (simp [hn]; done) | (simp [hn]; omega) | fail) fun C k hC hk => ?_; simp [hl, g0, g1, g12, g13, h6, h7, hj0, hj1, c4])
  | (refine zas ?_; simp [hl, g0, g1, g12, g13, h6, h7, hj0, hj1, c4])
  | ((first | refine zap ?_ | refine zar ?_ | fail); simp only [zao])
  | (refine CallP.fE (hf) (by first | rfl | fail) (by first | simp [hl, g0, g1, g12, g13, h6, h7, hj0, hj1, c4] <;> rfl | fail) ?_; (try simp [hl, g0, g1, g12, g13, h6, h7, hj0, hj1, c4]))
  | (refine CallP.fE (hop) (by first | rfl | fail) (by first | simp [hl, g0, g1, g12, g13, h6, h7, hj0, hj1, c4] <;> rfl | fail) ?_; (try simp [hl, g0, g1, g12, g13, h6, h7, hj0, hj1, c4]))
  | (refine CallP.fE (hix) (by first | rfl | fail) (by first | simp [hl, g0, g1, g12, g13, h6, h7, hj0, hj1, c4] <;> rfl | fail) ?_; (try simp [hl, g0, g1, g12, g13, h6, h7, hj0, hj1, c4]))
  | (refine CallV.fun_ (k1) (by first | rfl | fail) (by first | simp [hl, g0, g1, g12, g13, h6, h7, hj0, hj1, c4] <;> rfl | fail) ?_ <;> (try simp [hl, g0, g1, g12, g13, h6, h7, hj0, hj1, c4]))
  | (refine CallV.fun_ (k2) (by first | rfl | fail) (by first | simp [hl, g0, g1, g12, g13, h6, h7, hj0, hj1, c4] <;> rfl | fail) ?_ <;> (try simp [hl, g0, g1, g12, g13, h6, h7, hj0, hj1, c4]))
  | fail)
      (refine EndOK.val (.inr rfl) ?_; simp [zay, zae, zaq, Tryz.results59])
theorem zf9 : ∀ (d : Nat), d <= 12 -> ∀ e : Exp, zax d e = true -> zk5 e
 | 0, _, e, h => by rw [zax] at h; cases h
 | d + 1, hd, e, h => fun least => by
  have ih : ∀ x ∈ e.args, zax (d + 1 - 1) x = true -> zk5 x := fun x _ hx => zf9 d (by omega) x hx;have h00 : ¬ zbA e.op < 0 := by
   unfold zbA;split
   ·omega
   ·split
    ·omega
    ·split
     ·rename_i o ho;have := List.mem_of_find?_eq_some ho;simp only [oprs, List.mem_cons, List.mem_nil_iff, or_false] at this;rcases this with rfl | rfl | rfl | rfl | rfl | rfl | rfl | rfl <;> decide
     ·omega
  have h0 := ziI (d + 1) hd e h 0 h00 ih;by_cases hl : zbA e.op < least
  ·exact zmf h hd (by rw [zch h00]; exact h0) hl h00
  ·have := ziI (d + 1) hd e h least hl ih
   rwa [<- zch hl] at this
def zfb (e : Exp) : W8 × Int := if zax 12 e = true then (if 2000 < (txt e 0).length then ([], 6) else (txt e 0, 0)) else ([], 1)
theorem zfS (e : Exp) : Fun Tryz.prog 21 [.u (.agg e.row)] (· = .tup [.u (.str (zfb e).1), .u (.int .i64 (zfb e).2)]) := by
 have h1 : Fun Tryz.prog 25 [.u (.agg e.row)] (· = .u (.bool (zax 12 e))) := by rw [Exp.row_eq]; exact zc8 e
 unfold zfb;cases hr : zax 12 e with
 | false =>
  rw [hr] at h1;rw [if_neg (by simp)];rw [Exp.row_eq] at *
  (refine Fun.of_body Tryz.func21 rfl (by simp) fun Γ hn => ?_); simp only [entry, ziC, ziN, maC, maN, oA, Tryz.ntmps21]
  repeat' (first
  | ((first | refine zaf ?_ | refine zaj ?_ | refine zag ?_ | refine zai ?_ | fail); simp)
  | (refine zap ?_; simp only [zao])
  | (refine CallP.fE (h1) (by first | rfl | fail) (by first | (simp; done) | (simp; rfl) | fail) ?_; (try simp))
  | fail)
  (refine EndOK.val (.inr rfl) ?_; simp [zay, zae, zaq, Tryz.results21])
 | true =>
  have h2 := zf9 12 (Nat.le_refl _) e hr 0;have h3 := zkP (txt e 0);rw [hr] at h1;rw [if_pos rfl];rw [Exp.row_eq] at *;generalize txt e 0 = T at *;by_cases hl : 2000 < T.length
  ·rw [if_pos hl] at h3 ⊢
   (refine Fun.of_body Tryz.func21 rfl (by simp) fun Γ hn => ?_); simp only [entry, ziC, ziN, maC, maN, oA, Tryz.ntmps21]
   repeat' (first
  | ((first | refine zaf ?_ | refine zaj ?_ | refine zag ?_ | refine zai ?_ | fail); simp)
  | ((first | refine zap ?_ | refine zar ?_ | fail); simp only [zao])
  | (refine CallP.fE (h1) (by first | rfl | fail) (by first | (simp; done) | (simp; rfl) | fail) ?_; (try simp))
  | (refine CallP.fE (h2) (by first | rfl | fail) (by first | (simp; done) | (simp; rfl) | fail) ?_; (try simp))
  | (refine CallP.fE (h3) (by first | rfl | fail) (by first | (simp; done) | (simp; rfl) | fail) ?_; (try simp))
  | fail)
   (refine EndOK.val (.inr rfl) ?_; simp [zay, zae, zaq, Tryz.results21])
  ·rw [if_neg hl] at h3 ⊢
   (refine Fun.of_body Tryz.func21 rfl (by simp) fun Γ hn => ?_); simp only [entry, ziC, ziN, maC, maN, oA, Tryz.ntmps21]
   repeat' (first
  | ((first | refine zaf ?_ | refine zaj ?_ | refine zag ?_ | refine zai ?_ | fail); simp)
  | ((first | refine zap ?_ | refine zar ?_ | fail); simp only [zao])
  | (refine CallP.fE (h1) (by first | rfl | fail) (by first | (simp; done) | (simp; rfl) | fail) ?_; (try simp))
  | (refine CallP.fE (h2) (by first | rfl | fail) (by first | (simp; done) | (simp; rfl) | fail) ?_; (try simp))
  | (refine CallP.fE (h3) (by first | rfl | fail) (by first | (simp; done) | (simp; rfl) | fail) ?_; (try simp))
  | fail)
   (refine EndOK.val (.inr rfl) ?_; simp [zay, zae, zaq, Tryz.results21])
theorem zlT : ∀ (m : Nat), m <= 1099511627776 -> Fun Tryz.prog 149 [.u (.int .i64 (-(m : Int)))] (· = .u (.str (Lib.decDigits m))) := by
 intro m
 induction m using Nat.strongRecOn with
 | ind m ih =>
  intro hm;have e1 : Int.tmod (-(m : Int)) 10 = -((m % 10 : Nat) : Int) := by rw [Int.neg_tmod]; rfl
  have e2 : Int.tdiv (-(m : Int)) 10 = -((m / 10 : Nat) : Int) := by rw [Int.neg_tdiv]; rfl
  have hr : m % 10 < 10 := Nat.mod_lt _ (by decide);have e3 : (UInt8.ofNat (48 + m % 10)).toNat = 48 + m % 10 := by simp; omega
  have u74 : Tryz.prog.underlying 74 = some (.slice 5) := by kernel_rfl
  have u5 : Tryz.prog.underlying 5 = some (.int .u8) := by kernel_rfl
  have u9 : Tryz.prog.underlying 9 = some .string := by kernel_rfl
  have hlen := zki m hm;rw [Lib.decDigits];have hdd : m < 10 -> UInt8.ofNat (48 + m) = UInt8.ofNat (48 + m % 10) := fun h => by rw [Nat.mod_eq_of_lt h]
  generalize UInt8.ofNat (48 + m % 10) = c at *;by_cases h10 : m < 10
  ·have hgt : (-10 : Int) < -(m : Int) := by omega
   rw [dif_pos h10, hdd h10];clear hdd
   (refine Fun.of_bodyW Tryz.func149 rfl (by simp) fun Γ hn => ?_); simp only [entry, ziC, ziN, maC, maN, oA, Tryz.ntmps149]
   repeat' (first
  | (refine znw (e := 5) [c] u74 u5 u9 (by first | rfl | fail) (by first | (simp [zaa, getK, zcF, e3]; done) | (simp [zaa, getK, zcF, e3]; omega) | fail) (by simp) (by simp [zaF]) ?_; simp)
  | ((first | refine zaf ?_ | refine zaj ?_ | fail); simp [e1, e2, hgt])
  | (refine ⟨by omega, ?_⟩)
  | ((first | refine zag ?_ | refine zai ?_ | fail); simp [e1, e2, hgt])
  | (refine zap ?_; simp only [zao])
  | fail)
   refine EndW.here ?_
   (refine EndOK.val (.inr rfl) ?_; simp [zay, zae, zaq, Tryz.results149])
  ·have hgt : ¬ (-10 : Int) < -(m : Int) := by omega
   have hl2 := zki (m / 10) (by omega);have hi := ih (m / 10) (by omega) (by omega);rw [dif_neg h10];generalize Lib.decDigits (m / 10) = T at *;clear hdd ih
   (refine Fun.of_bodyW Tryz.func149 rfl (by simp) fun Γ hn => ?_); simp only [entry, ziC, ziN, maC, maN, oA, Tryz.ntmps149]
   repeat' (first
  | (refine znw (e := 5) [c] u74 u5 u9 (by first | rfl | fail) (by first | (simp [zaa, getK, zcF, e3]; done) | (simp [zaa, getK, zcF, e3]; omega) | fail) (by simp) (by simp [zaF]) ?_; simp)
  | ((first | refine zaf ?_ | refine zaj ?_ | fail); simp [e1, e2, hgt])
  | (refine ⟨by omega, ?_⟩)
  | ((first | refine zag ?_ | refine zai ?_ | fail); simp [e1, e2, hgt])
  | ((first | refine zap ?_ | refine zar ?_ | fail); simp only [zao])
  | (refine CallP.fE (hi) (by first | rfl | fail) (by first | simp [e1, e2, hgt] <;> rfl | fail) ?_; (try simp [e1, e2, hgt]))
  | fail)
   refine EndW.here ?_
   (refine EndOK.val (.inr rfl) ?_; simp [zay, zae, zaq, Tryz.results149])
theorem zo6 (n : Int) (h0 : 0 <= n) (h1 : n <= 1099511627776) : Fun Tryz.prog 139 [.u (.int .i64 n)] (· = .u (.str (Lib.itoa n ++ [59]))) := by
 have hd := zlT n.toNat (by omega);have hl := zki n.toNat (by omega);rw [show (-((n.toNat : Nat) : Int)) = -n by omega] at hd;rw [Lib.itoa, if_neg (by omega)];have hn : ¬ n < 0 := by omega
 generalize Lib.decDigits n.toNat = T at *
 (refine Fun.of_body Tryz.func139 rfl (by simp) fun Γ hn => ?_); simp only [entry, ziC, ziN, maC, maN, oA, Tryz.ntmps139]
 repeat' (first
  | ((first | refine zaf ?_ | refine zaj ?_ | fail); simp [hn])
  | (refine ⟨by omega, ?_⟩)
  | ((first | refine zag ?_ | refine zai ?_ | fail); simp [hn])
  | ((first | refine zap ?_ | refine zar ?_ | fail); simp only [zao])
  | (intro hc <;> (try (exfalso; omega)))
  | (refine CallP.fE (hd) (by first | rfl | fail) (by first | simp [hn] <;> rfl | fail) ?_; (try simp [hn]))
  | fail)
 (refine EndOK.val (.inr rfl) ?_; simp [zay, zae, zaq, Tryz.results139])
theorem zgS (n : Int) (h0 : 0 <= n) (h1 : n <= 1099511627776) : Fun Tryz.prog 115 [.u (.int .i64 n)] (· = .u (.str (Lib.itoa n))) := by
 have hd := zo6 n h0 h1;have hl := zd7 h0 h1;generalize Lib.itoa n = T at *;have e1 : (T ++ [59]).take T.length = T := by simp
 (refine Fun.of_body Tryz.func115 rfl (by simp) fun Γ hn => ?_); simp only [entry, ziC, ziN, maC, maN, oA, Tryz.ntmps115]
 repeat' (first
  | ((first | refine zaf ?_ | refine zaj ?_ | fail); simp [e1])
  | (refine ⟨by omega, ?_⟩)
  | (refine zag ?_; simp [e1])
  | (refine zap ?_; simp only [zao])
  | (refine CallP.fE (hd) (by first | rfl | fail) (by first | simp [e1] <;> rfl | fail) ?_; (try simp [e1]))
  | fail)
 (refine EndOK.val (.inr rfl) ?_; simp [zay, zae, zaq, Tryz.results115])
theorem zn4 (n u : Int) (h : znB (.mk 0 n u [] []) = true) : Fun Tryz.prog 117 [.u (.agg (Exp.mk 0 n u [] []).row)] (· = .u (.str (zbw (zeT n u)))) := by
 obtain ⟨hu0, hu1, hn0, hn2, hn1⟩ := zj4 h;have hit := zgS n hn0 hn2;have hil := zd7 hn0 hn2;rw [Exp.row, List.map_nil, zeT];generalize Lib.itoa n = T at *;have hil2 : T.length <= 1000 := by omega
 by_cases c0 : u = 0
 ·rw [if_pos c0];by_cases c1 : n = 1
  ·rw [if_pos c1, zaI]
   (refine Fun.of_body Tryz.func117 rfl (by simp) fun Γ hn => ?_); simp only [entry, ziC, ziN, maC, maN, oA, Tryz.ntmps117]
   repeat' (first
  | ((first | refine zaf ?_ | refine zaj ?_ | refine zag ?_ | refine zai ?_ | refine zas ?_ | fail); simp [c0, c1])
  | ((first | refine zap ?_ | refine zar ?_ | fail); simp only [zao])
  | fail)
   (refine EndOK.val (.inr rfl) ?_; simp [zay, zae, zaq, Tryz.results117])
  ·rw [if_neg c1, zaI]
   (refine Fun.of_body Tryz.func117 rfl (by simp) fun Γ hn => ?_); simp only [entry, ziC, ziN, maC, maN, oA, Tryz.ntmps117]
   repeat' (first
  | ((first | refine zaf ?_ | refine zaj ?_ | refine zag ?_ | refine zai ?_ | refine zas ?_ | fail); simp [c0, c1])
  | ((first | refine zap ?_ | refine zar ?_ | fail); simp only [zao])
  | fail)
   (refine EndOK.val (.inr rfl) ?_; simp [zay, zae, zaq, Tryz.results117])
 ·rw [if_neg c0];by_cases c3 : u = 3
  ·rw [if_pos c3, zaz, zaI]
   (refine Fun.of_body Tryz.func117 rfl (by simp) fun Γ hn => ?_); simp only [entry, ziC, ziN, maC, maN, oA, Tryz.ntmps117]
   repeat' (first
  | ((first | refine zaf ?_ | refine zaj ?_ | fail); simp [c0, c3])
  | (refine ⟨by omega, ?_⟩)
  | ((first | refine zag ?_ | refine zai ?_ | refine zas ?_ | fail); simp [c0, c3])
  | ((first | refine zap ?_ | refine zar ?_ | fail); simp only [zao])
  | (refine CallP.fE (hit) (by first | rfl | fail) (by first | simp [c0, c3] <;> rfl | fail) ?_; (try simp [c0, c3]))
  | fail)
   (refine EndOK.val (.inr rfl) ?_; simp [zay, zae, zaq, Tryz.results117])
  ·rw [if_neg c3];by_cases c2 : u = 2
   ·rw [if_pos c2, zaz, zaI]
    (refine Fun.of_body Tryz.func117 rfl (by simp) fun Γ hn => ?_); simp only [entry, ziC, ziN, maC, maN, oA, Tryz.ntmps117]
    repeat' (first
  | ((first | refine zaf ?_ | refine zaj ?_ | fail); simp [c0, c2, c3])
  | (refine ⟨by omega, ?_⟩)
  | ((first | refine zag ?_ | refine zai ?_ | refine zas ?_ | fail); simp [c0, c2, c3])
  | ((first | refine zap ?_ | refine zar ?_ | fail); simp only [zao])
  | (refine CallP.fE (hit) (by first | rfl | fail) (by first | simp [c0, c2, c3] <;> rfl | fail) ?_; (try simp [c0, c2, c3]))
  | fail)
    (refine EndOK.val (.inr rfl) ?_; simp [zay, zae, zaq, Tryz.results117])
   ·rw [if_neg c2];by_cases c4 : u = 4
    ·rw [if_pos c4, zaz, zaz, zaI]
     (refine Fun.of_body Tryz.func117 rfl (by simp) fun Γ hn => ?_); simp only [entry, ziC, ziN, maC, maN, oA, Tryz.ntmps117]
     repeat' (first
  | ((first | refine zaf ?_ | refine zaj ?_ | fail); simp [c0, c2, c3, c4])
  | (refine ⟨by omega, ?_⟩)
  | ((first | refine zag ?_ | refine zai ?_ | refine zas ?_ | fail); simp [c0, c2, c3, c4])
  | ((first | refine zap ?_ | refine zar ?_ | fail); simp only [zao])
  | (refine CallP.fE (hit) (by first | rfl | fail) (by first | simp [c0, c2, c3, c4] <;> rfl | fail) ?_; (try simp [c0, c2, c3, c4]))
  | fail)
     (refine EndOK.val (.inr rfl) ?_; simp [zay, zae, zaq, Tryz.results117])
    ·rw [if_neg c4, zaI]
     (refine Fun.of_body Tryz.func117 rfl (by simp) fun Γ hn => ?_); simp only [entry, ziC, ziN, maC, maN, oA, Tryz.ntmps117]
     repeat' (first
  | ((first | refine zaf ?_ | refine zaj ?_ | refine zag ?_ | refine zai ?_ | refine zas ?_ | fail); simp [c0, c2, c3, c4])
  | ((first | refine zap ?_ | refine zar ?_ | fail); simp only [zao])
  | (refine CallP.fE (hit) (by first | rfl | fail) (by first | simp [c0, c2, c3, c4] <;> rfl | fail) ?_; (try simp [c0, c2, c3, c4]))
  | fail)
     (refine EndOK.val (.inr rfl) ?_; simp [zay, zae, zaq, Tryz.results117])
theorem zmU (s : W8) : Fun Tryz.prog 117 [.u (.agg (Exp.mk 1 0 0 s []).row)] (· = .u (.str s)) := by
 rw [Exp.row, List.map_nil]
 (refine Fun.of_body Tryz.func117 rfl (by simp) fun Γ hn => ?_); simp only [entry, ziC, ziN, maC, maN, oA, Tryz.ntmps117]
 repeat' (first
  | ((first | refine zaf ?_ | refine zaj ?_ | refine zag ?_ | refine zai ?_ | fail); simp)
  | (refine zap ?_; simp only [zao])
  | fail)
 (refine EndOK.val (.inr rfl) ?_; simp [zay, zae, zaq, Tryz.results117])
theorem ziS (e : Exp) : Fun Tryz.prog 116 [.u (.agg e.row)] (· = .tup [.u (.int .i64 (zbA e.op)), .u (.str (zdt e.op))]) := by
 rw [Exp.row_eq];by_cases c13 : e.op = 13
 ·rw [c13, show zbA 13 = 0 by rfl, show zdt 13 = [105, 102] by rfl]
  (refine Fun.of_body Tryz.func116 rfl (by simp) fun Γ hn => ?_); simp only [entry, ziC, ziN, maC, maN, oA, Tryz.ntmps116]
  repeat' (first
  | ((first | refine zaf ?_ | refine zaj ?_ | refine zag ?_ | refine zai ?_ | refine zas ?_ | fail); simp [c13])
  | (refine zap ?_; simp only [zao])
  | fail)
  (refine EndOK.val (.inr rfl) ?_; simp [zay, zae, zaq, Tryz.results116])
 by_cases c11 : e.op = 11
 ·rw [c11, show zbA 11 = 1 by rfl, show zdt 11 = [111, 114] by rfl]
  (refine Fun.of_body Tryz.func116 rfl (by simp) fun Γ hn => ?_); simp only [entry, ziC, ziN, maC, maN, oA, Tryz.ntmps116]
  repeat' (first
  | ((first | refine zaf ?_ | refine zaj ?_ | refine zag ?_ | refine zai ?_ | refine zas ?_ | fail); simp [c13, c11])
  | (refine zap ?_; simp only [zao])
  | fail)
  (refine EndOK.val (.inr rfl) ?_; simp [zay, zae, zaq, Tryz.results116])
 by_cases c10 : e.op = 10
 ·rw [c10, show zbA 10 = 2 by rfl, show zdt 10 = [97, 110, 100] by rfl]
  (refine Fun.of_body Tryz.func116 rfl (by simp) fun Γ hn => ?_); simp only [entry, ziC, ziN, maC, maN, oA, Tryz.ntmps116]
  repeat' (first
  | ((first | refine zaf ?_ | refine zaj ?_ | refine zag ?_ | refine zai ?_ | refine zas ?_ | fail); simp [c13, c11, c10])
  | (refine zap ?_; simp only [zao])
  | fail)
  (refine EndOK.val (.inr rfl) ?_; simp [zay, zae, zaq, Tryz.results116])
 by_cases c12 : e.op = 12
 ·rw [c12, show zbA 12 = 3 by rfl, show zdt 12 = [110, 111, 116] by rfl]
  (refine Fun.of_body Tryz.func116 rfl (by simp) fun Γ hn => ?_); simp only [entry, ziC, ziN, maC, maN, oA, Tryz.ntmps116]
  repeat' (first
  | ((first | refine zaf ?_ | refine zaj ?_ | refine zag ?_ | refine zai ?_ | refine zas ?_ | fail); simp [c13, c11, c10, c12])
  | (refine zap ?_; simp only [zao])
  | fail)
  (refine EndOK.val (.inr rfl) ?_; simp [zay, zae, zaq, Tryz.results116])
 by_cases c9 : e.op = 9
 ·rw [c9, show zbA 9 = 4 by rfl, show zdt 9 = [61, 61] by rfl]
  (refine Fun.of_body Tryz.func116 rfl (by simp) fun Γ hn => ?_); simp only [entry, ziC, ziN, maC, maN, oA, Tryz.ntmps116]
  repeat' (first
  | ((first | refine zaf ?_ | refine zaj ?_ | refine zag ?_ | refine zai ?_ | refine zas ?_ | fail); simp [c13, c11, c10, c12, c9])
  | (refine zap ?_; simp only [zao])
  | fail)
  (refine EndOK.val (.inr rfl) ?_; simp [zay, zae, zaq, Tryz.results116])
 by_cases c8 : e.op = 8
 ·rw [c8, show zbA 8 = 4 by rfl, show zdt 8 = [60] by rfl]
  (refine Fun.of_body Tryz.func116 rfl (by simp) fun Γ hn => ?_); simp only [entry, ziC, ziN, maC, maN, oA, Tryz.ntmps116]
  repeat' (first
  | ((first | refine zaf ?_ | refine zaj ?_ | refine zag ?_ | refine zai ?_ | refine zas ?_ | fail); simp [c13, c11, c10, c12, c9, c8])
  | (refine zap ?_; simp only [zao])
  | fail)
  (refine EndOK.val (.inr rfl) ?_; simp [zay, zae, zaq, Tryz.results116])
 by_cases c2 : e.op = 2
 ·rw [c2, show zbA 2 = 5 by rfl, show zdt 2 = [43] by rfl]
  (refine Fun.of_body Tryz.func116 rfl (by simp) fun Γ hn => ?_); simp only [entry, ziC, ziN, maC, maN, oA, Tryz.ntmps116]
  repeat' (first
  | ((first | refine zaf ?_ | refine zaj ?_ | refine zag ?_ | refine zai ?_ | refine zas ?_ | fail); simp [c13, c11, c10, c12, c9, c8, c2])
  | (refine zap ?_; simp only [zao])
  | fail)
  (refine EndOK.val (.inr rfl) ?_; simp [zay, zae, zaq, Tryz.results116])
 by_cases c3 : e.op = 3
 ·rw [c3, show zbA 3 = 5 by rfl, show zdt 3 = [45] by rfl]
  (refine Fun.of_body Tryz.func116 rfl (by simp) fun Γ hn => ?_); simp only [entry, ziC, ziN, maC, maN, oA, Tryz.ntmps116]
  repeat' (first
  | ((first | refine zaf ?_ | refine zaj ?_ | refine zag ?_ | refine zai ?_ | refine zas ?_ | fail); simp [c13, c11, c10, c12, c9, c8, c2, c3])
  | (refine zap ?_; simp only [zao])
  | fail)
  (refine EndOK.val (.inr rfl) ?_; simp [zay, zae, zaq, Tryz.results116])
 by_cases c4 : e.op = 4
 ·rw [c4, show zbA 4 = 6 by rfl, show zdt 4 = [42] by rfl]
  (refine Fun.of_body Tryz.func116 rfl (by simp) fun Γ hn => ?_); simp only [entry, ziC, ziN, maC, maN, oA, Tryz.ntmps116]
  repeat' (first
  | ((first | refine zaf ?_ | refine zaj ?_ | refine zag ?_ | refine zai ?_ | refine zas ?_ | fail); simp [c13, c11, c10, c12, c9, c8, c2, c3, c4])
  | (refine zap ?_; simp only [zao])
  | fail)
  (refine EndOK.val (.inr rfl) ?_; simp [zay, zae, zaq, Tryz.results116])
 by_cases c5 : e.op = 5
 ·rw [c5, show zbA 5 = 6 by rfl, show zdt 5 = [47] by rfl]
  (refine Fun.of_body Tryz.func116 rfl (by simp) fun Γ hn => ?_); simp only [entry, ziC, ziN, maC, maN, oA, Tryz.ntmps116]
  repeat' (first
  | ((first | refine zaf ?_ | refine zaj ?_ | refine zag ?_ | refine zai ?_ | refine zas ?_ | fail); simp [c13, c11, c10, c12, c9, c8, c2, c3, c4, c5])
  | (refine zap ?_; simp only [zao])
  | fail)
  (refine EndOK.val (.inr rfl) ?_; simp [zay, zae, zaq, Tryz.results116])
 by_cases c6 : e.op = 6
 ·rw [c6, show zbA 6 = 7 by rfl, show zdt 6 = [109, 105, 110] by rfl]
  (refine Fun.of_body Tryz.func116 rfl (by simp) fun Γ hn => ?_); simp only [entry, ziC, ziN, maC, maN, oA, Tryz.ntmps116]
  repeat' (first
  | ((first | refine zaf ?_ | refine zaj ?_ | refine zag ?_ | refine zai ?_ | refine zas ?_ | fail); simp [c13, c11, c10, c12, c9, c8, c2, c3, c4, c5, c6])
  | (refine zap ?_; simp only [zao])
  | fail)
  (refine EndOK.val (.inr rfl) ?_; simp [zay, zae, zaq, Tryz.results116])
 by_cases c7 : e.op = 7
 ·rw [c7, show zbA 7 = 7 by rfl, show zdt 7 = [109, 97, 120] by rfl]
  (refine Fun.of_body Tryz.func116 rfl (by simp) fun Γ hn => ?_); simp only [entry, ziC, ziN, maC, maN, oA, Tryz.ntmps116]
  repeat' (first
  | ((first | refine zaf ?_ | refine zaj ?_ | refine zag ?_ | refine zai ?_ | refine zas ?_ | fail); simp [c13, c11, c10, c12, c9, c8, c2, c3, c4, c5, c6, c7])
  | (refine zap ?_; simp only [zao])
  | fail)
  (refine EndOK.val (.inr rfl) ?_; simp [zay, zae, zaq, Tryz.results116])
 have e1 : zbA e.op = 7 := by
  rw [zbA, if_neg c13, if_neg c12];have : oprs.find? (fun o => decide (o.op = e.op)) = none := by
   rw [List.find?_eq_none];intro o ho;simp only [oprs, List.mem_cons, List.mem_nil_iff, or_false] at ho;rcases ho with rfl | rfl | rfl | rfl | rfl | rfl | rfl | rfl <;> simp <;> omega
  rw [this]
 have e2 : zdt e.op = [] := by simp [zdt, c13, c11, c10, c12, c9, c8, c2, c3, c4, c5, c6, c7]
 rw [e1, e2]
 (refine Fun.of_body Tryz.func116 rfl (by simp) fun Γ hn => ?_); simp only [entry, ziC, ziN, maC, maN, oA, Tryz.ntmps116]
 repeat' (first
  | ((first | refine zaf ?_ | refine zaj ?_ | refine zag ?_ | refine zai ?_ | refine zas ?_ | fail); simp [c13, c11, c10, c12, c9, c8, c2, c3, c4, c5, c6, c7])
  | ((first | refine zap ?_ | refine zar ?_ | fail); simp only [zao])
  | fail)
 (refine EndOK.val (.inr rfl) ?_; simp [zay, zae, zaq, Tryz.results116])
abbrev zpp (e : Exp) : Prop := ∀ least : Int, Fun Tryz.prog 64 [.u (.agg e.row), .u (.int .i64 least)] (· = .u (.str (txt e least)))
theorem zlg {d : Nat} {e : Exp} (he : zax d e = true) (hd : d <= 12) (h0 : Fun Tryz.prog 64 [.u (.agg e.row), .u (.int .i64 0)] (· = .u (.str (txt e 0)))) {least : Int} (hl : zbA e.op < least) (h00 : ¬ zbA e.op < 0) :
  Fun Tryz.prog 64 [.u (.agg e.row), .u (.int .i64 least)] (· = .u (.str (txt e least))) := by
 have hf := ziS e;have hlen := zbf he hd 0;rw [ze6 he hl];rw [zch h00] at h0 hlen;rw [Exp.row_eq] at *;generalize zbw (zbQ e) = T at *;generalize zbA e.op = F at *;generalize zdt e.op = W at *;have hT : T.length <= 9223372036854775000 := by omega
 (refine Fun.of_body Tryz.func64 rfl (by simp) fun Γ hn => ?_); simp only [entry, ziC, ziN, maC, maN, oA, Tryz.ntmps64]
 repeat' (first
  | ((first | refine zaf ?_ | refine zaj ?_ | fail); simp [hl])
  | (refine ⟨by omega, ?_⟩)
  | ((first | refine zag ?_ | refine zai ?_ | fail); simp [hl])
  | (refine zap ?_; simp only [zao])
  | (refine CallP.fE (hf) (by first | rfl | fail) (by first | simp [hl] <;> rfl | fail) ?_; (try simp [hl]))
  | (refine CallP.fE (h0) (by first | rfl | fail) (by first | simp [hl] <;> rfl | fail) ?_; (try simp [hl]))
  | fail)
 (refine EndOK.val (.inr rfl) ?_; simp [zay, zae, zaq, Tryz.results64])
theorem zhh : ∀ (d : Nat), d <= 12 -> ∀ e : Exp, zax d e = true -> ∀ least : Int, ¬ zbA e.op < least -> (∀ x ∈ e.args, zax (d - 1) x = true -> zpp x) ->
  Fun Tryz.prog 64 [.u (.agg e.row), .u (.int .i64 least)] (· = .u (.str (zbw (zbQ e))))
 | 0, _, e, h, _, _, _ => by rw [zax] at h; cases h
 | d + 1, hd, .mk op n u s args, h, least, hl, ih => by
  have hf := ziS (.mk op n u s args);simp only [Exp.op] at hl hf;rcases zd1 h with ⟨rfl, rfl, rfl, hn⟩ | ⟨rfl, rfl, rfl, rfl, hn⟩ | ⟨rfl, rfl, rfl, ha, ⟨rfl, hl3⟩ | ⟨rfl, hl3⟩ | ⟨g0, g1, g12, g13, g2, g3, hl3⟩⟩
  ·have h1 := zn4 n u hn;rw [zbQ, zem, if_pos rfl];rw [show zbA 0 = 7 by rfl] at hf hl;rw [show zdt 0 = [] by rfl] at hf;rw [Exp.row] at h1 hf ⊢;simp only [List.map_cons, List.map_nil] at *;generalize zbw (zeT n u) = T at *
   (refine Fun.of_body Tryz.func64 rfl (by simp) fun Γ hn => ?_); simp only [entry, ziC, ziN, maC, maN, oA, Tryz.ntmps64]
   repeat' (first
  | ((first | refine zaf ?_ | refine zaj ?_ | refine zag ?_ | refine zai ?_ | fail); simp [hl])
  | ((first | refine zap ?_ | refine zar ?_ | fail); simp only [zao])
  | (refine CallP.fE (hf) (by first | rfl | fail) (by first | simp [hl] <;> rfl | fail) ?_; (try simp [hl]))
  | (refine CallP.fE (h1) (by first | rfl | fail) (by first | simp [hl] <;> rfl | fail) ?_; (try simp [hl]))
  | fail)
   (refine EndOK.val (.inr rfl) ?_; simp [zay, zae, zaq, Tryz.results64])
  ·have h1 := zmU s;rw [zbQ, zem, if_neg (by decide), if_pos rfl, zaI];rw [show zbA 1 = 7 by rfl] at hf hl;rw [show zdt 1 = [] by rfl] at hf;rw [Exp.row] at h1 hf ⊢;simp only [List.map_cons, List.map_nil] at *
   (refine Fun.of_body Tryz.func64 rfl (by simp) fun Γ hn => ?_); simp only [entry, ziC, ziN, maC, maN, oA, Tryz.ntmps64]
   repeat' (first
  | ((first | refine zaf ?_ | refine zaj ?_ | refine zag ?_ | refine zai ?_ | fail); simp [hl])
  | ((first | refine zap ?_ | refine zar ?_ | fail); simp only [zao])
  | (refine CallP.fE (hf) (by first | rfl | fail) (by first | simp [hl] <;> rfl | fail) ?_; (try simp [hl]))
  | (refine CallP.fE (h1) (by first | rfl | fail) (by first | simp [hl] <;> rfl | fail) ?_; (try simp [hl]))
  | fail)
   (refine EndOK.val (.inr rfl) ?_; simp [zay, zae, zaq, Tryz.results64])
  ·obtain ⟨a, rfl⟩ := zn0 hl3;have h1 := ha a (by simp);have hb := zbf h1 (by omega) 3;have k1 := ih a (by simp [Exp.args]) h1 3;rw [zia h1];rw [show zbA 12 = 3 by rfl] at hf hl;rw [show zdt 12 = [110, 111, 116] by rfl] at hf;rw [Exp.row] at hf ⊢;rw [Exp.row_eq] at k1;simp only [List.map_cons, List.map_nil] at *;generalize txt a 3 = T at *;have hT : T.length <= 9223372036854775000 := by omega
   (refine Fun.of_body Tryz.func64 rfl (by simp) fun Γ hn => ?_); simp only [entry, ziC, ziN, maC, maN, oA, Tryz.ntmps64]
   repeat' (first
  | ((first | refine zaf ?_ | refine zaj ?_ | fail); simp [hl, Exp.row_eq])
  | (refine ⟨by omega, ?_⟩)
  | ((first | refine zag ?_ | refine zai ?_ | fail); simp [hl, Exp.row_eq])
  | ((first | refine zap ?_ | refine zar ?_ | fail); simp only [zao])
  | (refine CallP.fE (hf) (by first | rfl | fail) (by first | simp [hl, Exp.row_eq] <;> rfl | fail) ?_; (try simp [hl, Exp.row_eq]))
  | (refine CallP.fE (k1) (by first | rfl | fail) (by first | simp [hl, Exp.row_eq] <;> rfl | fail) ?_; (try simp [hl, Exp.row_eq]))
  | fail)
   (refine EndOK.val (.inr rfl) ?_; simp [zay, zae, zaq, Tryz.results64])
  ·obtain ⟨a, b, c, rfl⟩ := znY hl3;have h1 := ha a (by simp);have h2 := ha b (by simp);have h3 := ha c (by simp);have hb1 := zbf h1 (by omega) 0;have hb2 := zbf h2 (by omega) 0;have hb3 := zbf h3 (by omega) 0;have k1 := ih a (by simp [Exp.args]) h1 0;have k2 := ih b (by simp [Exp.args]) h2 0;have k3 := ih c (by simp [Exp.args]) h3 0;rw [zke h1 h2 h3];rw [show zbA 13 = 0 by rfl] at hf hl;rw [show zdt 13 = [105, 102] by rfl] at hf;rw [Exp.row] at hf ⊢;rw [Exp.row_eq] at k1;rw [Exp.row_eq] at k2;rw [Exp.row_eq] at k3;simp only [List.map_cons, List.map_nil] at *;generalize txt a 0 = T1 at *;generalize txt b 0 = T2 at *;generalize txt c 0 = T3 at *
   (refine Fun.of_body Tryz.func64 rfl (by simp) fun Γ hn => ?_); simp only [entry, ziC, ziN, maC, maN, oA, Tryz.ntmps64]
   repeat' (first
  | ((first | refine zaf ?_ | refine zaR rfl ?_ | refine zaj ?_ | fail); simp [hl, Exp.row_eq])
  | (refine ⟨by omega, ?_⟩)
  | ((first | refine zag ?_ | refine zai ?_ | fail); simp [hl, Exp.row_eq])
  | (refine zaX (hC _ (by kernel_rfl)) (hk _ ?_); clear hC hk C k; simp only [zao])
  | (refine za2 rfl (by kernel_rfl) (by first | (simp [hn]; done) | (simp [hn]; omega) | fail) fun C k hC hk => ?_; simp [hl, Exp.row_eq])
  | ((first | refine zap ?_ | refine zar ?_ | fail); simp only [zao])
  | (refine CallP.fE (hf) (by first | rfl | fail) (by first | simp [hl, Exp.row_eq] <;> rfl | fail) ?_; (try simp [hl, Exp.row_eq]))
  | (refine CallV.fun_ (k1) (by first | rfl | fail) (by first | simp [hl, Exp.row_eq] <;> rfl | fail) ?_ <;> (try simp [hl, Exp.row_eq]))
  | (refine CallV.fun_ (k2) (by first | rfl | fail) (by first | simp [hl, Exp.row_eq] <;> rfl | fail) ?_ <;> (try simp [hl, Exp.row_eq]))
  | (refine CallV.fun_ (k3) (by first | rfl | fail) (by first | simp [hl, Exp.row_eq] <;> rfl | fail) ?_ <;> (try simp [hl, Exp.row_eq]))
  | fail)
   (refine EndOK.val (.inr rfl) ?_; simp [zay, zae, zaq, Tryz.results64])
  ·obtain ⟨a, b, rfl⟩ := znZ hl3;have h1 := ha a (by simp);have h2 := ha b (by simp);have ia := ih a (by simp [Exp.args]) h1;have ib := ih b (by simp [Exp.args]) h2;by_cases h6 : op = 6
   ·subst h6;have hb1 := zbf h1 (by omega) 0;have hb2 := zbf h2 (by omega) 0;have k1 := ia 0;have k2 := ib 0;rw [zib h1 h2];rw [show zbA 6 = 7 by rfl] at hf hl;rw [show zdt 6 = [109, 105, 110] by rfl] at hf;rw [Exp.row] at hf ⊢;rw [Exp.row_eq] at k1;rw [Exp.row_eq] at k2;simp only [List.map_cons, List.map_nil] at *;generalize txt a 0 = T1 at *;generalize txt b 0 = T2 at *
    (refine Fun.of_body Tryz.func64 rfl (by simp) fun Γ hn => ?_); simp only [entry, ziC, ziN, maC, maN, oA, Tryz.ntmps64]
    repeat' (first
  | ((first | refine zaf ?_ | refine zaR rfl ?_ | refine zaj ?_ | fail); simp [hl, Exp.row_eq])
  | (refine ⟨by omega, ?_⟩)
  | ((first | refine zag ?_ | refine zai ?_ | fail); simp [hl, Exp.row_eq])
  | (refine zaX (hC _ (by kernel_rfl)) (hk _ ?_); clear hC hk C k; simp only [zao])
  | (refine za2 rfl (by kernel_rfl) (by first | (simp [hn]; done) | (simp [hn]; omega) | fail) fun C k hC hk => ?_; simp [hl, Exp.row_eq])
  | ((first | refine zap ?_ | refine zar ?_ | fail); simp only [zao])
  | (refine CallP.fE (hf) (by first | rfl | fail) (by first | simp [hl, Exp.row_eq] <;> rfl | fail) ?_; (try simp [hl, Exp.row_eq]))
  | (refine CallV.fun_ (k1) (by first | rfl | fail) (by first | simp [hl, Exp.row_eq] <;> rfl | fail) ?_ <;> (try simp [hl, Exp.row_eq]))
  | (refine CallV.fun_ (k2) (by first | rfl | fail) (by first | simp [hl, Exp.row_eq] <;> rfl | fail) ?_ <;> (try simp [hl, Exp.row_eq]))
  | fail)
    (refine EndOK.val (.inr rfl) ?_; simp [zay, zae, zaq, Tryz.results64])
   ·by_cases h7 : op = 7
    ·subst h7;have hb1 := zbf h1 (by omega) 0;have hb2 := zbf h2 (by omega) 0;have k1 := ia 0;have k2 := ib 0;rw [zic h1 h2];rw [show zbA 7 = 7 by rfl] at hf hl;rw [show zdt 7 = [109, 97, 120] by rfl] at hf;rw [Exp.row] at hf ⊢;rw [Exp.row_eq] at k1;rw [Exp.row_eq] at k2;simp only [List.map_cons, List.map_nil] at *;generalize txt a 0 = T1 at *;generalize txt b 0 = T2 at *
     (refine Fun.of_body Tryz.func64 rfl (by simp) fun Γ hn => ?_); simp only [entry, ziC, ziN, maC, maN, oA, Tryz.ntmps64]
     repeat' (first
  | ((first | refine zaf ?_ | refine zaR rfl ?_ | refine zaj ?_ | fail); simp [hl, Exp.row_eq])
  | (refine ⟨by omega, ?_⟩)
  | ((first | refine zag ?_ | refine zai ?_ | fail); simp [hl, Exp.row_eq])
  | (refine zaX (hC _ (by kernel_rfl)) (hk _ ?_); clear hC hk C k; simp only [zao])
  | (refine za2 rfl (by kernel_rfl) (by first | (simp [hn]; done) | (simp [hn]; omega) | fail) fun C k hC hk => ?_; simp [hl, Exp.row_eq])
  | ((first | refine zap ?_ | refine zar ?_ | fail); simp only [zao])
  | (refine CallP.fE (hf) (by first | rfl | fail) (by first | simp [hl, Exp.row_eq] <;> rfl | fail) ?_; (try simp [hl, Exp.row_eq]))
  | (refine CallV.fun_ (k1) (by first | rfl | fail) (by first | simp [hl, Exp.row_eq] <;> rfl | fail) ?_ <;> (try simp [hl, Exp.row_eq]))
  | (refine CallV.fun_ (k2) (by first | rfl | fail) (by first | simp [hl, Exp.row_eq] <;> rfl | fail) ?_ <;> (try simp [hl, Exp.row_eq]))
  | fail)
     (refine EndOK.val (.inr rfl) ?_; simp [zay, zae, zaq, Tryz.results64])
    ·obtain ⟨o, ho, rfl⟩ := zkt (by omega) (by omega) h6 h7;have hfo : zbA o.op = o.form := by
      simp only [oprs, List.mem_cons, List.mem_nil_iff, or_false] at ho;rcases ho with rfl | rfl | rfl | rfl | rfl | rfl | rfl | rfl <;> rfl
     have hwo : zdt o.op = o.text := by
      simp only [oprs, List.mem_cons, List.mem_nil_iff, or_false] at ho;rcases ho with rfl | rfl | rfl | rfl | rfl | rfl | rfl | rfl <;> rfl
     have hfm : o.form ≠ 7 /\ o.form ≠ 0 /\ o.form ≠ 3 /\ 0 <= o.form /\ o.form <= 6 := by
      simp only [oprs, List.mem_cons, List.mem_nil_iff, or_false] at ho;rcases ho with rfl | rfl | rfl | rfl | rfl | rfl | rfl | rfl <;> decide
     have hne : o.text ≠ [] := by
      simp only [oprs, List.mem_cons, List.mem_nil_iff, or_false] at ho;rcases ho with rfl | rfl | rfl | rfl | rfl | rfl | rfl | rfl <;> decide
     obtain ⟨hf7, hf0, hf3, hfg, hf6⟩ := hfm;rw [hfo, hwo] at hf;rw [hfo] at hl;have hot := zj3 ho;have hb1 := zbf h1 (by omega) (if o.form = 4 then 5 else o.form);have hb2 := zbf h2 (by omega) (o.form + 1);have k1 := ia (if o.form = 4 then 5 else o.form);have k2 := ib (o.form + 1);rw [zd6 ho h1 h2];clear ho hfo hwo;rw [Exp.row] at hf ⊢;rw [Exp.row_eq] at k1;rw [Exp.row_eq] at k2;simp only [List.map_cons, List.map_nil] at *;generalize o.text = W at *;by_cases c4 : o.form = 4
     ·have e1 : o.form + 1 = 5 := by omega
      rw [if_pos c4] at k1 hb1 ⊢;rw [e1] at k2 hb2 ⊢;generalize txt a 5 = T1 at *;generalize txt b 5 = T2 at *
      (refine Fun.of_body Tryz.func64 rfl (by simp) fun Γ hn => ?_); simp only [entry, ziC, ziN, maC, maN, oA, Tryz.ntmps64]
      repeat' (first
  | ((first | refine zaf ?_ | refine zaR rfl ?_ | refine zaj ?_ | fail); simp [hl, hf7, hf0, hf3, hne, c4, Exp.row_eq])
  | (refine ⟨by omega, ?_⟩)
  | ((first | refine zag ?_ | refine zai ?_ | fail); simp [hl, hf7, hf0, hf3, hne, c4, Exp.row_eq])
  | (refine zaX (hC _ (by kernel_rfl)) (hk _ ?_); clear hC hk C k; simp only [zao])
  | (refine za2 rfl (by kernel_rfl) (by first | (simp [hn]; done) | (simp [hn]; omega) | fail) fun C k hC hk => ?_; simp [hl, hf7, hf0, hf3, hne, c4, Exp.row_eq])
  | (refine zat ?_; simp [hl, hf7, hf0, hf3, hne, c4, Exp.row_eq])
  | ((first | refine zap ?_ | refine zar ?_ | fail); simp only [zao])
  | (intro hc <;> (try (exfalso; omega)))
  | (refine CallP.fE (hf) (by first | rfl | fail) (by first | simp [hl, hf7, hf0, hf3, hne, c4, Exp.row_eq] <;> rfl | fail) ?_; (try simp [hl, hf7, hf0, hf3, hne, c4, Exp.row_eq]))
  | (refine CallV.fun_ (k1) (by first | rfl | fail) (by first | simp [hl, hf7, hf0, hf3, hne, c4, Exp.row_eq] <;> rfl | fail) ?_ <;> (try simp [hl, hf7, hf0, hf3, hne, c4, Exp.row_eq]))
  | (refine CallV.fun_ (k2) (by first | rfl | fail) (by first | simp [hl, hf7, hf0, hf3, hne, c4, Exp.row_eq] <;> rfl | fail) ?_ <;> (try simp [hl, hf7, hf0, hf3, hne, c4, Exp.row_eq]))
  | fail)
      (refine EndOK.val (.inr rfl) ?_; simp [zay, zae, zaq, Tryz.results64])
     ·rw [if_neg c4] at k1 hb1 ⊢;generalize txt a o.form = T1 at *;generalize txt b (o.form + 1) = T2 at *
      (refine Fun.of_body Tryz.func64 rfl (by simp) fun Γ hn => ?_); simp only [entry, ziC, ziN, maC, maN, oA, Tryz.ntmps64]
      repeat' (first
  | ((first | refine zaf ?_ | refine zaR rfl ?_ | refine zaj ?_ | fail); simp [hl, hf7, hf0, hf3, hne, c4, Exp.row_eq])
  | (refine ⟨by omega, ?_⟩)
  | ((first | refine zag ?_ | refine zai ?_ | fail); simp [hl, hf7, hf0, hf3, hne, c4, Exp.row_eq])
  | (refine zaX (hC _ (by kernel_rfl)) (hk _ ?_); clear hC hk C k; simp only [zao])
  | (refine za2 rfl (by kernel_rfl) (by first | (simp [hn]; done) | (simp [hn]; omega) | fail) fun C k hC hk => ?_; simp [hl, hf7, hf0, hf3, hne, c4, Exp.row_eq])
  | ((first | refine zap ?_ | refine zar ?_ | fail); simp only [zao])
  | (refine CallP.fE (hf) (by first | rfl | fail) (by first | simp [hl, hf7, hf0, hf3, hne, c4, Exp.row_eq] <;> rfl | fail) ?_; (try simp [hl, hf7, hf0, hf3, hne, c4, Exp.row_eq]))
  | (refine CallV.fun_ (k1) (by first | rfl | fail) (by first | simp [hl, hf7, hf0, hf3, hne, c4, Exp.row_eq] <;> rfl | fail) ?_ <;> (try simp [hl, hf7, hf0, hf3, hne, c4, Exp.row_eq]))
  | (refine CallV.fun_ (k2) (by first | rfl | fail) (by first | simp [hl, hf7, hf0, hf3, hne, c4, Exp.row_eq] <;> rfl | fail) ?_ <;> (try simp [hl, hf7, hf0, hf3, hne, c4, Exp.row_eq]))
  | fail)
      (refine EndOK.val (.inr rfl) ?_; simp [zay, zae, zaq, Tryz.results64])
abbrev zcP (a b : Exp) : Prop := Fun Tryz.prog 28 [.u (.agg a.row), .u (.agg b.row)] (· = .u (.bool (eqB a b)))
theorem zlR (A B : List Exp) (h : ∀ a ∈ A, ∀ b, zcP a b) : Fun Tryz.prog 73 [.u (.sl (A.map Exp.row)), .u (.sl (B.map Exp.row)), .fnc (.func 28) []] (· = .u (.bool (eqB A B))) := by
 by_cases hl : A.length = B.length
 ·have hl' : (A.length : Int) = B.length := by omega
  (refine Fun.of_body Tryz.func73 rfl (by simp) fun Γ hn => ?_); simp only [entry, ziC, ziN, maC, maN, oA, Tryz.ntmps73]
  refine ziu (x := 0) rfl fun hll => ?_;simp at hll
  repeat' (first
  | ((first | refine zaf ?_ | refine zaj ?_ | refine zag ?_ | refine zai ?_ | refine zas ?_ | fail); simp [hl, hl'])
  | (refine zar ?_; simp only [zao])
  | fail)
  refine zdL (α := { i : Nat // i <= A.length /\ A.take i = B.take i }) [0, 1, 2, 6, 15, 16] (fun x => [(17, .u (.int .i64 x.1))]) (fun x => []) 0 (fun x => A.length - x.1) ⟨0, by omega, by simp⟩ ?_ ?_
  ·exact (Wk.cut rfl (by simp [hn, St.lp]) (by simp [wkO, St.lp, zaa, getK, Ob.under, D.under, zad, zah, hl]) (by simp [wkU, St.lp, zak, zaa, getK, D.under, hl]) (by simp [wkE, St.lp, zak, zaa, getK, hl] <;> (try (intros; simp_all; done)) <;> (try (intros; omega)) <;> (try grind)))
  rintro ⟨i, hi, hb⟩;simp [St.lp, St.only, zak, zaa, getK];rcases hx : A[i]? with _ | a
  ·have hge : A.length <= i := by simpa using hx
   obtain rfl : i = A.length := by omega
   rw [List.take_of_length_le (Nat.le_refl _), List.take_of_length_le (by omega)] at hb;subst hb;rw [zbB]
   repeat' (first
  | ((first | refine zaf ?_ | refine zaj ?_ | refine zag ?_ | fail); simp [hx, hl])
  | (refine zap ?_; simp only [zao])
  | (refine zbq ?_; simp [zao])
  | fail)
   (refine EndOK.val (.inr rfl) ?_; simp [zay, zae, zaq, Tryz.results73])
  ·have hlt : i < A.length := (lGE.1 hx).1;have hlt2 : i < B.length := by omega
   obtain ⟨b, hy⟩ : ∃ b, B[i]? = some b := ⟨_, List.getElem?_eq_getElem hlt2⟩;have hi2 : (i : Int) < B.length := by omega
   have h1 : zcP a b := h a (List.mem_of_getElem? hx) b;unfold zcP at h1;by_cases hab : a = b
   ·rw [zb0.2 hab] at h1;rw [Exp.row_eq, Exp.row_eq] at h1
    repeat' (first
  | ((first | refine zaf ?_ | refine zaj ?_ | fail); simp [hx, hy, hi2, Exp.row_eq])
  | (refine ⟨by omega, ?_⟩)
  | ((first | refine zag ?_ | refine zai ?_ | refine zat ?_ | fail); simp [hx, hy, hi2, Exp.row_eq])
  | (refine zar ?_; simp only [zao])
  | (refine CallP.fE (h1) (by first | rfl | fail) (by first | simp [hx, hy, hi2, Exp.row_eq] <;> rfl | fail) ?_; (try simp [hx, hy, hi2, Exp.row_eq]))
  | fail)
    have hsn : A.take (i + 1) = B.take (i + 1) := by
     rw [List.take_succ_eq_append_getElem hlt, List.take_succ_eq_append_getElem hlt2, hb, (lGE.1 hx).2, (lGE.1 hy).2, hab]
    refine LoopW.next ⟨i + 1, by omega, hsn⟩ (by simp; omega) ?_
    exact (Wk.cut rfl (by simp [hn, St.lp]) (by simp [wkO, St.lp, zaa, getK, Ob.under, D.under, zad, zah, hl]) (by simp [wkU, St.lp, zak, zaa, getK, D.under, hl]) (by simp [wkE, St.lp, zak, zaa, getK, hl] <;> (try (intros; simp_all; done)) <;> (try (intros; omega)) <;> (try grind)))
   ·rw [zbC hab] at h1;rw [Exp.row_eq, Exp.row_eq] at h1;have hne : A ≠ B := fun e => by subst e; rw [hx] at hy; cases hy; exact hab rfl
    rw [zbC hne]
    repeat' (first
  | ((first | refine zaf ?_ | refine zaj ?_ | refine zag ?_ | refine zai ?_ | fail); simp [hx, hy, hi2, Exp.row_eq])
  | ((first | refine zap ?_ | refine zar ?_ | fail); simp only [zao])
  | (refine CallP.fE (h1) (by first | rfl | fail) (by first | simp [hx, hy, hi2, Exp.row_eq] <;> rfl | fail) ?_; (try simp [hx, hy, hi2, Exp.row_eq]))
  | fail)
    (refine EndOK.val (.inr rfl) ?_; simp [zay, zae, zaq, Tryz.results73])
 ·have hl' : ¬ (A.length : Int) = B.length := by omega
  rw [zbC (fun e => hl (by rw [e]))]
  (refine Fun.of_body Tryz.func73 rfl (by simp) fun Γ hn => ?_); simp only [entry, ziC, ziN, maC, maN, oA, Tryz.ntmps73]
  repeat' (first
  | ((first | refine zaf ?_ | refine zaj ?_ | refine zag ?_ | refine zai ?_ | fail); simp [hl, hl'])
  | (refine zap ?_; simp only [zao])
  | fail)
  (refine EndOK.val (.inr rfl) ?_; simp [zay, zae, zaq, Tryz.results73])
theorem znL : ∀ (n : Nat) (a b : Exp), SizeOf.sizeOf a <= n -> zcP a b := by
 intro n
 induction n with
 | zero =>
  intro a b h;cases a with
  | mk op n u s args => simp only [Exp.mk.sizeOf_spec] at h; omega
 | succ n ih =>
  intro a b hs;have h1 := zlR a.args b.args (fun x hx y => ih x y (by have := Exp.ze5 hx; omega));unfold zcP;have key : ∀ B : Bool, (B = true ↔ a = b) -> eqB a b = B := fun B h => by
   cases B with
   | true => exact zb0.2 (h.1 rfl)
   | false => exact zbC fun e => by have := h.2 e; cases this
  have hmk : a = b ↔ a.op = b.op /\ a.n = b.n /\ a.unit = b.unit /\ a.s = b.s /\ a.args = b.args := by
   cases a; cases b;simp only [Exp.op, Exp.n, Exp.unit, Exp.s, Exp.args, Exp.mk.injEq]
  rw [Exp.row_eq, Exp.row_eq b];by_cases c1 : a.op = b.op
  ·by_cases c2 : a.n = b.n
   ·by_cases c3 : a.unit = b.unit
    ·by_cases c4 : a.s = b.s
     ·rw [key (eqB a.args b.args) (by rw [zb0, hmk]; exact ⟨fun h => ⟨c1, c2, c3, c4, h⟩, fun h => h.2.2.2.2⟩)]
      (refine Fun.of_body Tryz.func28 rfl (by simp) fun Γ hn => ?_); simp only [entry, ziC, ziN, maC, maN, oA, Tryz.ntmps28]
      repeat' (first
  | ((first | refine zaf ?_ | refine zaj ?_ | refine zag ?_ | fail); simp [c1, c2, c3, c4])
  | (refine zap ?_; simp only [zao])
  | (refine CallP.fE (h1) (by first | rfl | fail) (by first | simp [c1, c2, c3, c4] <;> rfl | fail) ?_; (try simp [c1, c2, c3, c4]))
  | fail)
      (refine EndOK.val (.inr rfl) ?_; simp [zay, zae, zaq, Tryz.results28])
     ·rw [key false (by rw [hmk]; simp [c4])]
      (refine Fun.of_body Tryz.func28 rfl (by simp) fun Γ hn => ?_); simp only [entry, ziC, ziN, maC, maN, oA, Tryz.ntmps28]
      repeat' (first
  | ((first | refine zaf ?_ | refine zaj ?_ | refine zag ?_ | fail); simp [c1, c2, c3, c4])
  | (refine zap ?_; simp only [zao])
  | fail)
      (refine EndOK.val (.inr rfl) ?_; simp [zay, zae, zaq, Tryz.results28])
    ·rw [key false (by rw [hmk]; simp [c3])]
     (refine Fun.of_body Tryz.func28 rfl (by simp) fun Γ hn => ?_); simp only [entry, ziC, ziN, maC, maN, oA, Tryz.ntmps28]
     repeat' (first
  | ((first | refine zaf ?_ | refine zaj ?_ | refine zag ?_ | fail); simp [c1, c2, c3])
  | (refine zap ?_; simp only [zao])
  | fail)
     (refine EndOK.val (.inr rfl) ?_; simp [zay, zae, zaq, Tryz.results28])
   ·rw [key false (by rw [hmk]; simp [c2])]
    (refine Fun.of_body Tryz.func28 rfl (by simp) fun Γ hn => ?_); simp only [entry, ziC, ziN, maC, maN, oA, Tryz.ntmps28]
    repeat' (first
  | ((first | refine zaf ?_ | refine zaj ?_ | refine zag ?_ | fail); simp [c1, c2])
  | (refine zap ?_; simp only [zao])
  | fail)
    (refine EndOK.val (.inr rfl) ?_; simp [zay, zae, zaq, Tryz.results28])
  ·rw [key false (by rw [hmk]; simp [c1])]
   (refine Fun.of_body Tryz.func28 rfl (by simp) fun Γ hn => ?_); simp only [entry, ziC, ziN, maC, maN, oA, Tryz.ntmps28]
   repeat' (first
  | ((first | refine zaf ?_ | refine zaj ?_ | refine zag ?_ | fail); simp [c1])
  | (refine zap ?_; simp only [zao])
  | fail)
   (refine EndOK.val (.inr rfl) ?_; simp [zay, zae, zaq, Tryz.results28])
theorem zbg (a b : Exp) : zcP a b := znL (SizeOf.sizeOf a) a b (Nat.le_refl _)
theorem zle (x y : Let) : Fun Tryz.prog 72 [zmY x, zmY y] (· = .u (.bool (eqB x y))) := by
 have h1 := zbg x.body y.body;unfold zcP at h1;rw [Exp.row_eq, Exp.row_eq] at h1;simp only [zmY];have hmk : x = y ↔ x.name = y.name /\ x.body = y.body := by cases x; cases y; simp
 by_cases c1 : x.name = y.name
 ·have e : eqB x y = eqB x.body y.body := by
   by_cases c2 : x.body = y.body
   ·rw [zb0.2 c2, zb0.2 (hmk.2 ⟨c1, c2⟩)]
   ·rw [zbC c2, zbC fun h => c2 (hmk.1 h).2]
  rw [e]
  (refine Fun.of_body Tryz.func72 rfl (by simp) fun Γ hn => ?_); simp only [entry, ziC, ziN, maC, maN, oA, Tryz.ntmps72]
  repeat' (first
  | ((first | refine zaf ?_ | refine zaj ?_ | refine zag ?_ | fail); simp [c1])
  | (refine zap ?_; simp only [zao])
  | (refine CallP.fE (h1) (by first | rfl | fail) (by first | simp [c1] <;> rfl | fail) ?_; (try simp [c1]))
  | fail)
  (refine EndOK.val (.inr rfl) ?_; simp [zay, zae, zaq, Tryz.results72])
 ·rw [zbC fun h => c1 (hmk.1 h).1]
  (refine Fun.of_body Tryz.func72 rfl (by simp) fun Γ hn => ?_); simp only [entry, ziC, ziN, maC, maN, oA, Tryz.ntmps72]
  repeat' (first
  | ((first | refine zaf ?_ | refine zaj ?_ | refine zag ?_ | fail); simp [c1])
  | (refine zap ?_; simp only [zao])
  | fail)
  (refine EndOK.val (.inr rfl) ?_; simp [zay, zae, zaq, Tryz.results72])
theorem zhC (A B : List Let) : Fun Tryz.prog 71 [.u (zeV A), .u (zeV B), .fnc (.func 72) []] (· = .u (.bool (eqB A B))) := by
 simp only [zeV];by_cases hl : A.length = B.length
 ·have hl' : (A.length : Int) = B.length := by omega
  (refine Fun.of_body Tryz.func71 rfl (by simp) fun Γ hn => ?_); simp only [entry, ziC, ziN, maC, maN, oA, Tryz.ntmps71]
  refine ziu (x := 0) rfl fun hll => ?_;simp at hll
  repeat' (first
  | ((first | refine zaf ?_ | refine zaj ?_ | refine zag ?_ | refine zai ?_ | refine zas ?_ | fail); simp [hl, hl'])
  | (refine zar ?_; simp only [zao])
  | fail)
  refine zdL (α := { i : Nat // i <= A.length /\ A.take i = B.take i }) [0, 1, 2, 6, 15, 16] (fun x => [(17, .u (.int .i64 x.1))]) (fun x => []) 0 (fun x => A.length - x.1) ⟨0, by omega, by simp⟩ ?_ ?_
  ·exact (Wk.cut rfl (by simp [hn, St.lp]) (by simp [wkO, St.lp, zaa, getK, Ob.under, D.under, zad, zah, hl]) (by simp [wkU, St.lp, zak, zaa, getK, D.under, hl]) (by simp [wkE, St.lp, zak, zaa, getK, hl] <;> (try (intros; simp_all; done)) <;> (try (intros; omega)) <;> (try grind)))
  rintro ⟨i, hi, hb⟩;simp [St.lp, St.only, zak, zaa, getK];rcases hx : A[i]? with _ | a
  ·have hge : A.length <= i := by simpa using hx
   obtain rfl : i = A.length := by omega
   rw [List.take_of_length_le (Nat.le_refl _), List.take_of_length_le (by omega)] at hb;subst hb;rw [zbB]
   repeat' (first
  | ((first | refine zaf ?_ | refine zaj ?_ | refine zag ?_ | fail); simp [hx, hl])
  | (refine zap ?_; simp only [zao])
  | (refine zbq ?_; simp [zao])
  | fail)
   (refine EndOK.val (.inr rfl) ?_; simp [zay, zae, zaq, Tryz.results71])
  ·have hlt : i < A.length := (lGE.1 hx).1;have hlt2 : i < B.length := by omega
   obtain ⟨b, hy⟩ : ∃ b, B[i]? = some b := ⟨_, List.getElem?_eq_getElem hlt2⟩;have hi2 : (i : Int) < B.length := by omega
   have h1 := zle a b;simp only [zmY] at h1;by_cases hab : a = b
   ·rw [zb0.2 hab] at h1
    repeat' (first
  | ((first | refine zaf ?_ | refine zaj ?_ | fail); simp [hx, hy, hi2])
  | (refine ⟨by omega, ?_⟩)
  | ((first | refine zag ?_ | refine zai ?_ | refine zat ?_ | fail); simp [hx, hy, hi2])
  | (refine zar ?_; simp only [zao])
  | (refine CallP.fE (h1) (by first | rfl | fail) (by first | simp [hx, hy, hi2] <;> rfl | fail) ?_; (try simp [hx, hy, hi2]))
  | fail)
    have hsn : A.take (i + 1) = B.take (i + 1) := by
     rw [List.take_succ_eq_append_getElem hlt, List.take_succ_eq_append_getElem hlt2, hb, (lGE.1 hx).2, (lGE.1 hy).2, hab]
    refine LoopW.next ⟨i + 1, by omega, hsn⟩ (by simp; omega) ?_
    exact (Wk.cut rfl (by simp [hn, St.lp]) (by simp [wkO, St.lp, zaa, getK, Ob.under, D.under, zad, zah, hl]) (by simp [wkU, St.lp, zak, zaa, getK, D.under, hl]) (by simp [wkE, St.lp, zak, zaa, getK, hl] <;> (try (intros; simp_all; done)) <;> (try (intros; omega)) <;> (try grind)))
   ·rw [zbC hab] at h1;have hne : A ≠ B := fun e => by subst e; rw [hx] at hy; cases hy; exact hab rfl
    rw [zbC hne]
    repeat' (first
  | ((first | refine zaf ?_ | refine zaj ?_ | refine zag ?_ | refine zai ?_ | fail); simp [hx, hy, hi2])
  | ((first | refine zap ?_ | refine zar ?_ | fail); simp only [zao])
  | (refine CallP.fE (h1) (by first | rfl | fail) (by first | simp [hx, hy, hi2] <;> rfl | fail) ?_; (try simp [hx, hy, hi2]))
  | fail)
    (refine EndOK.val (.inr rfl) ?_; simp [zay, zae, zaq, Tryz.results71])
 ·have hl' : ¬ (A.length : Int) = B.length := by omega
  rw [zbC (fun e => hl (by rw [e]))]
  (refine Fun.of_body Tryz.func71 rfl (by simp) fun Γ hn => ?_); simp only [entry, ziC, ziN, maC, maN, oA, Tryz.ntmps71]
  repeat' (first
  | ((first | refine zaf ?_ | refine zaj ?_ | refine zag ?_ | refine zai ?_ | fail); simp [hl, hl'])
  | (refine zap ?_; simp only [zao])
  | fail)
  (refine EndOK.val (.inr rfl) ?_; simp [zay, zae, zaq, Tryz.results71])
theorem ziK (b : By) : Fun Tryz.prog 27 [.u (.agg (zaS b)), .u (.agg (zaS b))] (· = .u (.bool true)) := by
 have e0 := zhC b.lets b.lets;have e1 : zcP b.due b.due := zbg _ _;have e2 : zcP b.fine b.fine := zbg _ _;have e3 : zcP b.pay b.pay := zbg _ _;have e4 : zcP b.cover b.cover := zbg _ _;have e5 : zcP b.hold b.hold := zbg _ _;unfold zcP at e1 e2 e3 e4 e5;rw [Exp.row_eq] at e1 e2 e3 e4 e5;rw [zbB] at e0 e1 e2 e3 e4 e5;simp only [zeV] at e0;unfold zaS
 (refine Fun.of_body Tryz.func27 rfl (by simp) fun Γ hn => ?_); simp only [entry, ziC, ziN, maC, maN, oA, Tryz.ntmps27]
 repeat' (first
  | ((first | refine zaf ?_ | refine zaj ?_ | refine zag ?_ | fail); simp)
  | (refine zap ?_; simp only [zao])
  | (refine CallP.fE (e0) (by first | rfl | fail) (by first | (simp; done) | (simp; rfl) | fail) ?_; (try simp))
  | (refine CallP.fE (e1) (by first | rfl | fail) (by first | (simp; done) | (simp; rfl) | fail) ?_; (try simp))
  | (refine CallP.fE (e2) (by first | rfl | fail) (by first | (simp; done) | (simp; rfl) | fail) ?_; (try simp))
  | (refine CallP.fE (e3) (by first | rfl | fail) (by first | (simp; done) | (simp; rfl) | fail) ?_; (try simp))
  | (refine CallP.fE (e4) (by first | rfl | fail) (by first | (simp; done) | (simp; rfl) | fail) ?_; (try simp))
  | (refine CallP.fE (e5) (by first | rfl | fail) (by first | (simp; done) | (simp; rfl) | fail) ?_; (try simp))
  | fail)
 (refine EndOK.val (.inr rfl) ?_; simp [zay, zae, zaq, Tryz.results27])
end Go.Proofs.YthnemhfamhnfjaaGreatDoor
