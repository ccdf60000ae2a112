/- Texts joined by a program of mine: Ei Ej Ek El Ep Er Em En Eo Zn Yk Yl Ym Yn Yo Zh#p Zd#p Yp Yq Yr Zh. -/
import Derived.Test.YthnemhfamhnfjaaGreatDoorH4
set_option linter.all false
set_option maxRecDepth 100000
set_option maxHeartbeats 8000000
namespace Go.Proofs.YthnemhfamhnfjaaGreatDoor
open Go Go.VL
attribute [local simp] HS zdy zck evPure opd uOf zaI St.put St.at getK binD binI binS binB nilD aggD zii zjj lookD lookR zcY Go.VL.nextD zc1 zkb zjm zhD zcO mkV zdU zbt zbE mapEff zeJ zgV Key.kk shiftI arith unD convD zeH loadD cellsAt fieldAddrD fieldD indexAddrD indexD sliceD cutD lenD minmaxD nilCheckD buildD fillD zb4 zdM zfi setAll zdm zfu zcU zja zcL St.add za0 zbZ rowsOf zew zc6 zak zac zaa zbe zc4 zaY entry zbS zb9 valD zcn zcT zhO zdS zdT zcc zbU zaw za2 zbx delAll effD St.effS zdP zbk zbb zdQ zbl zbd zcD zbc za4 zcE zdH zbV zcz zbw zcx zcy zaP mkD zbO zbG zbT zaw zcR D.ids Op.operands Call.operands zbN makeIfD makeFuncD typeAssertD zji zei zej zjh zcZ IntKind.bits zdq List.take_of_length_le List.range_succ
attribute [local irreducible] V G H HD HD2 HD4 zns RetX zap Eff CallP CallV EndOK Fun Ret FinOK LoopI LoopW EndW
theorem zkX {l : List Tok} (hl : TokOK l) {f p : Nat} (hE : zhC l f) (hf : 4 * (l.length - p) ≤ f) {t : Tok} (ht : l[p]? = some t) (hk : ¬ t.kind = 2) (h1 : isB l p [116, 114, 117, 101] = false) (h2 : isB l p [102, 97, 108, 115, 101] = false)
  (h3 : isB l p [109, 105, 110] = false) (h4 : isB l p [109, 97, 120] = true) {i nx : Nat} (hi : i < nx) :
  RetX Tryz.prog 133 [.ptr i 0] [(i, pOb l p)] nx (PPost l i nx zeI (zaJ l (f + 1) p)) := by
 have hne := zaB hi
 have hp := (lGE.1 ht).1
 have hnx := zbL l p t ht hl.len
 have hll := hl.len
 have hp2 := za1 hl h4
 rw [zaJ, ht]
 have hh1 := fun nx' (h : nx ≤ nx') => za9 l p [116, 114, 117, 101] i nx' (by omega) hp hl.len
 have hh2 := fun nx' (h : nx ≤ nx') => za9 l p [102, 97, 108, 115, 101] i nx' (by omega) hp hl.len
 have hm1 := zdY l p [109, 105, 110] hp hl.len
 have hm2 := zdY l p [109, 97, 120] hp hl.len
 simp only [hk, h1, h2, h3, h4, if_false, if_true, Bool.false_eq_true, or_true, true_or] at hh1 hh2 hm1 hm2 ⊢
 have hw1 := fun nx' (h : nx ≤ nx') => zeG hl [40] (q := (p + 1)) (i := i) (nx := nx') (by omega) hp2
 cases hr0 : zbj l (p + 1) [[40]] with
 | stop pos e =>
  simp only [hr0] at hw1
  (refine RetX.of_bodyW Tryz.func133 rfl (by simp) fun Γ hn hpan => ?_); simp only [entry, ziC, ziN, maC, maN, oA, Tryz.ntmps133]
  repeat' (first
  | ((first | refine zaf ?_ | refine zaj ?_ | fail); simp [hne, hk, del, nAA])
  | (refine ⟨by omega, ?_⟩)
  | ((first | refine zah ?_ | refine zai ?_ | refine zaG ?_ | fail); simp [hne, hk, del, nAA])
  | (refine CallP.fE (hnx) (by first | rfl | fail) (by first | simp [hne, hk, del, nAA] <;> rfl | fail) ?_; (try simp [hne, hk, del, nAA]))
  | (refine CallP.fE (hm1) (by first | rfl | fail) (by first | simp [hne, hk, del, nAA] <;> rfl | fail) ?_; (try simp [hne, hk, del, nAA]))
  | (refine CallP.fE (hm2) (by first | rfl | fail) (by first | simp [hne, hk, del, nAA] <;> rfl | fail) ?_; (try simp [hne, hk, del, nAA]))
  | (refine CallP.ok1 (hh1 _ (by first | omega | simp <;> omega | fail)) (by first | (simp [hne, hk, del, nAA, zaa, getK, zab, zac]; done) | fail) (by rfl) (by rfl) ?_; (try simp [hne, hk, del, nAA]))
  | (refine CallP.ok1 (hh2 _ (by first | omega | simp <;> omega | fail)) (by first | (simp [hne, hk, del, nAA, zaa, getK, zab, zac]; done) | fail) (by rfl) (by rfl) ?_; (try simp [hne, hk, del, nAA]))
  | (refine CallP.zem (hw1 _ (by first | omega | simp <;> omega | fail)) (by first | (simp [hne, hk, del, nAA, zaa, getK, zab, zac]; done) | fail) (by rfl) (by first | assumption | (simp; done) | fail) (by rfl) (by simp) ?_; rintro ob' ⟨q', rfl⟩; refine ⟨_, Wk.refl _, ?_⟩)
  | (refine zar (by first | rfl | fail) ?_; simp [hne, hk, del, nAA, frzN, frz1, zaz, zay, St.frz, St.frzS, frzS, fv, zaH, za3, za5, zaE, zat, zal, del, frz, za6])
  | fail)
  (refine hpan _ _ ⟨{ n := _, env := [], obs := [(i, pOb l q')], next := nx }, (Wk.cut rfl (by simp [hn]) (by simp [wkO, zaa, getK, zab, zac, Ob.under, D.under, zad, zae, hi, hne, zab, zac, zaa, getK]) (by simp [wkU, zan, zaa, getK, D.under, hi, hne, zab, zac, zaa, getK]) (by simp [wkE, zan, zaa, getK, hi, hne, zab, zac, zaa, getK])), by simp [hn], ?_⟩; try simp)
  exact PPost.zax (by simp [PR.bind, *])
 | ok v0 q0 =>
  simp only [hr0] at hw1
  obtain ⟨g0a, g0b⟩ := zaO hl _ hr0 hp2
  have ha := fun nx' (h : nx ≤ nx') => hE q0 0 i nx' (by omega) g0b (by omega) (by omega) (by omega)
  cases hr1 : zcC l f q0 0 with
  | stop pos e =>
   simp only [hr1] at ha
   (refine RetX.of_bodyW Tryz.func133 rfl (by simp) fun Γ hn hpan => ?_); simp only [entry, ziC, ziN, maC, maN, oA, Tryz.ntmps133]
   repeat' (first
  | ((first | refine zaf ?_ | refine zaj ?_ | fail); simp [hne, hk, del, nAA])
  | (refine ⟨by omega, ?_⟩)
  | ((first | refine zah ?_ | refine zai ?_ | refine zaG ?_ | fail); simp [hne, hk, del, nAA])
  | (refine CallP.fE (hnx) (by first | rfl | fail) (by first | simp [hne, hk, del, nAA] <;> rfl | fail) ?_; (try simp [hne, hk, del, nAA]))
  | (refine CallP.fE (hm1) (by first | rfl | fail) (by first | simp [hne, hk, del, nAA] <;> rfl | fail) ?_; (try simp [hne, hk, del, nAA]))
  | (refine CallP.fE (hm2) (by first | rfl | fail) (by first | simp [hne, hk, del, nAA] <;> rfl | fail) ?_; (try simp [hne, hk, del, nAA]))
  | (refine CallP.ok1 (hh1 _ (by first | omega | simp <;> omega | fail)) (by first | (simp [hne, hk, del, nAA, zaa, getK, zab, zac]; done) | fail) (by rfl) (by rfl) ?_; (try simp [hne, hk, del, nAA]))
  | (refine CallP.ok1 (hh2 _ (by first | omega | simp <;> omega | fail)) (by first | (simp [hne, hk, del, nAA, zaa, getK, zab, zac]; done) | fail) (by rfl) (by rfl) ?_; (try simp [hne, hk, del, nAA]))
  | (refine CallP.ok1 (hw1 _ (by first | omega | simp <;> omega | fail)) (by first | (simp [hne, hk, del, nAA, zaa, getK, zab, zac]; done) | fail) (by rfl) (by rfl) ?_; (try simp [hne, hk, del, nAA]))
  | (refine CallP.zem (ha _ (by first | omega | simp <;> omega | fail)) (by first | (simp [hne, hk, del, nAA, zaa, getK, zab, zac]; done) | fail) (by rfl) (by first | assumption | (simp; done) | fail) (by rfl) (by simp) ?_; rintro ob' ⟨q', rfl⟩; refine ⟨_, Wk.refl _, ?_⟩)
  | (refine zar (by first | rfl | fail) ?_; simp [hne, hk, del, nAA, frzN, frz1, zaz, zay, St.frz, St.frzS, frzS, fv, zaH, za3, za5, zaE, zat, zal, del, frz, za6])
  | fail)
   (refine hpan _ _ ⟨{ n := _, env := [], obs := [(i, pOb l q')], next := nx }, (Wk.cut rfl (by simp [hn]) (by simp [wkO, zaa, getK, zab, zac, Ob.under, D.under, zad, zae, hi, hne, zab, zac, zaa, getK]) (by simp [wkU, zan, zaa, getK, D.under, hi, hne, zab, zac, zaa, getK]) (by simp [wkE, zan, zaa, getK, hi, hne, zab, zac, zaa, getK])), by simp [hn], ?_⟩; try simp)
   exact PPost.zax (by simp [PR.bind, *])
  | ok v1 q1 =>
   have ha := fun nx' h => zc0 (ha nx' h) hr1
   obtain ⟨g1a, g1b⟩ := (zbJ hl f).1 _ _ _ _ hr1 g0b
   have hw2 := fun nx' (h : nx ≤ nx') => zeG hl [44] (q := q1) (i := i) (nx := nx') (by omega) g1b
   cases hr2 : zbj l q1 [[44]] with
   | stop pos e =>
    simp only [hr2] at hw2
    (refine RetX.of_bodyW Tryz.func133 rfl (by simp) fun Γ hn hpan => ?_); simp only [entry, ziC, ziN, maC, maN, oA, Tryz.ntmps133]
    repeat' (first
  | ((first | refine zaf ?_ | refine zaj ?_ | fail); simp [hne, hk, del, nAA])
  | (refine ⟨by omega, ?_⟩)
  | ((first | refine zah ?_ | refine zai ?_ | refine zaG ?_ | fail); simp [hne, hk, del, nAA])
  | (refine CallP.fE (hnx) (by first | rfl | fail) (by first | simp [hne, hk, del, nAA] <;> rfl | fail) ?_; (try simp [hne, hk, del, nAA]))
  | (refine CallP.fE (hm1) (by first | rfl | fail) (by first | simp [hne, hk, del, nAA] <;> rfl | fail) ?_; (try simp [hne, hk, del, nAA]))
  | (refine CallP.fE (hm2) (by first | rfl | fail) (by first | simp [hne, hk, del, nAA] <;> rfl | fail) ?_; (try simp [hne, hk, del, nAA]))
  | (refine CallP.ok1 (hh1 _ (by first | omega | simp <;> omega | fail)) (by first | (simp [hne, hk, del, nAA, zaa, getK, zab, zac]; done) | fail) (by rfl) (by rfl) ?_; (try simp [hne, hk, del, nAA]))
  | (refine CallP.ok1 (hh2 _ (by first | omega | simp <;> omega | fail)) (by first | (simp [hne, hk, del, nAA, zaa, getK, zab, zac]; done) | fail) (by rfl) (by rfl) ?_; (try simp [hne, hk, del, nAA]))
  | (refine CallP.ok1 (hw1 _ (by first | omega | simp <;> omega | fail)) (by first | (simp [hne, hk, del, nAA, zaa, getK, zab, zac]; done) | fail) (by rfl) (by rfl) ?_; (try simp [hne, hk, del, nAA]))
  | (refine CallP.ok1 (ha _ (by first | omega | simp <;> omega | fail)) (by first | (simp [hne, hk, del, nAA, zaa, getK, zab, zac]; done) | fail) (by rfl) (by rfl) ?_; (try simp [hne, hk, del, nAA]))
  | (refine CallP.zem (hw2 _ (by first | omega | simp <;> omega | fail)) (by first | (simp [hne, hk, del, nAA, zaa, getK, zab, zac]; done) | fail) (by rfl) (by first | assumption | (simp; done) | fail) (by rfl) (by simp) ?_; rintro ob' ⟨q', rfl⟩; refine ⟨_, Wk.refl _, ?_⟩)
  | (refine zar (by first | rfl | fail) ?_; simp [hne, hk, del, nAA, frzN, frz1, zaz, zay, St.frz, St.frzS, frzS, fv, zaH, za3, za5, zaE, zat, zal, del, frz, za6])
  | fail)
    (refine hpan _ _ ⟨{ n := _, env := [], obs := [(i, pOb l q')], next := nx }, (Wk.cut rfl (by simp [hn]) (by simp [wkO, zaa, getK, zab, zac, Ob.under, D.under, zad, zae, hi, hne, zab, zac, zaa, getK]) (by simp [wkU, zan, zaa, getK, D.under, hi, hne, zab, zac, zaa, getK]) (by simp [wkE, zan, zaa, getK, hi, hne, zab, zac, zaa, getK])), by simp [hn], ?_⟩; try simp)
    exact PPost.zax (by simp [PR.bind, *])
   | ok v2 q2 =>
    simp only [hr2] at hw2
    obtain ⟨g2a, g2b⟩ := zaO hl _ hr2 g1b
    have hb := fun nx' (h : nx ≤ nx') => hE q2 0 i nx' (by omega) g2b (by omega) (by omega) (by omega)
    cases hr3 : zcC l f q2 0 with
    | stop pos e =>
     simp only [hr3] at hb
     (refine RetX.of_bodyW Tryz.func133 rfl (by simp) fun Γ hn hpan => ?_); simp only [entry, ziC, ziN, maC, maN, oA, Tryz.ntmps133]
     repeat' (first
  | ((first | refine zaf ?_ | refine zaj ?_ | fail); simp [hne, hk, del, nAA])
  | (refine ⟨by omega, ?_⟩)
  | ((first | refine zah ?_ | refine zai ?_ | refine zaG ?_ | fail); simp [hne, hk, del, nAA])
  | (refine CallP.fE (hnx) (by first | rfl | fail) (by first | simp [hne, hk, del, nAA] <;> rfl | fail) ?_; (try simp [hne, hk, del, nAA]))
  | (refine CallP.fE (hm1) (by first | rfl | fail) (by first | simp [hne, hk, del, nAA] <;> rfl | fail) ?_; (try simp [hne, hk, del, nAA]))
  | (refine CallP.fE (hm2) (by first | rfl | fail) (by first | simp [hne, hk, del, nAA] <;> rfl | fail) ?_; (try simp [hne, hk, del, nAA]))
  | (refine CallP.ok1 (hh1 _ (by first | omega | simp <;> omega | fail)) (by first | (simp [hne, hk, del, nAA, zaa, getK, zab, zac]; done) | fail) (by rfl) (by rfl) ?_; (try simp [hne, hk, del, nAA]))
  | (refine CallP.ok1 (hh2 _ (by first | omega | simp <;> omega | fail)) (by first | (simp [hne, hk, del, nAA, zaa, getK, zab, zac]; done) | fail) (by rfl) (by rfl) ?_; (try simp [hne, hk, del, nAA]))
  | (refine CallP.ok1 (hw1 _ (by first | omega | simp <;> omega | fail)) (by first | (simp [hne, hk, del, nAA, zaa, getK, zab, zac]; done) | fail) (by rfl) (by rfl) ?_; (try simp [hne, hk, del, nAA]))
  | (refine CallP.ok1 (ha _ (by first | omega | simp <;> omega | fail)) (by first | (simp [hne, hk, del, nAA, zaa, getK, zab, zac]; done) | fail) (by rfl) (by rfl) ?_; (try simp [hne, hk, del, nAA]))
  | (refine CallP.ok1 (hw2 _ (by first | omega | simp <;> omega | fail)) (by first | (simp [hne, hk, del, nAA, zaa, getK, zab, zac]; done) | fail) (by rfl) (by rfl) ?_; (try simp [hne, hk, del, nAA]))
  | (refine CallP.zem (hb _ (by first | omega | simp <;> omega | fail)) (by first | (simp [hne, hk, del, nAA, zaa, getK, zab, zac]; done) | fail) (by rfl) (by first | assumption | (simp; done) | fail) (by rfl) (by simp) ?_; rintro ob' ⟨q', rfl⟩; refine ⟨_, Wk.refl _, ?_⟩)
  | (refine zar (by first | rfl | fail) ?_; simp [hne, hk, del, nAA, frzN, frz1, zaz, zay, St.frz, St.frzS, frzS, fv, zaH, za3, za5, zaE, zat, zal, del, frz, za6])
  | fail)
     (refine hpan _ _ ⟨{ n := _, env := [], obs := [(i, pOb l q')], next := nx }, (Wk.cut rfl (by simp [hn]) (by simp [wkO, zaa, getK, zab, zac, Ob.under, D.under, zad, zae, hi, hne, zab, zac, zaa, getK]) (by simp [wkU, zan, zaa, getK, D.under, hi, hne, zab, zac, zaa, getK]) (by simp [wkE, zan, zaa, getK, hi, hne, zab, zac, zaa, getK])), by simp [hn], ?_⟩; try simp)
     exact PPost.zax (by simp [PR.bind, *])
    | ok v3 q3 =>
     have hb := fun nx' h => zc0 (hb nx' h) hr3
     obtain ⟨g3a, g3b⟩ := (zbJ hl f).1 _ _ _ _ hr3 g2b
     have hw3 := fun nx' (h : nx ≤ nx') => zeG hl [41] (q := q3) (i := i) (nx := nx') (by omega) g3b
     cases hr4 : zbj l q3 [[41]] with
     | stop pos e =>
      simp only [hr4] at hw3
      (refine RetX.of_bodyW Tryz.func133 rfl (by simp) fun Γ hn hpan => ?_); simp only [entry, ziC, ziN, maC, maN, oA, Tryz.ntmps133]
      repeat' (first
  | ((first | refine zaf ?_ | refine zaj ?_ | fail); simp [hne, hk, del, nAA])
  | (refine ⟨by omega, ?_⟩)
  | ((first | refine zah ?_ | refine zai ?_ | refine zaG ?_ | fail); simp [hne, hk, del, nAA])
  | (refine CallP.fE (hnx) (by first | rfl | fail) (by first | simp [hne, hk, del, nAA] <;> rfl | fail) ?_; (try simp [hne, hk, del, nAA]))
  | (refine CallP.fE (hm1) (by first | rfl | fail) (by first | simp [hne, hk, del, nAA] <;> rfl | fail) ?_; (try simp [hne, hk, del, nAA]))
  | (refine CallP.fE (hm2) (by first | rfl | fail) (by first | simp [hne, hk, del, nAA] <;> rfl | fail) ?_; (try simp [hne, hk, del, nAA]))
  | (refine CallP.ok1 (hh1 _ (by first | omega | simp <;> omega | fail)) (by first | (simp [hne, hk, del, nAA, zaa, getK, zab, zac]; done) | fail) (by rfl) (by rfl) ?_; (try simp [hne, hk, del, nAA]))
  | (refine CallP.ok1 (hh2 _ (by first | omega | simp <;> omega | fail)) (by first | (simp [hne, hk, del, nAA, zaa, getK, zab, zac]; done) | fail) (by rfl) (by rfl) ?_; (try simp [hne, hk, del, nAA]))
  | (refine CallP.ok1 (hw1 _ (by first | omega | simp <;> omega | fail)) (by first | (simp [hne, hk, del, nAA, zaa, getK, zab, zac]; done) | fail) (by rfl) (by rfl) ?_; (try simp [hne, hk, del, nAA]))
  | (refine CallP.ok1 (ha _ (by first | omega | simp <;> omega | fail)) (by first | (simp [hne, hk, del, nAA, zaa, getK, zab, zac]; done) | fail) (by rfl) (by rfl) ?_; (try simp [hne, hk, del, nAA]))
  | (refine CallP.ok1 (hw2 _ (by first | omega | simp <;> omega | fail)) (by first | (simp [hne, hk, del, nAA, zaa, getK, zab, zac]; done) | fail) (by rfl) (by rfl) ?_; (try simp [hne, hk, del, nAA]))
  | (refine CallP.ok1 (hb _ (by first | omega | simp <;> omega | fail)) (by first | (simp [hne, hk, del, nAA, zaa, getK, zab, zac]; done) | fail) (by rfl) (by rfl) ?_; (try simp [hne, hk, del, nAA]))
  | (refine CallP.zem (hw3 _ (by first | omega | simp <;> omega | fail)) (by first | (simp [hne, hk, del, nAA, zaa, getK, zab, zac]; done) | fail) (by rfl) (by first | assumption | (simp; done) | fail) (by rfl) (by simp) ?_; rintro ob' ⟨q', rfl⟩; refine ⟨_, Wk.refl _, ?_⟩)
  | (refine zar (by first | rfl | fail) ?_; simp [hne, hk, del, nAA, frzN, frz1, zaz, zay, St.frz, St.frzS, frzS, fv, zaH, za3, za5, zaE, zat, zal, del, frz, za6])
  | fail)
      (refine hpan _ _ ⟨{ n := _, env := [], obs := [(i, pOb l q')], next := nx }, (Wk.cut rfl (by simp [hn]) (by simp [wkO, zaa, getK, zab, zac, Ob.under, D.under, zad, zae, hi, hne, zab, zac, zaa, getK]) (by simp [wkU, zan, zaa, getK, D.under, hi, hne, zab, zac, zaa, getK]) (by simp [wkE, zan, zaa, getK, hi, hne, zab, zac, zaa, getK])), by simp [hn], ?_⟩; try simp)
      exact PPost.zax (by simp [PR.bind, *])
     | ok v4 q4 =>
      simp only [hr4] at hw3
      obtain ⟨g4a, g4b⟩ := zaO hl _ hr4 g3b
      (refine RetX.of_bodyW Tryz.func133 rfl (by simp) fun Γ hn hpan => ?_); simp only [entry, ziC, ziN, maC, maN, oA, Tryz.ntmps133]
      repeat' (first
  | ((first | refine zaf ?_ | refine zaj ?_ | fail); simp [hne, hk, del, nAA])
  | (refine ⟨by omega, ?_⟩)
  | ((first | refine zah ?_ | refine zai ?_ | refine zaG ?_ | fail); simp [hne, hk, del, nAA])
  | (refine zas ?_; simp only [zap])
  | (refine CallP.fE (hnx) (by first | rfl | fail) (by first | simp [hne, hk, del, nAA] <;> rfl | fail) ?_; (try simp [hne, hk, del, nAA]))
  | (refine CallP.fE (hm1) (by first | rfl | fail) (by first | simp [hne, hk, del, nAA] <;> rfl | fail) ?_; (try simp [hne, hk, del, nAA]))
  | (refine CallP.fE (hm2) (by first | rfl | fail) (by first | simp [hne, hk, del, nAA] <;> rfl | fail) ?_; (try simp [hne, hk, del, nAA]))
  | (refine CallP.ok1 (hh1 _ (by first | omega | simp <;> omega | fail)) (by first | (simp [hne, hk, del, nAA, zaa, getK, zab, zac]; done) | fail) (by rfl) (by rfl) ?_; (try simp [hne, hk, del, nAA]))
  | (refine CallP.ok1 (hh2 _ (by first | omega | simp <;> omega | fail)) (by first | (simp [hne, hk, del, nAA, zaa, getK, zab, zac]; done) | fail) (by rfl) (by rfl) ?_; (try simp [hne, hk, del, nAA]))
  | (refine CallP.ok1 (hw1 _ (by first | omega | simp <;> omega | fail)) (by first | (simp [hne, hk, del, nAA, zaa, getK, zab, zac]; done) | fail) (by rfl) (by rfl) ?_; (try simp [hne, hk, del, nAA]))
  | (refine CallP.ok1 (ha _ (by first | omega | simp <;> omega | fail)) (by first | (simp [hne, hk, del, nAA, zaa, getK, zab, zac]; done) | fail) (by rfl) (by rfl) ?_; (try simp [hne, hk, del, nAA]))
  | (refine CallP.ok1 (hw2 _ (by first | omega | simp <;> omega | fail)) (by first | (simp [hne, hk, del, nAA, zaa, getK, zab, zac]; done) | fail) (by rfl) (by rfl) ?_; (try simp [hne, hk, del, nAA]))
  | (refine CallP.ok1 (hb _ (by first | omega | simp <;> omega | fail)) (by first | (simp [hne, hk, del, nAA, zaa, getK, zab, zac]; done) | fail) (by rfl) (by rfl) ?_; (try simp [hne, hk, del, nAA]))
  | (refine CallP.ok1 (hw3 _ (by first | omega | simp <;> omega | fail)) (by first | (simp [hne, hk, del, nAA, zaa, getK, zab, zac]; done) | fail) (by rfl) (by rfl) ?_; (try simp [hne, hk, del, nAA]))
  | (refine zar (by first | rfl | fail) ?_; simp [hne, hk, del, nAA, frzN, frz1, zaz, zay, St.frz, St.frzS, frzS, fv, zaH, za3, za5, zaE, zat, zal, del, frz, za6])
  | fail)
      (refine EndW.frzN 1 ?_; simp [frzN, frz1, zaz, zay, St.frz, St.frzS, frzS, fv, zaH, za3, za5, zaE, zat, zal, del, frz, za6, hne, nAA])
      refine EndW.norm ?_
      simp [St.norm, zbh, zb3, zcs, zct, hne, nAA]
      (refine EndW.here ?_; (first | (refine EndOK.fin (.inr rfl) ?_) | (refine EndOK.fin (.inl rfl) ?_)); simp [zaM, zag, Tryz.results133, hne, hi]; refine FinOK.cut [(i, pOb l q4)] (nx) (by simp [zaa, getK, zab, zac, Ob.under, D.under, zad, zae, hne, hi] <;> omega) (by simp [D.under]) (by simp [hn]) ?_; try simp)
      exact PPost.zcr (by simp [PR.bind, *]; rfl) (by simp [Exp.row_eq, Exp.op, Exp.n, Exp.unit, Exp.s, Exp.args]) rfl
theorem zkW {l : List Tok} (hl : TokOK l) {f p : Nat} (hE : zhC l f) (hf : 4 * (l.length - p) ≤ f) {t : Tok} (ht : l[p]? = some t) (hk : ¬ t.kind = 2) (h1 : isB l p [116, 114, 117, 101] = false) (h2 : isB l p [102, 97, 108, 115, 101] = false)
  (h3 : isB l p [109, 105, 110] = true) (h4 : isB l p [109, 97, 120] = false) {i nx : Nat} (hi : i < nx) :
  RetX Tryz.prog 133 [.ptr i 0] [(i, pOb l p)] nx (PPost l i nx zeI (zaJ l (f + 1) p)) := by
 have hne := zaB hi
 have hp := (lGE.1 ht).1
 have hnx := zbL l p t ht hl.len
 have hll := hl.len
 have hp2 := za1 hl h3
 rw [zaJ, ht]
 have hh1 := fun nx' (h : nx ≤ nx') => za9 l p [116, 114, 117, 101] i nx' (by omega) hp hl.len
 have hh2 := fun nx' (h : nx ≤ nx') => za9 l p [102, 97, 108, 115, 101] i nx' (by omega) hp hl.len
 have hm1 := zdY l p [109, 105, 110] hp hl.len
 have hm2 := zdY l p [109, 97, 120] hp hl.len
 simp only [hk, h1, h2, h3, h4, if_false, if_true, Bool.false_eq_true, or_true, true_or] at hh1 hh2 hm1 hm2 ⊢
 have hw1 := fun nx' (h : nx ≤ nx') => zeG hl [40] (q := (p + 1)) (i := i) (nx := nx') (by omega) hp2
 cases hr0 : zbj l (p + 1) [[40]] with
 | stop pos e =>
  simp only [hr0] at hw1
  (refine RetX.of_bodyW Tryz.func133 rfl (by simp) fun Γ hn hpan => ?_); simp only [entry, ziC, ziN, maC, maN, oA, Tryz.ntmps133]
  repeat' (first
  | ((first | refine zaf ?_ | refine zaj ?_ | fail); simp [hne, hk, del, nAA])
  | (refine ⟨by omega, ?_⟩)
  | ((first | refine zah ?_ | refine zai ?_ | fail); simp [hne, hk, del, nAA])
  | (refine zaq ?_; simp only [zap])
  | (refine CallP.fE (hnx) (by first | rfl | fail) (by first | simp [hne, hk, del, nAA] <;> rfl | fail) ?_; (try simp [hne, hk, del, nAA]))
  | (refine CallP.fE (hm1) (by first | rfl | fail) (by first | simp [hne, hk, del, nAA] <;> rfl | fail) ?_; (try simp [hne, hk, del, nAA]))
  | (refine CallP.fE (hm2) (by first | rfl | fail) (by first | simp [hne, hk, del, nAA] <;> rfl | fail) ?_; (try simp [hne, hk, del, nAA]))
  | (refine CallP.ok1 (hh1 _ (by first | omega | simp <;> omega | fail)) (by first | (simp [hne, hk, del, nAA, zaa, getK, zab, zac]; done) | fail) (by rfl) (by rfl) ?_; (try simp [hne, hk, del, nAA]))
  | (refine CallP.ok1 (hh2 _ (by first | omega | simp <;> omega | fail)) (by first | (simp [hne, hk, del, nAA, zaa, getK, zab, zac]; done) | fail) (by rfl) (by rfl) ?_; (try simp [hne, hk, del, nAA]))
  | (refine CallP.zem (hw1 _ (by first | omega | simp <;> omega | fail)) (by first | (simp [hne, hk, del, nAA, zaa, getK, zab, zac]; done) | fail) (by rfl) (by first | assumption | (simp; done) | fail) (by rfl) (by simp) ?_; rintro ob' ⟨q', rfl⟩; refine ⟨_, Wk.refl _, ?_⟩)
  | (refine zar (by first | rfl | fail) ?_; simp [hne, hk, del, nAA, frzN, frz1, zaz, zay, St.frz, St.frzS, frzS, fv, zaH, za3, za5, zaE, zat, zal, del, frz, za6])
  | fail)
  (refine hpan _ _ ⟨{ n := _, env := [], obs := [(i, pOb l q')], next := nx }, (Wk.cut rfl (by simp [hn]) (by simp [wkO, zaa, getK, zab, zac, Ob.under, D.under, zad, zae, hi, hne, zab, zac, zaa, getK]) (by simp [wkU, zan, zaa, getK, D.under, hi, hne, zab, zac, zaa, getK]) (by simp [wkE, zan, zaa, getK, hi, hne, zab, zac, zaa, getK])), by simp [hn], ?_⟩; try simp)
  exact PPost.zax (by simp [PR.bind, *])
 | ok v0 q0 =>
  simp only [hr0] at hw1
  obtain ⟨g0a, g0b⟩ := zaO hl _ hr0 hp2
  have ha := fun nx' (h : nx ≤ nx') => hE q0 0 i nx' (by omega) g0b (by omega) (by omega) (by omega)
  cases hr1 : zcC l f q0 0 with
  | stop pos e =>
   simp only [hr1] at ha
   (refine RetX.of_bodyW Tryz.func133 rfl (by simp) fun Γ hn hpan => ?_); simp only [entry, ziC, ziN, maC, maN, oA, Tryz.ntmps133]
   repeat' (first
  | ((first | refine zaf ?_ | refine zaj ?_ | fail); simp [hne, hk, del, nAA])
  | (refine ⟨by omega, ?_⟩)
  | ((first | refine zah ?_ | refine zai ?_ | fail); simp [hne, hk, del, nAA])
  | (refine zaq ?_; simp only [zap])
  | (refine CallP.fE (hnx) (by first | rfl | fail) (by first | simp [hne, hk, del, nAA] <;> rfl | fail) ?_; (try simp [hne, hk, del, nAA]))
  | (refine CallP.fE (hm1) (by first | rfl | fail) (by first | simp [hne, hk, del, nAA] <;> rfl | fail) ?_; (try simp [hne, hk, del, nAA]))
  | (refine CallP.fE (hm2) (by first | rfl | fail) (by first | simp [hne, hk, del, nAA] <;> rfl | fail) ?_; (try simp [hne, hk, del, nAA]))
  | (refine CallP.ok1 (hh1 _ (by first | omega | simp <;> omega | fail)) (by first | (simp [hne, hk, del, nAA, zaa, getK, zab, zac]; done) | fail) (by rfl) (by rfl) ?_; (try simp [hne, hk, del, nAA]))
  | (refine CallP.ok1 (hh2 _ (by first | omega | simp <;> omega | fail)) (by first | (simp [hne, hk, del, nAA, zaa, getK, zab, zac]; done) | fail) (by rfl) (by rfl) ?_; (try simp [hne, hk, del, nAA]))
  | (refine CallP.ok1 (hw1 _ (by first | omega | simp <;> omega | fail)) (by first | (simp [hne, hk, del, nAA, zaa, getK, zab, zac]; done) | fail) (by rfl) (by rfl) ?_; (try simp [hne, hk, del, nAA]))
  | (refine CallP.zem (ha _ (by first | omega | simp <;> omega | fail)) (by first | (simp [hne, hk, del, nAA, zaa, getK, zab, zac]; done) | fail) (by rfl) (by first | assumption | (simp; done) | fail) (by rfl) (by simp) ?_; rintro ob' ⟨q', rfl⟩; refine ⟨_, Wk.refl _, ?_⟩)
  | (refine zar (by first | rfl | fail) ?_; simp [hne, hk, del, nAA, frzN, frz1, zaz, zay, St.frz, St.frzS, frzS, fv, zaH, za3, za5, zaE, zat, zal, del, frz, za6])
  | fail)
   (refine hpan _ _ ⟨{ n := _, env := [], obs := [(i, pOb l q')], next := nx }, (Wk.cut rfl (by simp [hn]) (by simp [wkO, zaa, getK, zab, zac, Ob.under, D.under, zad, zae, hi, hne, zab, zac, zaa, getK]) (by simp [wkU, zan, zaa, getK, D.under, hi, hne, zab, zac, zaa, getK]) (by simp [wkE, zan, zaa, getK, hi, hne, zab, zac, zaa, getK])), by simp [hn], ?_⟩; try simp)
   exact PPost.zax (by simp [PR.bind, *])
  | ok v1 q1 =>
   have ha := fun nx' h => zc0 (ha nx' h) hr1
   obtain ⟨g1a, g1b⟩ := (zbJ hl f).1 _ _ _ _ hr1 g0b
   have hw2 := fun nx' (h : nx ≤ nx') => zeG hl [44] (q := q1) (i := i) (nx := nx') (by omega) g1b
   cases hr2 : zbj l q1 [[44]] with
   | stop pos e =>
    simp only [hr2] at hw2
    (refine RetX.of_bodyW Tryz.func133 rfl (by simp) fun Γ hn hpan => ?_); simp only [entry, ziC, ziN, maC, maN, oA, Tryz.ntmps133]
    repeat' (first
  | ((first | refine zaf ?_ | refine zaj ?_ | fail); simp [hne, hk, del, nAA])
  | (refine ⟨by omega, ?_⟩)
  | ((first | refine zah ?_ | refine zai ?_ | fail); simp [hne, hk, del, nAA])
  | (refine zaq ?_; simp only [zap])
  | (refine CallP.fE (hnx) (by first | rfl | fail) (by first | simp [hne, hk, del, nAA] <;> rfl | fail) ?_; (try simp [hne, hk, del, nAA]))
  | (refine CallP.fE (hm1) (by first | rfl | fail) (by first | simp [hne, hk, del, nAA] <;> rfl | fail) ?_; (try simp [hne, hk, del, nAA]))
  | (refine CallP.fE (hm2) (by first | rfl | fail) (by first | simp [hne, hk, del, nAA] <;> rfl | fail) ?_; (try simp [hne, hk, del, nAA]))
  | (refine CallP.ok1 (hh1 _ (by first | omega | simp <;> omega | fail)) (by first | (simp [hne, hk, del, nAA, zaa, getK, zab, zac]; done) | fail) (by rfl) (by rfl) ?_; (try simp [hne, hk, del, nAA]))
  | (refine CallP.ok1 (hh2 _ (by first | omega | simp <;> omega | fail)) (by first | (simp [hne, hk, del, nAA, zaa, getK, zab, zac]; done) | fail) (by rfl) (by rfl) ?_; (try simp [hne, hk, del, nAA]))
  | (refine CallP.ok1 (hw1 _ (by first | omega | simp <;> omega | fail)) (by first | (simp [hne, hk, del, nAA, zaa, getK, zab, zac]; done) | fail) (by rfl) (by rfl) ?_; (try simp [hne, hk, del, nAA]))
  | (refine CallP.ok1 (ha _ (by first | omega | simp <;> omega | fail)) (by first | (simp [hne, hk, del, nAA, zaa, getK, zab, zac]; done) | fail) (by rfl) (by rfl) ?_; (try simp [hne, hk, del, nAA]))
  | (refine CallP.zem (hw2 _ (by first | omega | simp <;> omega | fail)) (by first | (simp [hne, hk, del, nAA, zaa, getK, zab, zac]; done) | fail) (by rfl) (by first | assumption | (simp; done) | fail) (by rfl) (by simp) ?_; rintro ob' ⟨q', rfl⟩; refine ⟨_, Wk.refl _, ?_⟩)
  | (refine zar (by first | rfl | fail) ?_; simp [hne, hk, del, nAA, frzN, frz1, zaz, zay, St.frz, St.frzS, frzS, fv, zaH, za3, za5, zaE, zat, zal, del, frz, za6])
  | fail)
    (refine hpan _ _ ⟨{ n := _, env := [], obs := [(i, pOb l q')], next := nx }, (Wk.cut rfl (by simp [hn]) (by simp [wkO, zaa, getK, zab, zac, Ob.under, D.under, zad, zae, hi, hne, zab, zac, zaa, getK]) (by simp [wkU, zan, zaa, getK, D.under, hi, hne, zab, zac, zaa, getK]) (by simp [wkE, zan, zaa, getK, hi, hne, zab, zac, zaa, getK])), by simp [hn], ?_⟩; try simp)
    exact PPost.zax (by simp [PR.bind, *])
   | ok v2 q2 =>
    simp only [hr2] at hw2
    obtain ⟨g2a, g2b⟩ := zaO hl _ hr2 g1b
    have hb := fun nx' (h : nx ≤ nx') => hE q2 0 i nx' (by omega) g2b (by omega) (by omega) (by omega)
    cases hr3 : zcC l f q2 0 with
    | stop pos e =>
     simp only [hr3] at hb
     (refine RetX.of_bodyW Tryz.func133 rfl (by simp) fun Γ hn hpan => ?_); simp only [entry, ziC, ziN, maC, maN, oA, Tryz.ntmps133]
     repeat' (first
  | ((first | refine zaf ?_ | refine zaj ?_ | fail); simp [hne, hk, del, nAA])
  | (refine ⟨by omega, ?_⟩)
  | ((first | refine zah ?_ | refine zai ?_ | fail); simp [hne, hk, del, nAA])
  | (refine zaq ?_; simp only [zap])
  | (refine CallP.fE (hnx) (by first | rfl | fail) (by first | simp [hne, hk, del, nAA] <;> rfl | fail) ?_; (try simp [hne, hk, del, nAA]))
  | (refine CallP.fE (hm1) (by first | rfl | fail) (by first | simp [hne, hk, del, nAA] <;> rfl | fail) ?_; (try simp [hne, hk, del, nAA]))
  | (refine CallP.fE (hm2) (by first | rfl | fail) (by first | simp [hne, hk, del, nAA] <;> rfl | fail) ?_; (try simp [hne, hk, del, nAA]))
  | (refine CallP.ok1 (hh1 _ (by first | omega | simp <;> omega | fail)) (by first | (simp [hne, hk, del, nAA, zaa, getK, zab, zac]; done) | fail) (by rfl) (by rfl) ?_; (try simp [hne, hk, del, nAA]))
  | (refine CallP.ok1 (hh2 _ (by first | omega | simp <;> omega | fail)) (by first | (simp [hne, hk, del, nAA, zaa, getK, zab, zac]; done) | fail) (by rfl) (by rfl) ?_; (try simp [hne, hk, del, nAA]))
  | (refine CallP.ok1 (hw1 _ (by first | omega | simp <;> omega | fail)) (by first | (simp [hne, hk, del, nAA, zaa, getK, zab, zac]; done) | fail) (by rfl) (by rfl) ?_; (try simp [hne, hk, del, nAA]))
  | (refine CallP.ok1 (ha _ (by first | omega | simp <;> omega | fail)) (by first | (simp [hne, hk, del, nAA, zaa, getK, zab, zac]; done) | fail) (by rfl) (by rfl) ?_; (try simp [hne, hk, del, nAA]))
  | (refine CallP.ok1 (hw2 _ (by first | omega | simp <;> omega | fail)) (by first | (simp [hne, hk, del, nAA, zaa, getK, zab, zac]; done) | fail) (by rfl) (by rfl) ?_; (try simp [hne, hk, del, nAA]))
  | (refine CallP.zem (hb _ (by first | omega | simp <;> omega | fail)) (by first | (simp [hne, hk, del, nAA, zaa, getK, zab, zac]; done) | fail) (by rfl) (by first | assumption | (simp; done) | fail) (by rfl) (by simp) ?_; rintro ob' ⟨q', rfl⟩; refine ⟨_, Wk.refl _, ?_⟩)
  | (refine zar (by first | rfl | fail) ?_; simp [hne, hk, del, nAA, frzN, frz1, zaz, zay, St.frz, St.frzS, frzS, fv, zaH, za3, za5, zaE, zat, zal, del, frz, za6])
  | fail)
     (refine hpan _ _ ⟨{ n := _, env := [], obs := [(i, pOb l q')], next := nx }, (Wk.cut rfl (by simp [hn]) (by simp [wkO, zaa, getK, zab, zac, Ob.under, D.under, zad, zae, hi, hne, zab, zac, zaa, getK]) (by simp [wkU, zan, zaa, getK, D.under, hi, hne, zab, zac, zaa, getK]) (by simp [wkE, zan, zaa, getK, hi, hne, zab, zac, zaa, getK])), by simp [hn], ?_⟩; try simp)
     exact PPost.zax (by simp [PR.bind, *])
    | ok v3 q3 =>
     have hb := fun nx' h => zc0 (hb nx' h) hr3
     obtain ⟨g3a, g3b⟩ := (zbJ hl f).1 _ _ _ _ hr3 g2b
     have hw3 := fun nx' (h : nx ≤ nx') => zeG hl [41] (q := q3) (i := i) (nx := nx') (by omega) g3b
     cases hr4 : zbj l q3 [[41]] with
     | stop pos e =>
      simp only [hr4] at hw3
      (refine RetX.of_bodyW Tryz.func133 rfl (by simp) fun Γ hn hpan => ?_); simp only [entry, ziC, ziN, maC, maN, oA, Tryz.ntmps133]
      repeat' (first
  | ((first | refine zaf ?_ | refine zaj ?_ | fail); simp [hne, hk, del, nAA])
  | (refine ⟨by omega, ?_⟩)
  | ((first | refine zah ?_ | refine zai ?_ | fail); simp [hne, hk, del, nAA])
  | (refine zaq ?_; simp only [zap])
  | (refine CallP.fE (hnx) (by first | rfl | fail) (by first | simp [hne, hk, del, nAA] <;> rfl | fail) ?_; (try simp [hne, hk, del, nAA]))
  | (refine CallP.fE (hm1) (by first | rfl | fail) (by first | simp [hne, hk, del, nAA] <;> rfl | fail) ?_; (try simp [hne, hk, del, nAA]))
  | (refine CallP.fE (hm2) (by first | rfl | fail) (by first | simp [hne, hk, del, nAA] <;> rfl | fail) ?_; (try simp [hne, hk, del, nAA]))
  | (refine CallP.ok1 (hh1 _ (by first | omega | simp <;> omega | fail)) (by first | (simp [hne, hk, del, nAA, zaa, getK, zab, zac]; done) | fail) (by rfl) (by rfl) ?_; (try simp [hne, hk, del, nAA]))
  | (refine CallP.ok1 (hh2 _ (by first | omega | simp <;> omega | fail)) (by first | (simp [hne, hk, del, nAA, zaa, getK, zab, zac]; done) | fail) (by rfl) (by rfl) ?_; (try simp [hne, hk, del, nAA]))
  | (refine CallP.ok1 (hw1 _ (by first | omega | simp <;> omega | fail)) (by first | (simp [hne, hk, del, nAA, zaa, getK, zab, zac]; done) | fail) (by rfl) (by rfl) ?_; (try simp [hne, hk, del, nAA]))
  | (refine CallP.ok1 (ha _ (by first | omega | simp <;> omega | fail)) (by first | (simp [hne, hk, del, nAA, zaa, getK, zab, zac]; done) | fail) (by rfl) (by rfl) ?_; (try simp [hne, hk, del, nAA]))
  | (refine CallP.ok1 (hw2 _ (by first | omega | simp <;> omega | fail)) (by first | (simp [hne, hk, del, nAA, zaa, getK, zab, zac]; done) | fail) (by rfl) (by rfl) ?_; (try simp [hne, hk, del, nAA]))
  | (refine CallP.ok1 (hb _ (by first | omega | simp <;> omega | fail)) (by first | (simp [hne, hk, del, nAA, zaa, getK, zab, zac]; done) | fail) (by rfl) (by rfl) ?_; (try simp [hne, hk, del, nAA]))
  | (refine CallP.zem (hw3 _ (by first | omega | simp <;> omega | fail)) (by first | (simp [hne, hk, del, nAA, zaa, getK, zab, zac]; done) | fail) (by rfl) (by first | assumption | (simp; done) | fail) (by rfl) (by simp) ?_; rintro ob' ⟨q', rfl⟩; refine ⟨_, Wk.refl _, ?_⟩)
  | (refine zar (by first | rfl | fail) ?_; simp [hne, hk, del, nAA, frzN, frz1, zaz, zay, St.frz, St.frzS, frzS, fv, zaH, za3, za5, zaE, zat, zal, del, frz, za6])
  | fail)
      (refine hpan _ _ ⟨{ n := _, env := [], obs := [(i, pOb l q')], next := nx }, (Wk.cut rfl (by simp [hn]) (by simp [wkO, zaa, getK, zab, zac, Ob.under, D.under, zad, zae, hi, hne, zab, zac, zaa, getK]) (by simp [wkU, zan, zaa, getK, D.under, hi, hne, zab, zac, zaa, getK]) (by simp [wkE, zan, zaa, getK, hi, hne, zab, zac, zaa, getK])), by simp [hn], ?_⟩; try simp)
      exact PPost.zax (by simp [PR.bind, *])
     | ok v4 q4 =>
      simp only [hr4] at hw3
      obtain ⟨g4a, g4b⟩ := zaO hl _ hr4 g3b
      (refine RetX.of_bodyW Tryz.func133 rfl (by simp) fun Γ hn hpan => ?_); simp only [entry, ziC, ziN, maC, maN, oA, Tryz.ntmps133]
      repeat' (first
  | ((first | refine zaf ?_ | refine zaj ?_ | fail); simp [hne, hk, del, nAA])
  | (refine ⟨by omega, ?_⟩)
  | ((first | refine zah ?_ | refine zai ?_ | fail); simp [hne, hk, del, nAA])
  | ((first | refine zas ?_ | refine zaq ?_ | fail); simp only [zap])
  | (refine CallP.fE (hnx) (by first | rfl | fail) (by first | simp [hne, hk, del, nAA] <;> rfl | fail) ?_; (try simp [hne, hk, del, nAA]))
  | (refine CallP.fE (hm1) (by first | rfl | fail) (by first | simp [hne, hk, del, nAA] <;> rfl | fail) ?_; (try simp [hne, hk, del, nAA]))
  | (refine CallP.fE (hm2) (by first | rfl | fail) (by first | simp [hne, hk, del, nAA] <;> rfl | fail) ?_; (try simp [hne, hk, del, nAA]))
  | (refine CallP.ok1 (hh1 _ (by first | omega | simp <;> omega | fail)) (by first | (simp [hne, hk, del, nAA, zaa, getK, zab, zac]; done) | fail) (by rfl) (by rfl) ?_; (try simp [hne, hk, del, nAA]))
  | (refine CallP.ok1 (hh2 _ (by first | omega | simp <;> omega | fail)) (by first | (simp [hne, hk, del, nAA, zaa, getK, zab, zac]; done) | fail) (by rfl) (by rfl) ?_; (try simp [hne, hk, del, nAA]))
  | (refine CallP.ok1 (hw1 _ (by first | omega | simp <;> omega | fail)) (by first | (simp [hne, hk, del, nAA, zaa, getK, zab, zac]; done) | fail) (by rfl) (by rfl) ?_; (try simp [hne, hk, del, nAA]))
  | (refine CallP.ok1 (ha _ (by first | omega | simp <;> omega | fail)) (by first | (simp [hne, hk, del, nAA, zaa, getK, zab, zac]; done) | fail) (by rfl) (by rfl) ?_; (try simp [hne, hk, del, nAA]))
  | (refine CallP.ok1 (hw2 _ (by first | omega | simp <;> omega | fail)) (by first | (simp [hne, hk, del, nAA, zaa, getK, zab, zac]; done) | fail) (by rfl) (by rfl) ?_; (try simp [hne, hk, del, nAA]))
  | (refine CallP.ok1 (hb _ (by first | omega | simp <;> omega | fail)) (by first | (simp [hne, hk, del, nAA, zaa, getK, zab, zac]; done) | fail) (by rfl) (by rfl) ?_; (try simp [hne, hk, del, nAA]))
  | (refine CallP.ok1 (hw3 _ (by first | omega | simp <;> omega | fail)) (by first | (simp [hne, hk, del, nAA, zaa, getK, zab, zac]; done) | fail) (by rfl) (by rfl) ?_; (try simp [hne, hk, del, nAA]))
  | (refine zar (by first | rfl | fail) ?_; simp [hne, hk, del, nAA, frzN, frz1, zaz, zay, St.frz, St.frzS, frzS, fv, zaH, za3, za5, zaE, zat, zal, del, frz, za6])
  | fail)
      (refine EndW.frzN 1 ?_; simp [frzN, frz1, zaz, zay, St.frz, St.frzS, frzS, fv, zaH, za3, za5, zaE, zat, zal, del, frz, za6, hne, nAA])
      refine EndW.norm ?_
      simp [St.norm, zbh, zb3, zcs, zct, hne, nAA]
      (refine EndW.here ?_; (first | (refine EndOK.fin (.inr rfl) ?_) | (refine EndOK.fin (.inl rfl) ?_)); simp [zaM, zag, Tryz.results133, hne, hi]; refine FinOK.cut [(i, pOb l q4)] (nx) (by simp [zaa, getK, zab, zac, Ob.under, D.under, zad, zae, hne, hi] <;> omega) (by simp [D.under]) (by simp [hn]) ?_; try simp)
      exact PPost.zcr (by simp [PR.bind, *]; rfl) (by simp [Exp.row_eq, Exp.op, Exp.n, Exp.unit, Exp.s, Exp.args]) rfl
theorem zjI {l : List Tok} (hl : TokOK l) {f p : Nat} {t : Tok} (ht : l[p]? = some t) (hk : ¬ t.kind = 2) (h1 : isB l p [116, 114, 117, 101] = false) (h2 : isB l p [102, 97, 108, 115, 101] = false)
  (h3 : isB l p [109, 105, 110] = false) (h4 : isB l p [109, 97, 120] = false) (h5 : isB l p [40] = false) {i nx : Nat} (hi : i < nx) :
  RetX Tryz.prog 133 [.ptr i 0] [(i, pOb l p)] nx (PPost l i nx zeI (zaJ l (f + 1) p)) := by
 have hne := zaB hi
 have hp := (lGE.1 ht).1
 have hnx := zbL l p t ht hl.len
 have hll := hl.len
 rw [zaJ, ht]
 have hh1 := fun nx' (h : nx ≤ nx') => za9 l p [116, 114, 117, 101] i nx' (by omega) hp hl.len
 have hh2 := fun nx' (h : nx ≤ nx') => za9 l p [102, 97, 108, 115, 101] i nx' (by omega) hp hl.len
 have hm1 := zdY l p [109, 105, 110] hp hl.len
 have hm2 := zdY l p [109, 97, 120] hp hl.len
 have hh3 := fun nx' (h : nx ≤ nx') => za9 l p [40] i nx' (by omega) hp hl.len
 have hnm := ze0 t.text
 have hc1 := fun nx' (h : nx ≤ nx') => zd3 l p 12 i nx' (by omega)
 have hc2 := fun nx' (h : nx ≤ nx') => zcS l p t 12 i nx' (by omega) ht hl.len
 simp only [hk, h1, h2, h3, h4, h5, if_false, if_true, Bool.false_eq_true, or_self] at hh1 hh2 hm1 hm2 hh3 ⊢
 by_cases hw : t.kind = 1
 ·cases hb : zbr t.text with
  | true =>
   simp only [hb, hw, and_self, if_true] at hnm ⊢
   (refine RetX.of_bodyW Tryz.func133 rfl (by simp) fun Γ hn hpan => ?_); simp only [entry, ziC, ziN, maC, maN, oA, Tryz.ntmps133]
   repeat' (first
  | ((first | refine zaf ?_ | refine zaj ?_ | fail); simp [hne, hk, hw, del, nAA])
  | (refine ⟨by omega, ?_⟩)
  | ((first | refine zah ?_ | refine zai ?_ | fail); simp [hne, hk, hw, del, nAA])
  | ((first | refine zas ?_ | refine zaq ?_ | fail); simp only [zap])
  | (refine CallP.fE (hnx) (by first | rfl | fail) (by first | simp [hne, hk, hw, del, nAA] <;> rfl | fail) ?_; (try simp [hne, hk, hw, del, nAA]))
  | (refine CallP.fE (hm1) (by first | rfl | fail) (by first | simp [hne, hk, hw, del, nAA] <;> rfl | fail) ?_; (try simp [hne, hk, hw, del, nAA]))
  | (refine CallP.fE (hm2) (by first | rfl | fail) (by first | simp [hne, hk, hw, del, nAA] <;> rfl | fail) ?_; (try simp [hne, hk, hw, del, nAA]))
  | (refine CallP.fE (hnm) (by first | rfl | fail) (by first | simp [hne, hk, hw, del, nAA] <;> rfl | fail) ?_; (try simp [hne, hk, hw, del, nAA]))
  | (refine CallP.ok1 (hh1 _ (by first | omega | simp <;> omega | fail)) (by first | (simp [hne, hk, hw, del, nAA, zaa, getK, zab, zac]; done) | fail) (by rfl) (by rfl) ?_; (try simp [hne, hk, hw, del, nAA]))
  | (refine CallP.ok1 (hh2 _ (by first | omega | simp <;> omega | fail)) (by first | (simp [hne, hk, hw, del, nAA, zaa, getK, zab, zac]; done) | fail) (by rfl) (by rfl) ?_; (try simp [hne, hk, hw, del, nAA]))
  | (refine CallP.ok1 (hh3 _ (by first | omega | simp <;> omega | fail)) (by first | (simp [hne, hk, hw, del, nAA, zaa, getK, zab, zac]; done) | fail) (by rfl) (by rfl) ?_; (try simp [hne, hk, hw, del, nAA]))
  | (refine CallP.ok1 (hc1 _ (by first | omega | simp <;> omega | fail)) (by first | (simp [hne, hk, hw, del, nAA, zaa, getK, zab, zac]; done) | fail) (by rfl) (by rfl) ?_; (try simp [hne, hk, hw, del, nAA]))
  | fail)
   refine EndW.norm ?_
   simp [St.norm, zbh, zb3, zcs, zct, hne]
   (refine EndW.here ?_; (first | (refine EndOK.fin (.inr rfl) ?_) | (refine EndOK.fin (.inl rfl) ?_)); simp [zaM, zag, Tryz.results133, hne, hi]; refine FinOK.cut [(i, pOb l (p + 1))] (nx) (by simp [zaa, getK, zab, zac, Ob.under, D.under, zad, zae, hne, hi] <;> omega) (by simp [D.under]) (by simp [hn]) ?_; try simp)
   exact PPost.zcr rfl (by simp [Exp.row]) rfl
  | false =>
   simp only [hb, hw, Bool.false_eq_true, and_false, if_false] at hnm ⊢
   (refine RetX.of_bodyW Tryz.func133 rfl (by simp) fun Γ hn hpan => ?_); simp only [entry, ziC, ziN, maC, maN, oA, Tryz.ntmps133]
   repeat' (first
  | ((first | refine zaf ?_ | refine zaj ?_ | refine zah ?_ | refine zai ?_ | fail); simp [hne, hk, hw, del, nAA])
  | (refine zaq ?_; simp only [zap])
  | (refine CallP.fE (hnx) (by first | rfl | fail) (by first | simp [hne, hk, hw, del, nAA] <;> rfl | fail) ?_; (try simp [hne, hk, hw, del, nAA]))
  | (refine CallP.fE (hm1) (by first | rfl | fail) (by first | simp [hne, hk, hw, del, nAA] <;> rfl | fail) ?_; (try simp [hne, hk, hw, del, nAA]))
  | (refine CallP.fE (hm2) (by first | rfl | fail) (by first | simp [hne, hk, hw, del, nAA] <;> rfl | fail) ?_; (try simp [hne, hk, hw, del, nAA]))
  | (refine CallP.fE (hnm) (by first | rfl | fail) (by first | simp [hne, hk, hw, del, nAA] <;> rfl | fail) ?_; (try simp [hne, hk, hw, del, nAA]))
  | (refine CallP.ok1 (hh1 _ (by first | omega | simp <;> omega | fail)) (by first | (simp [hne, hk, hw, del, nAA, zaa, getK, zab, zac]; done) | fail) (by rfl) (by rfl) ?_; (try simp [hne, hk, hw, del, nAA]))
  | (refine CallP.ok1 (hh2 _ (by first | omega | simp <;> omega | fail)) (by first | (simp [hne, hk, hw, del, nAA, zaa, getK, zab, zac]; done) | fail) (by rfl) (by rfl) ?_; (try simp [hne, hk, hw, del, nAA]))
  | (refine CallP.ok1 (hh3 _ (by first | omega | simp <;> omega | fail)) (by first | (simp [hne, hk, hw, del, nAA, zaa, getK, zab, zac]; done) | fail) (by rfl) (by rfl) ?_; (try simp [hne, hk, hw, del, nAA]))
  | (refine CallP.zem (hc2 _ (by first | omega | simp <;> omega | fail)) (by first | (simp [hne, hk, hw, del, nAA, zaa, getK, zab, zac]; done) | fail) (by rfl) (by first | assumption | (simp; done) | fail) (by rfl) (by simp) ?_; rintro ob' ⟨q', rfl⟩; refine ⟨_, Wk.refl _, ?_⟩)
  | fail)
   (refine hpan _ _ ⟨{ n := _, env := [], obs := [(i, pOb l q')], next := nx }, (Wk.cut rfl (by simp [hn]) (by simp [wkO, zaa, getK, zab, zac, Ob.under, D.under, zad, zae, hi, hne, zab, zac, zaa, getK]) (by simp [wkU, zan, zaa, getK, D.under, hi, hne, zab, zac, zaa, getK]) (by simp [wkE, zan, zaa, getK, hi, hne, zab, zac, zaa, getK])), by simp [hn], ?_⟩; try simp)
   exact PPost.zax rfl
 ·simp only [hw, false_and, if_false]
  (refine RetX.of_bodyW Tryz.func133 rfl (by simp) fun Γ hn hpan => ?_); simp only [entry, ziC, ziN, maC, maN, oA, Tryz.ntmps133]
  repeat' (first
  | ((first | refine zaf ?_ | refine zaj ?_ | refine zah ?_ | refine zai ?_ | fail); simp [hne, hk, hw, del, nAA])
  | (refine zaq ?_; simp only [zap])
  | (refine CallP.fE (hnx) (by first | rfl | fail) (by first | simp [hne, hk, hw, del, nAA] <;> rfl | fail) ?_; (try simp [hne, hk, hw, del, nAA]))
  | (refine CallP.fE (hm1) (by first | rfl | fail) (by first | simp [hne, hk, hw, del, nAA] <;> rfl | fail) ?_; (try simp [hne, hk, hw, del, nAA]))
  | (refine CallP.fE (hm2) (by first | rfl | fail) (by first | simp [hne, hk, hw, del, nAA] <;> rfl | fail) ?_; (try simp [hne, hk, hw, del, nAA]))
  | (refine CallP.ok1 (hh1 _ (by first | omega | simp <;> omega | fail)) (by first | (simp [hne, hk, hw, del, nAA, zaa, getK, zab, zac]; done) | fail) (by rfl) (by rfl) ?_; (try simp [hne, hk, hw, del, nAA]))
  | (refine CallP.ok1 (hh2 _ (by first | omega | simp <;> omega | fail)) (by first | (simp [hne, hk, hw, del, nAA, zaa, getK, zab, zac]; done) | fail) (by rfl) (by rfl) ?_; (try simp [hne, hk, hw, del, nAA]))
  | (refine CallP.ok1 (hh3 _ (by first | omega | simp <;> omega | fail)) (by first | (simp [hne, hk, hw, del, nAA, zaa, getK, zab, zac]; done) | fail) (by rfl) (by rfl) ?_; (try simp [hne, hk, hw, del, nAA]))
  | (refine CallP.zem (hc2 _ (by first | omega | simp <;> omega | fail)) (by first | (simp [hne, hk, hw, del, nAA, zaa, getK, zab, zac]; done) | fail) (by rfl) (by first | assumption | (simp; done) | fail) (by rfl) (by simp) ?_; rintro ob' ⟨q', rfl⟩; refine ⟨_, Wk.refl _, ?_⟩)
  | fail)
  (refine hpan _ _ ⟨{ n := _, env := [], obs := [(i, pOb l q')], next := nx }, (Wk.cut rfl (by simp [hn]) (by simp [wkO, zaa, getK, zab, zac, Ob.under, D.under, zad, zae, hi, hne, zab, zac, zaa, getK]) (by simp [wkU, zan, zaa, getK, D.under, hi, hne, zab, zac, zaa, getK]) (by simp [wkE, zan, zaa, getK, hi, hne, zab, zac, zaa, getK])), by simp [hn], ?_⟩; try simp)
  exact PPost.zax rfl
theorem zl3 {l : List Tok} {p : Nat} {w : List UInt8} {t : Tok} (ht : l[p]? = some t) (h : isB l p w = true) : t.text = w := by
 unfold isB at h
 rw [ht] at h
 simp only [Bool.and_eq_true, decide_eq_true_eq] at h
 exact h.2
theorem zjH {l : List Tok} (hl : TokOK l) {f : Nat} (hE : zhC l f) : zip l (f + 1) := by
 intro p i nx hi hp hf
 obtain ⟨t, ht⟩ : ∃ t, l[p]? = some t := ⟨_, List.getElem?_eq_getElem hp⟩
 by_cases hk : t.kind = 2
 ·exact zkV hl ht hk hi
 cases h1 : isB l p [116, 114, 117, 101] with
 | true => exact zjG hl ht hk h1 hi
 | false =>
 cases h2 : isB l p [102, 97, 108, 115, 101] with
 | true => exact ziE hl ht hk h1 h2 hi
 | false =>
 cases h3 : isB l p [109, 105, 110] with
 | true =>
  cases h4 : isB l p [109, 97, 120] with
  | true => exact absurd ((zl3 ht h3).symm.trans (zl3 ht h4)) (by decide)
  | false => exact zkW hl hE (by omega) ht hk h1 h2 h3 h4 hi
 | false =>
 cases h4 : isB l p [109, 97, 120] with
 | true => exact zkX hl hE (by omega) ht hk h1 h2 h3 h4 hi
 | false =>
 cases h5 : isB l p [40] with
 | true => exact ziD hl hE (by omega) ht hk h1 h2 h3 h4 h5 hi
 | false => exact zjI hl ht hk h1 h2 h3 h4 h5 hi
theorem znQ {l : List Tok} (hl : TokOK l) {f p : Nat} {form : Int} (hE : zhC l f) (hp : p < l.length) (hf : 4 * (l.length - p) + 1 ≤ f)
  (hf0 : form = 0) (h1 : isB l p [105, 102] = true) {i nx : Nat} (hi : i < nx) :
  RetX Tryz.prog 95 [.ptr i 0, ziU form] [(i, pOb l p)] nx (PPost l i nx zjU (zaV l (f + 1) p form)) := by
 have hne := zaB hi
 have hll := hl.len
 rw [zaV]
 have hp2 := za1 hl h1
 subst hf0
 have hf0 : (0 : Int) = 0 := rfl
 have hf3 : (0 : Int) ≤ 3 := by omega
 have hh1 := fun nx' (h : nx ≤ nx') => za9 l p [105, 102] i nx' (by omega) hp hl.len
 simp only [h1, if_true] at hh1
 rw [if_pos ⟨rfl, h1⟩]
 have ha := fun nx' (h : nx ≤ nx') => hE (p + 1) 0 i nx' (by omega) hp2 (by omega) (by omega) (by omega)
 cases hr0 : zcC l f (p + 1) 0 with
 | stop pos e =>
  simp only [hr0] at ha
  (refine RetX.of_bodyW Tryz.func95 rfl (by simp) fun Γ hn hpan => ?_); simp only [entry, ziC, ziN, maC, maN, oA, Tryz.ntmps95]
  repeat' (first
  | ((first | refine zaf ?_ | refine zaj ?_ | refine zah ?_ | refine zai ?_ | fail); simp [hne, hf0, hf3, del, nAA])
  | (refine CallP.ok1 (hh1 _ (by first | omega | simp <;> omega | fail)) (by first | (simp [hne, hf0, hf3, del, nAA, zaa, getK, zab, zac]; done) | fail) (by rfl) (by rfl) ?_; (try simp [hne, hf0, hf3, del, nAA]))
  | (refine CallP.zem (ha _ (by first | omega | simp <;> omega | fail)) (by first | (simp [hne, hf0, hf3, del, nAA, zaa, getK, zab, zac]; done) | fail) (by rfl) (by first | assumption | (simp; done) | fail) (by rfl) (by simp) ?_; rintro ob' ⟨q', rfl⟩; refine ⟨_, Wk.refl _, ?_⟩)
  | fail)
  (refine hpan _ _ ⟨{ n := _, env := [], obs := [(i, pOb l q')], next := nx }, (Wk.cut rfl (by simp [hn]) (by simp [wkO, zaa, getK, zab, zac, Ob.under, D.under, zad, zae, hi, hne, zab, zac, zaa, getK]) (by simp [wkU, zan, zaa, getK, D.under, hi, hne, zab, zac, zaa, getK]) (by simp [wkE, zan, zaa, getK, hi, hne, zab, zac, zaa, getK])), by simp [hn], ?_⟩; try simp)
  exact PPost.zax (by simp [PR.bind, *])
 | ok v0 q0 =>
  have ha := fun nx' h => zc0 (ha nx' h) hr0
  obtain ⟨g0a, g0b⟩ := (zbJ hl f).1 _ _ _ _ hr0 hp2
  have hw1 := fun nx' (h : nx ≤ nx') => zeG hl [116, 104, 101, 110] (q := q0) (i := i) (nx := nx') (by omega) g0b
  cases hr1 : zbj l q0 [[116, 104, 101, 110]] with
  | stop pos e =>
   simp only [hr1] at hw1
   (refine RetX.of_bodyW Tryz.func95 rfl (by simp) fun Γ hn hpan => ?_); simp only [entry, ziC, ziN, maC, maN, oA, Tryz.ntmps95]
   repeat' (first
  | ((first | refine zaf ?_ | refine zaj ?_ | refine zah ?_ | refine zai ?_ | fail); simp [hne, hf0, hf3, del, nAA])
  | (refine CallP.ok1 (hh1 _ (by first | omega | simp <;> omega | fail)) (by first | (simp [hne, hf0, hf3, del, nAA, zaa, getK, zab, zac]; done) | fail) (by rfl) (by rfl) ?_; (try simp [hne, hf0, hf3, del, nAA]))
  | (refine CallP.ok1 (ha _ (by first | omega | simp <;> omega | fail)) (by first | (simp [hne, hf0, hf3, del, nAA, zaa, getK, zab, zac]; done) | fail) (by rfl) (by rfl) ?_; (try simp [hne, hf0, hf3, del, nAA]))
  | (refine CallP.zem (hw1 _ (by first | omega | simp <;> omega | fail)) (by first | (simp [hne, hf0, hf3, del, nAA, zaa, getK, zab, zac]; done) | fail) (by rfl) (by first | assumption | (simp; done) | fail) (by rfl) (by simp) ?_; rintro ob' ⟨q', rfl⟩; refine ⟨_, Wk.refl _, ?_⟩)
  | (refine zar (by first | rfl | fail) ?_; simp [hne, hf0, hf3, del, nAA, frzN, frz1, zaz, zay, St.frz, St.frzS, frzS, fv, zaH, za3, za5, zaE, zat, zal, del, frz, za6])
  | fail)
   (refine hpan _ _ ⟨{ n := _, env := [], obs := [(i, pOb l q')], next := nx }, (Wk.cut rfl (by simp [hn]) (by simp [wkO, zaa, getK, zab, zac, Ob.under, D.under, zad, zae, hi, hne, zab, zac, zaa, getK]) (by simp [wkU, zan, zaa, getK, D.under, hi, hne, zab, zac, zaa, getK]) (by simp [wkE, zan, zaa, getK, hi, hne, zab, zac, zaa, getK])), by simp [hn], ?_⟩; try simp)
   exact PPost.zax (by simp [PR.bind, *])
  | ok v1 q1 =>
   simp only [hr1] at hw1
   obtain ⟨g1a, g1b⟩ := zaO hl _ hr1 g0b
   have hb := fun nx' (h : nx ≤ nx') => hE q1 0 i nx' (by omega) g1b (by omega) (by omega) (by omega)
   cases hr2 : zcC l f q1 0 with
   | stop pos e =>
    simp only [hr2] at hb
    (refine RetX.of_bodyW Tryz.func95 rfl (by simp) fun Γ hn hpan => ?_); simp only [entry, ziC, ziN, maC, maN, oA, Tryz.ntmps95]
    repeat' (first
  | ((first | refine zaf ?_ | refine zaj ?_ | refine zah ?_ | refine zai ?_ | fail); simp [hne, hf0, hf3, del, nAA])
  | (refine CallP.ok1 (hh1 _ (by first | omega | simp <;> omega | fail)) (by first | (simp [hne, hf0, hf3, del, nAA, zaa, getK, zab, zac]; done) | fail) (by rfl) (by rfl) ?_; (try simp [hne, hf0, hf3, del, nAA]))
  | (refine CallP.ok1 (ha _ (by first | omega | simp <;> omega | fail)) (by first | (simp [hne, hf0, hf3, del, nAA, zaa, getK, zab, zac]; done) | fail) (by rfl) (by rfl) ?_; (try simp [hne, hf0, hf3, del, nAA]))
  | (refine CallP.ok1 (hw1 _ (by first | omega | simp <;> omega | fail)) (by first | (simp [hne, hf0, hf3, del, nAA, zaa, getK, zab, zac]; done) | fail) (by rfl) (by rfl) ?_; (try simp [hne, hf0, hf3, del, nAA]))
  | (refine CallP.zem (hb _ (by first | omega | simp <;> omega | fail)) (by first | (simp [hne, hf0, hf3, del, nAA, zaa, getK, zab, zac]; done) | fail) (by rfl) (by first | assumption | (simp; done) | fail) (by rfl) (by simp) ?_; rintro ob' ⟨q', rfl⟩; refine ⟨_, Wk.refl _, ?_⟩)
  | (refine zar (by first | rfl | fail) ?_; simp [hne, hf0, hf3, del, nAA, frzN, frz1, zaz, zay, St.frz, St.frzS, frzS, fv, zaH, za3, za5, zaE, zat, zal, del, frz, za6])
  | fail)
    (refine hpan _ _ ⟨{ n := _, env := [], obs := [(i, pOb l q')], next := nx }, (Wk.cut rfl (by simp [hn]) (by simp [wkO, zaa, getK, zab, zac, Ob.under, D.under, zad, zae, hi, hne, zab, zac, zaa, getK]) (by simp [wkU, zan, zaa, getK, D.under, hi, hne, zab, zac, zaa, getK]) (by simp [wkE, zan, zaa, getK, hi, hne, zab, zac, zaa, getK])), by simp [hn], ?_⟩; try simp)
    exact PPost.zax (by simp [PR.bind, *])
   | ok v2 q2 =>
    have hb := fun nx' h => zc0 (hb nx' h) hr2
    obtain ⟨g2a, g2b⟩ := (zbJ hl f).1 _ _ _ _ hr2 g1b
    have hw2 := fun nx' (h : nx ≤ nx') => zeG hl [101, 108, 115, 101] (q := q2) (i := i) (nx := nx') (by omega) g2b
    cases hr3 : zbj l q2 [[101, 108, 115, 101]] with
    | stop pos e =>
     simp only [hr3] at hw2
     (refine RetX.of_bodyW Tryz.func95 rfl (by simp) fun Γ hn hpan => ?_); simp only [entry, ziC, ziN, maC, maN, oA, Tryz.ntmps95]
     repeat' (first
  | ((first | refine zaf ?_ | refine zaj ?_ | refine zah ?_ | refine zai ?_ | fail); simp [hne, hf0, hf3, del, nAA])
  | (refine CallP.ok1 (hh1 _ (by first | omega | simp <;> omega | fail)) (by first | (simp [hne, hf0, hf3, del, nAA, zaa, getK, zab, zac]; done) | fail) (by rfl) (by rfl) ?_; (try simp [hne, hf0, hf3, del, nAA]))
  | (refine CallP.ok1 (ha _ (by first | omega | simp <;> omega | fail)) (by first | (simp [hne, hf0, hf3, del, nAA, zaa, getK, zab, zac]; done) | fail) (by rfl) (by rfl) ?_; (try simp [hne, hf0, hf3, del, nAA]))
  | (refine CallP.ok1 (hw1 _ (by first | omega | simp <;> omega | fail)) (by first | (simp [hne, hf0, hf3, del, nAA, zaa, getK, zab, zac]; done) | fail) (by rfl) (by rfl) ?_; (try simp [hne, hf0, hf3, del, nAA]))
  | (refine CallP.ok1 (hb _ (by first | omega | simp <;> omega | fail)) (by first | (simp [hne, hf0, hf3, del, nAA, zaa, getK, zab, zac]; done) | fail) (by rfl) (by rfl) ?_; (try simp [hne, hf0, hf3, del, nAA]))
  | (refine CallP.zem (hw2 _ (by first | omega | simp <;> omega | fail)) (by first | (simp [hne, hf0, hf3, del, nAA, zaa, getK, zab, zac]; done) | fail) (by rfl) (by first | assumption | (simp; done) | fail) (by rfl) (by simp) ?_; rintro ob' ⟨q', rfl⟩; refine ⟨_, Wk.refl _, ?_⟩)
  | (refine zar (by first | rfl | fail) ?_; simp [hne, hf0, hf3, del, nAA, frzN, frz1, zaz, zay, St.frz, St.frzS, frzS, fv, zaH, za3, za5, zaE, zat, zal, del, frz, za6])
  | fail)
     (refine hpan _ _ ⟨{ n := _, env := [], obs := [(i, pOb l q')], next := nx }, (Wk.cut rfl (by simp [hn]) (by simp [wkO, zaa, getK, zab, zac, Ob.under, D.under, zad, zae, hi, hne, zab, zac, zaa, getK]) (by simp [wkU, zan, zaa, getK, D.under, hi, hne, zab, zac, zaa, getK]) (by simp [wkE, zan, zaa, getK, hi, hne, zab, zac, zaa, getK])), by simp [hn], ?_⟩; try simp)
     exact PPost.zax (by simp [PR.bind, *])
    | ok v3 q3 =>
     simp only [hr3] at hw2
     obtain ⟨g3a, g3b⟩ := zaO hl _ hr3 g2b
     have hc := fun nx' (h : nx ≤ nx') => hE q3 0 i nx' (by omega) g3b (by omega) (by omega) (by omega)
     cases hr4 : zcC l f q3 0 with
     | stop pos e =>
      simp only [hr4] at hc
      (refine RetX.of_bodyW Tryz.func95 rfl (by simp) fun Γ hn hpan => ?_); simp only [entry, ziC, ziN, maC, maN, oA, Tryz.ntmps95]
      repeat' (first
  | (refine zf3 (fun nx' h' => hc nx' (by simp at h'; omega)) (by first | (simp [hne, hf0, hf3, del, nAA, zaa, getK, zab, zac, zak, zaP]; done) | fail) (by rfl) (by first | assumption | simp) (by rfl) (by simp) ?_ ?_; rintro env' ob' n' hn' ⟨q', rfl⟩; refine ⟨_, Wk.refl _, ?_⟩)
  | (refine zeW rfl (by simp) ?_; simp)
  | ((first | refine zaf ?_ | refine zbo rfl ?_ | refine zaj ?_ | refine zah ?_ | refine zai ?_ | fail); simp [hne, hf0, hf3, del, nAA])
  | (refine zf4 (hC _ (zcp [i] nx (by simp <;> omega) (by simp <;> omega) (by apply Exists.intro; apply And.intro; (focus (repeat' (first | exact KF.nil | exact KL.nil | apply KF.cons | apply KL.cons 0 rfl | apply KL.cons 1 rfl | apply KL.cons 2 rfl | apply KL.cons 3 rfl | apply KL.cons 4 rfl | apply KL.cons 5 rfl | apply KL.cons 6 rfl | apply KL.cons 7 rfl | apply KL.cons 8 rfl | apply KL.cons 9 rfl))); kernel_rfl))) rfl; done)
  | (refine zb0 rfl (by kernel_rfl) (by first | (simp [hn]; done) | (simp [hn]; omega) | fail) fun C k hC hk => ?_; simp [hne, hf0, hf3, del, nAA])
  | (refine CallP.ok1 (hh1 _ (by first | omega | simp <;> omega | fail)) (by first | (simp [hne, hf0, hf3, del, nAA, zaa, getK, zab, zac]; done) | fail) (by rfl) (by rfl) ?_; (try simp [hne, hf0, hf3, del, nAA]))
  | (refine CallP.ok1 (ha _ (by first | omega | simp <;> omega | fail)) (by first | (simp [hne, hf0, hf3, del, nAA, zaa, getK, zab, zac]; done) | fail) (by rfl) (by rfl) ?_; (try simp [hne, hf0, hf3, del, nAA]))
  | (refine CallP.ok1 (hw1 _ (by first | omega | simp <;> omega | fail)) (by first | (simp [hne, hf0, hf3, del, nAA, zaa, getK, zab, zac]; done) | fail) (by rfl) (by rfl) ?_; (try simp [hne, hf0, hf3, del, nAA]))
  | (refine CallP.ok1 (hb _ (by first | omega | simp <;> omega | fail)) (by first | (simp [hne, hf0, hf3, del, nAA, zaa, getK, zab, zac]; done) | fail) (by rfl) (by rfl) ?_; (try simp [hne, hf0, hf3, del, nAA]))
  | (refine CallP.ok1 (hw2 _ (by first | omega | simp <;> omega | fail)) (by first | (simp [hne, hf0, hf3, del, nAA, zaa, getK, zab, zac]; done) | fail) (by rfl) (by rfl) ?_; (try simp [hne, hf0, hf3, del, nAA]))
  | (refine zar (by first | rfl | fail) ?_; simp [hne, hf0, hf3, del, nAA, frzN, frz1, zaz, zay, St.frz, St.frzS, frzS, fv, zaH, za3, za5, zaE, zat, zal, del, frz, za6])
  | fail)
      (refine hpan _ _ ⟨{ n := _, env := [], obs := [(i, pOb l q')], next := nx }, (Wk.cut rfl (by simp [hn]) (by simp [wkO, zaa, getK, zab, zac, Ob.under, D.under, zad, zae, hi, hne, zab, zac, zaa, getK]) (by simp [wkU, zan, zaa, getK, D.under, hi, hne, zab, zac, zaa, getK]) (by simp [wkE, zan, zaa, getK, hi, hne, zab, zac, zaa, getK])), by simp [hn], ?_⟩; try simp)
      exact PPost.zax (by simp [PR.bind, *])
     | ok v4 q4 =>
      have hc := fun nx' h => zc0 (hc nx' h) hr4
      obtain ⟨g4a, g4b⟩ := (zbJ hl f).1 _ _ _ _ hr4 g3b
      (refine RetX.of_bodyW Tryz.func95 rfl (by simp) fun Γ hn hpan => ?_); simp only [entry, ziC, ziN, maC, maN, oA, Tryz.ntmps95]
      repeat' (first
  | (refine zhA (fun nx' h' => hc nx' (by simp at h'; omega)) (by first | (simp [hne, hf0, hf3, del, nAA, zaa, getK, zab, zac, zak, zaP]; done) | fail) (by rfl) (by first | assumption | simp) (by rfl) (by simp [D.under, Ob.under]) (by simp) ?_; (try simp [hne, hf0, hf3, del, nAA]))
  | ((first | refine zaf ?_ | refine zbo rfl ?_ | refine zb8 rfl ?_ | refine zaj ?_ | refine zah ?_ | refine zai ?_ | fail); simp [hne, hf0, hf3, del, nAA])
  | (refine zbH (hC _ (zcp [i] nx (by simp <;> omega) (by simp <;> omega) (by apply Exists.intro; apply And.intro; (focus (repeat' (first | exact KF.nil | exact KL.nil | apply KF.cons | apply KL.cons 0 rfl | apply KL.cons 1 rfl | apply KL.cons 2 rfl | apply KL.cons 3 rfl | apply KL.cons 4 rfl | apply KL.cons 5 rfl | apply KL.cons 6 rfl | apply KL.cons 7 rfl | apply KL.cons 8 rfl | apply KL.cons 9 rfl))); kernel_rfl))) (hk _ ?_); clear hC hk C k; simp only [zap])
  | (refine zb0 rfl (by kernel_rfl) (by first | (simp [hn]; done) | (simp [hn]; omega) | fail) fun C k hC hk => ?_; simp [hne, hf0, hf3, del, nAA])
  | (refine zas ?_; simp only [zap])
  | (refine CallP.ok1 (hh1 _ (by first | omega | simp <;> omega | fail)) (by first | (simp [hne, hf0, hf3, del, nAA, zaa, getK, zab, zac]; done) | fail) (by rfl) (by rfl) ?_; (try simp [hne, hf0, hf3, del, nAA]))
  | (refine CallP.ok1 (ha _ (by first | omega | simp <;> omega | fail)) (by first | (simp [hne, hf0, hf3, del, nAA, zaa, getK, zab, zac]; done) | fail) (by rfl) (by rfl) ?_; (try simp [hne, hf0, hf3, del, nAA]))
  | (refine CallP.ok1 (hw1 _ (by first | omega | simp <;> omega | fail)) (by first | (simp [hne, hf0, hf3, del, nAA, zaa, getK, zab, zac]; done) | fail) (by rfl) (by rfl) ?_; (try simp [hne, hf0, hf3, del, nAA]))
  | (refine CallP.ok1 (hb _ (by first | omega | simp <;> omega | fail)) (by first | (simp [hne, hf0, hf3, del, nAA, zaa, getK, zab, zac]; done) | fail) (by rfl) (by rfl) ?_; (try simp [hne, hf0, hf3, del, nAA]))
  | (refine CallP.ok1 (hw2 _ (by first | omega | simp <;> omega | fail)) (by first | (simp [hne, hf0, hf3, del, nAA, zaa, getK, zab, zac]; done) | fail) (by rfl) (by rfl) ?_; (try simp [hne, hf0, hf3, del, nAA]))
  | (refine zar (by first | rfl | fail) ?_; simp [hne, hf0, hf3, del, nAA, frzN, frz1, zaz, zay, St.frz, St.frzS, frzS, fv, zaH, za3, za5, zaE, zat, zal, del, frz, za6])
  | fail)
      (refine EndW.frzN 1 ?_; simp [frzN, frz1, zaz, zay, St.frz, St.frzS, frzS, fv, zaH, za3, za5, zaE, zat, zal, del, frz, za6, hne, nAA])
      refine EndW.norm ?_
      simp [St.norm, zbh, zb3, zcs, zct, hne, nAA]
      (refine EndW.here ?_; (first | (refine EndOK.fin (.inr rfl) ?_) | (refine EndOK.fin (.inl rfl) ?_)); simp [zaM, zag, Tryz.results95, hne, hi]; refine FinOK.cut [(i, pOb l q4)] (nx) (by simp [zaa, getK, zab, zac, Ob.under, D.under, zad, zae, hne, hi] <;> omega) (by simp [D.under]) (by simp [hn]) ?_; try simp)
      exact PPost.zcr (by simp [PR.bind, *]; rfl) (by simp [Exp.row_eq, Exp.op, Exp.n, Exp.unit, Exp.s, Exp.args]) rfl
theorem zk0 {l : List Tok} (hl : TokOK l) {f p : Nat} {form : Int} (hE : zhC l f) (hp : p < l.length) (hf : 4 * (l.length - p) + 1 ≤ f)
  (hf0 : form = 0) (hf3 : form ≤ 3) (h1 : isB l p [105, 102] = false) (h2 : isB l p [110, 111, 116] = true) {i nx : Nat} (hi : i < nx) :
  RetX Tryz.prog 95 [.ptr i 0, ziU form] [(i, pOb l p)] nx (PPost l i nx zjU (zaV l (f + 1) p form)) := by
 have hne := zaB hi
 have hll := hl.len
 rw [zaV]
 have hh1 := fun nx' (h : nx ≤ nx') => za9 l p [105, 102] i nx' (by omega) hp hl.len
 rw [h1] at hh1
 simp only [if_true, Bool.false_eq_true, if_false] at hh1
 have hp2 := za1 hl h2
 have hh2 := fun nx' (h : nx ≤ nx') => za9 l p [110, 111, 116] i nx' (by omega) hp hl.len
 rw [h2] at hh2
 simp only [if_true, Bool.false_eq_true, if_false] at hh2
 rw [if_neg (by simp [*]), if_pos ⟨hf3, h2⟩]
 have ha := fun nx' (h : nx ≤ nx') => hE (p + 1) 3 i nx' (by omega) hp2 (by omega) (by omega) (by omega)
 cases hr0 : zcC l f (p + 1) 3 with
 | stop pos e =>
  simp only [hr0] at ha
  (refine RetX.of_bodyW Tryz.func95 rfl (by simp) fun Γ hn hpan => ?_); simp only [entry, ziC, ziN, maC, maN, oA, Tryz.ntmps95]
  repeat' (first
  | ((first | refine zaf ?_ | refine zaj ?_ | refine zah ?_ | refine zai ?_ | fail); simp [hne, hf0, hf3, del, nAA])
  | (refine zaq ?_; simp only [zap])
  | (refine CallP.ok1 (hh1 _ (by first | omega | simp <;> omega | fail)) (by first | (simp [hne, hf0, hf3, del, nAA, zaa, getK, zab, zac]; done) | fail) (by rfl) (by rfl) ?_; (try simp [hne, hf0, hf3, del, nAA]))
  | (refine CallP.ok1 (hh2 _ (by first | omega | simp <;> omega | fail)) (by first | (simp [hne, hf0, hf3, del, nAA, zaa, getK, zab, zac]; done) | fail) (by rfl) (by rfl) ?_; (try simp [hne, hf0, hf3, del, nAA]))
  | (refine CallP.zem (ha _ (by first | omega | simp <;> omega | fail)) (by first | (simp [hne, hf0, hf3, del, nAA, zaa, getK, zab, zac]; done) | fail) (by rfl) (by first | assumption | (simp; done) | fail) (by rfl) (by simp) ?_; rintro ob' ⟨q', rfl⟩; refine ⟨_, Wk.refl _, ?_⟩)
  | fail)
  (refine hpan _ _ ⟨{ n := _, env := [], obs := [(i, pOb l q')], next := nx }, (Wk.cut rfl (by simp [hn]) (by simp [wkO, zaa, getK, zab, zac, Ob.under, D.under, zad, zae, hi, hne, zab, zac, zaa, getK]) (by simp [wkU, zan, zaa, getK, D.under, hi, hne, zab, zac, zaa, getK]) (by simp [wkE, zan, zaa, getK, hi, hne, zab, zac, zaa, getK])), by simp [hn], ?_⟩; try simp)
  exact PPost.zax (by simp [PR.bind, *])
 | ok v0 q0 =>
  have ha := fun nx' h => zc0 (ha nx' h) hr0
  (refine RetX.of_bodyW Tryz.func95 rfl (by simp) fun Γ hn hpan => ?_); simp only [entry, ziC, ziN, maC, maN, oA, Tryz.ntmps95]
  repeat' (first
  | ((first | refine zaf ?_ | refine zaj ?_ | refine zah ?_ | refine zai ?_ | fail); simp [hne, hf0, hf3, del, nAA])
  | ((first | refine zas ?_ | refine zaq ?_ | fail); simp only [zap])
  | (refine CallP.ok1 (hh1 _ (by first | omega | simp <;> omega | fail)) (by first | (simp [hne, hf0, hf3, del, nAA, zaa, getK, zab, zac]; done) | fail) (by rfl) (by rfl) ?_; (try simp [hne, hf0, hf3, del, nAA]))
  | (refine CallP.ok1 (hh2 _ (by first | omega | simp <;> omega | fail)) (by first | (simp [hne, hf0, hf3, del, nAA, zaa, getK, zab, zac]; done) | fail) (by rfl) (by rfl) ?_; (try simp [hne, hf0, hf3, del, nAA]))
  | (refine CallP.ok1 (ha _ (by first | omega | simp <;> omega | fail)) (by first | (simp [hne, hf0, hf3, del, nAA, zaa, getK, zab, zac]; done) | fail) (by rfl) (by rfl) ?_; (try simp [hne, hf0, hf3, del, nAA]))
  | fail)
  (refine EndW.frzN 1 ?_; simp [frzN, frz1, zaz, zay, St.frz, St.frzS, frzS, fv, zaH, za3, za5, zaE, zat, zal, del, frz, za6, hne, nAA])
  refine EndW.norm ?_
  simp [St.norm, zbh, zb3, zcs, zct, hne, nAA]
  (refine EndW.here ?_; (first | (refine EndOK.fin (.inr rfl) ?_) | (refine EndOK.fin (.inl rfl) ?_)); simp [zaM, zag, Tryz.results95, hne, hi]; refine FinOK.cut [(i, pOb l q0)] (nx) (by simp [zaa, getK, zab, zac, Ob.under, D.under, zad, zae, hne, hi] <;> omega) (by simp [D.under]) (by simp [hn]) ?_; try simp)
  exact PPost.zcr (by simp [PR.bind, *]; rfl) (by simp [Exp.row_eq, Exp.op, Exp.n, Exp.unit, Exp.s, Exp.args]) rfl
theorem zkZ {l : List Tok} (hl : TokOK l) {f p : Nat} {form : Int} (hE : zhC l f) (hp : p < l.length) (hf : 4 * (l.length - p) + 1 ≤ f)
  (hf0 : ¬ form = 0) (hf3 : form ≤ 3) (h2 : isB l p [110, 111, 116] = true) {i nx : Nat} (hi : i < nx) :
  RetX Tryz.prog 95 [.ptr i 0, ziU form] [(i, pOb l p)] nx (PPost l i nx zjU (zaV l (f + 1) p form)) := by
 have hne := zaB hi
 have hll := hl.len
 rw [zaV]
 have hp2 := za1 hl h2
 have hh2 := fun nx' (h : nx ≤ nx') => za9 l p [110, 111, 116] i nx' (by omega) hp hl.len
 rw [h2] at hh2
 simp only [if_true, Bool.false_eq_true, if_false] at hh2
 rw [if_neg (by simp [*]), if_pos ⟨hf3, h2⟩]
 have ha := fun nx' (h : nx ≤ nx') => hE (p + 1) 3 i nx' (by omega) hp2 (by omega) (by omega) (by omega)
 cases hr0 : zcC l f (p + 1) 3 with
 | stop pos e =>
  simp only [hr0] at ha
  (refine RetX.of_bodyW Tryz.func95 rfl (by simp) fun Γ hn hpan => ?_); simp only [entry, ziC, ziN, maC, maN, oA, Tryz.ntmps95]
  repeat' (first
  | ((first | refine zaf ?_ | refine zaj ?_ | refine zah ?_ | refine zai ?_ | fail); simp [hne, hf0, hf3, del, nAA])
  | (refine zaq ?_; simp only [zap])
  | (refine CallP.ok1 (hh2 _ (by first | omega | simp <;> omega | fail)) (by first | (simp [hne, hf0, hf3, del, nAA, zaa, getK, zab, zac]; done) | fail) (by rfl) (by rfl) ?_; (try simp [hne, hf0, hf3, del, nAA]))
  | (refine CallP.zem (ha _ (by first | omega | simp <;> omega | fail)) (by first | (simp [hne, hf0, hf3, del, nAA, zaa, getK, zab, zac]; done) | fail) (by rfl) (by first | assumption | (simp; done) | fail) (by rfl) (by simp) ?_; rintro ob' ⟨q', rfl⟩; refine ⟨_, Wk.refl _, ?_⟩)
  | fail)
  (refine hpan _ _ ⟨{ n := _, env := [], obs := [(i, pOb l q')], next := nx }, (Wk.cut rfl (by simp [hn]) (by simp [wkO, zaa, getK, zab, zac, Ob.under, D.under, zad, zae, hi, hne, zab, zac, zaa, getK]) (by simp [wkU, zan, zaa, getK, D.under, hi, hne, zab, zac, zaa, getK]) (by simp [wkE, zan, zaa, getK, hi, hne, zab, zac, zaa, getK])), by simp [hn], ?_⟩; try simp)
  exact PPost.zax (by simp [PR.bind, *])
 | ok v0 q0 =>
  have ha := fun nx' h => zc0 (ha nx' h) hr0
  (refine RetX.of_bodyW Tryz.func95 rfl (by simp) fun Γ hn hpan => ?_); simp only [entry, ziC, ziN, maC, maN, oA, Tryz.ntmps95]
  repeat' (first
  | ((first | refine zaf ?_ | refine zaj ?_ | refine zah ?_ | refine zai ?_ | fail); simp [hne, hf0, hf3, del, nAA])
  | ((first | refine zas ?_ | refine zaq ?_ | fail); simp only [zap])
  | (refine CallP.ok1 (hh2 _ (by first | omega | simp <;> omega | fail)) (by first | (simp [hne, hf0, hf3, del, nAA, zaa, getK, zab, zac]; done) | fail) (by rfl) (by rfl) ?_; (try simp [hne, hf0, hf3, del, nAA]))
  | (refine CallP.ok1 (ha _ (by first | omega | simp <;> omega | fail)) (by first | (simp [hne, hf0, hf3, del, nAA, zaa, getK, zab, zac]; done) | fail) (by rfl) (by rfl) ?_; (try simp [hne, hf0, hf3, del, nAA]))
  | fail)
  (refine EndW.frzN 1 ?_; simp [frzN, frz1, zaz, zay, St.frz, St.frzS, frzS, fv, zaH, za3, za5, zaE, zat, zal, del, frz, za6, hne, nAA])
  refine EndW.norm ?_
  simp [St.norm, zbh, zb3, zcs, zct, hne, nAA]
  (refine EndW.here ?_; (first | (refine EndOK.fin (.inr rfl) ?_) | (refine EndOK.fin (.inl rfl) ?_)); simp [zaM, zag, Tryz.results95, hne, hi]; refine FinOK.cut [(i, pOb l q0)] (nx) (by simp [zaa, getK, zab, zac, Ob.under, D.under, zad, zae, hne, hi] <;> omega) (by simp [D.under]) (by simp [hn]) ?_; try simp)
  exact PPost.zcr (by simp [PR.bind, *]; rfl) (by simp [Exp.row_eq, Exp.op, Exp.n, Exp.unit, Exp.s, Exp.args]) rfl
theorem zjL {l : List Tok} (hl : TokOK l) {f p : Nat} {form : Int} (hP : zip l f) (hp : p < l.length) (hf : 4 * (l.length - p) + 1 ≤ f)
  (hf0 : form = 0) (hf3 : form ≤ 3) (h1 : isB l p [105, 102] = false) (h2 : isB l p [110, 111, 116] = false) {i nx : Nat} (hi : i < nx) :
  RetX Tryz.prog 95 [.ptr i 0, ziU form] [(i, pOb l p)] nx (PPost l i nx zjU (zaV l (f + 1) p form)) := by
 have hne := zaB hi
 have hll := hl.len
 rw [zaV]
 have hh1 := fun nx' (h : nx ≤ nx') => za9 l p [105, 102] i nx' (by omega) hp hl.len
 rw [h1] at hh1
 simp only [if_true, Bool.false_eq_true, if_false] at hh1
 have hh2 := fun nx' (h : nx ≤ nx') => za9 l p [110, 111, 116] i nx' (by omega) hp hl.len
 rw [h2] at hh2
 simp only [if_true, Bool.false_eq_true, if_false] at hh2
 rw [if_neg (by simp [*]), if_neg (by simp [*])]
 have ha := fun nx' (h : nx ≤ nx') => hP p i nx' (by omega) hp (by omega)
 cases hr0 : zaJ l f p with
 | stop pos e =>
  simp only [hr0] at ha
  (refine RetX.of_bodyW Tryz.func95 rfl (by simp) fun Γ hn hpan => ?_); simp only [entry, ziC, ziN, maC, maN, oA, Tryz.ntmps95]
  repeat' (first
  | ((first | refine zaf ?_ | refine zaj ?_ | refine zah ?_ | refine zai ?_ | fail); simp [hne, hf0, hf3, del, nAA])
  | (refine zaq ?_; simp only [zap])
  | (refine CallP.ok1 (hh1 _ (by first | omega | simp <;> omega | fail)) (by first | (simp [hne, hf0, hf3, del, nAA, zaa, getK, zab, zac]; done) | fail) (by rfl) (by rfl) ?_; (try simp [hne, hf0, hf3, del, nAA]))
  | (refine CallP.ok1 (hh2 _ (by first | omega | simp <;> omega | fail)) (by first | (simp [hne, hf0, hf3, del, nAA, zaa, getK, zab, zac]; done) | fail) (by rfl) (by rfl) ?_; (try simp [hne, hf0, hf3, del, nAA]))
  | (refine CallP.zem (ha _ (by first | omega | simp <;> omega | fail)) (by first | (simp [hne, hf0, hf3, del, nAA, zaa, getK, zab, zac]; done) | fail) (by rfl) (by first | assumption | (simp; done) | fail) (by rfl) (by simp) ?_; rintro ob' ⟨q', rfl⟩; refine ⟨_, Wk.refl _, ?_⟩)
  | fail)
  (refine hpan _ _ ⟨{ n := _, env := [], obs := [(i, pOb l q')], next := nx }, (Wk.cut rfl (by simp [hn]) (by simp [wkO, zaa, getK, zab, zac, Ob.under, D.under, zad, zae, hi, hne, zab, zac, zaa, getK]) (by simp [wkU, zan, zaa, getK, D.under, hi, hne, zab, zac, zaa, getK]) (by simp [wkE, zan, zaa, getK, hi, hne, zab, zac, zaa, getK])), by simp [hn], ?_⟩; try simp)
  exact PPost.zax (by simp [PR.bind, *])
 | ok v0 q0 =>
  have ha := fun nx' h => zc0 (ha nx' h) hr0
  (refine RetX.of_bodyW Tryz.func95 rfl (by simp) fun Γ hn hpan => ?_); simp only [entry, ziC, ziN, maC, maN, oA, Tryz.ntmps95]
  repeat' (first
  | ((first | refine zaf ?_ | refine zaj ?_ | refine zah ?_ | refine zai ?_ | fail); simp [hne, hf0, hf3, del, nAA])
  | ((first | refine zas ?_ | refine zaq ?_ | fail); simp only [zap])
  | (refine CallP.ok1 (hh1 _ (by first | omega | simp <;> omega | fail)) (by first | (simp [hne, hf0, hf3, del, nAA, zaa, getK, zab, zac]; done) | fail) (by rfl) (by rfl) ?_; (try simp [hne, hf0, hf3, del, nAA]))
  | (refine CallP.ok1 (hh2 _ (by first | omega | simp <;> omega | fail)) (by first | (simp [hne, hf0, hf3, del, nAA, zaa, getK, zab, zac]; done) | fail) (by rfl) (by rfl) ?_; (try simp [hne, hf0, hf3, del, nAA]))
  | (refine CallP.ok1 (ha _ (by first | omega | simp <;> omega | fail)) (by first | (simp [hne, hf0, hf3, del, nAA, zaa, getK, zab, zac]; done) | fail) (by rfl) (by rfl) ?_; (try simp [hne, hf0, hf3, del, nAA]))
  | fail)
  refine EndW.norm ?_
  simp [St.norm, zbh, zb3, zcs, zct, hne, nAA]
  (refine EndW.here ?_; (first | (refine EndOK.fin (.inr rfl) ?_) | (refine EndOK.fin (.inl rfl) ?_)); simp [zaM, zag, Tryz.results95, hne, hi]; refine FinOK.cut [(i, pOb l q0)] (nx) (by simp [zaa, getK, zab, zac, Ob.under, D.under, zad, zae, hne, hi] <;> omega) (by simp [D.under]) (by simp [hn]) ?_; try simp)
  exact PPost.zcr (by simp [PR.bind, *]; rfl) (by simp [Exp.row_eq, Exp.op, Exp.n, Exp.unit, Exp.s, Exp.args]) rfl
theorem zjK {l : List Tok} (hl : TokOK l) {f p : Nat} {form : Int} (hP : zip l f) (hp : p < l.length) (hf : 4 * (l.length - p) + 1 ≤ f)
  (hf0 : ¬ form = 0) (hf3 : form ≤ 3) (h2 : isB l p [110, 111, 116] = false) {i nx : Nat} (hi : i < nx) :
  RetX Tryz.prog 95 [.ptr i 0, ziU form] [(i, pOb l p)] nx (PPost l i nx zjU (zaV l (f + 1) p form)) := by
 have hne := zaB hi
 have hll := hl.len
 rw [zaV]
 have hh2 := fun nx' (h : nx ≤ nx') => za9 l p [110, 111, 116] i nx' (by omega) hp hl.len
 rw [h2] at hh2
 simp only [if_true, Bool.false_eq_true, if_false] at hh2
 rw [if_neg (by simp [*]), if_neg (by simp [*])]
 have ha := fun nx' (h : nx ≤ nx') => hP p i nx' (by omega) hp (by omega)
 cases hr0 : zaJ l f p with
 | stop pos e =>
  simp only [hr0] at ha
  (refine RetX.of_bodyW Tryz.func95 rfl (by simp) fun Γ hn hpan => ?_); simp only [entry, ziC, ziN, maC, maN, oA, Tryz.ntmps95]
  repeat' (first
  | ((first | refine zaf ?_ | refine zaj ?_ | refine zah ?_ | refine zai ?_ | fail); simp [hne, hf0, hf3, del, nAA])
  | (refine zaq ?_; simp only [zap])
  | (refine CallP.ok1 (hh2 _ (by first | omega | simp <;> omega | fail)) (by first | (simp [hne, hf0, hf3, del, nAA, zaa, getK, zab, zac]; done) | fail) (by rfl) (by rfl) ?_; (try simp [hne, hf0, hf3, del, nAA]))
  | (refine CallP.zem (ha _ (by first | omega | simp <;> omega | fail)) (by first | (simp [hne, hf0, hf3, del, nAA, zaa, getK, zab, zac]; done) | fail) (by rfl) (by first | assumption | (simp; done) | fail) (by rfl) (by simp) ?_; rintro ob' ⟨q', rfl⟩; refine ⟨_, Wk.refl _, ?_⟩)
  | fail)
  (refine hpan _ _ ⟨{ n := _, env := [], obs := [(i, pOb l q')], next := nx }, (Wk.cut rfl (by simp [hn]) (by simp [wkO, zaa, getK, zab, zac, Ob.under, D.under, zad, zae, hi, hne, zab, zac, zaa, getK]) (by simp [wkU, zan, zaa, getK, D.under, hi, hne, zab, zac, zaa, getK]) (by simp [wkE, zan, zaa, getK, hi, hne, zab, zac, zaa, getK])), by simp [hn], ?_⟩; try simp)
  exact PPost.zax (by simp [PR.bind, *])
 | ok v0 q0 =>
  have ha := fun nx' h => zc0 (ha nx' h) hr0
  (refine RetX.of_bodyW Tryz.func95 rfl (by simp) fun Γ hn hpan => ?_); simp only [entry, ziC, ziN, maC, maN, oA, Tryz.ntmps95]
  repeat' (first
  | ((first | refine zaf ?_ | refine zaj ?_ | refine zah ?_ | refine zai ?_ | fail); simp [hne, hf0, hf3, del, nAA])
  | ((first | refine zas ?_ | refine zaq ?_ | fail); simp only [zap])
  | (refine CallP.ok1 (hh2 _ (by first | omega | simp <;> omega | fail)) (by first | (simp [hne, hf0, hf3, del, nAA, zaa, getK, zab, zac]; done) | fail) (by rfl) (by rfl) ?_; (try simp [hne, hf0, hf3, del, nAA]))
  | (refine CallP.ok1 (ha _ (by first | omega | simp <;> omega | fail)) (by first | (simp [hne, hf0, hf3, del, nAA, zaa, getK, zab, zac]; done) | fail) (by rfl) (by rfl) ?_; (try simp [hne, hf0, hf3, del, nAA]))
  | fail)
  refine EndW.norm ?_
  simp [St.norm, zbh, zb3, zcs, zct, hne, nAA]
  (refine EndW.here ?_; (first | (refine EndOK.fin (.inr rfl) ?_) | (refine EndOK.fin (.inl rfl) ?_)); simp [zaM, zag, Tryz.results95, hne, hi]; refine FinOK.cut [(i, pOb l q0)] (nx) (by simp [zaa, getK, zab, zac, Ob.under, D.under, zad, zae, hne, hi] <;> omega) (by simp [D.under]) (by simp [hn]) ?_; try simp)
  exact PPost.zcr (by simp [PR.bind, *]; rfl) (by simp [Exp.row_eq, Exp.op, Exp.n, Exp.unit, Exp.s, Exp.args]) rfl
theorem zjJ {l : List Tok} (hl : TokOK l) {f p : Nat} {form : Int} (hP : zip l f) (hp : p < l.length) (hf : 4 * (l.length - p) + 1 ≤ f)
  (hf0 : ¬ form = 0) (hf3 : ¬ form ≤ 3) {i nx : Nat} (hi : i < nx) :
  RetX Tryz.prog 95 [.ptr i 0, ziU form] [(i, pOb l p)] nx (PPost l i nx zjU (zaV l (f + 1) p form)) := by
 have hne := zaB hi
 have hll := hl.len
 rw [zaV]
 rw [if_neg (by simp [*]), if_neg (by simp [*])]
 have ha := fun nx' (h : nx ≤ nx') => hP p i nx' (by omega) hp (by omega)
 cases hr0 : zaJ l f p with
 | stop pos e =>
  simp only [hr0] at ha
  (refine RetX.of_bodyW Tryz.func95 rfl (by simp) fun Γ hn hpan => ?_); simp only [entry, ziC, ziN, maC, maN, oA, Tryz.ntmps95]
  repeat' (first
  | ((first | refine zaf ?_ | refine zaj ?_ | refine zah ?_ | refine zai ?_ | fail); simp [hne, hf0, hf3, del, nAA])
  | (refine zaq ?_; simp only [zap])
  | (refine CallP.zem (ha _ (by first | omega | simp <;> omega | fail)) (by first | (simp [hne, hf0, hf3, del, nAA, zaa, getK, zab, zac]; done) | fail) (by rfl) (by first | assumption | (simp; done) | fail) (by rfl) (by simp) ?_; rintro ob' ⟨q', rfl⟩; refine ⟨_, Wk.refl _, ?_⟩)
  | fail)
  (refine hpan _ _ ⟨{ n := _, env := [], obs := [(i, pOb l q')], next := nx }, (Wk.cut rfl (by simp [hn]) (by simp [wkO, zaa, getK, zab, zac, Ob.under, D.under, zad, zae, hi, hne, zab, zac, zaa, getK]) (by simp [wkU, zan, zaa, getK, D.under, hi, hne, zab, zac, zaa, getK]) (by simp [wkE, zan, zaa, getK, hi, hne, zab, zac, zaa, getK])), by simp [hn], ?_⟩; try simp)
  exact PPost.zax (by simp [PR.bind, *])
 | ok v0 q0 =>
  have ha := fun nx' h => zc0 (ha nx' h) hr0
  (refine RetX.of_bodyW Tryz.func95 rfl (by simp) fun Γ hn hpan => ?_); simp only [entry, ziC, ziN, maC, maN, oA, Tryz.ntmps95]
  repeat' (first
  | ((first | refine zaf ?_ | refine zaj ?_ | refine zah ?_ | refine zai ?_ | fail); simp [hne, hf0, hf3, del, nAA])
  | ((first | refine zas ?_ | refine zaq ?_ | fail); simp only [zap])
  | (refine CallP.ok1 (ha _ (by first | omega | simp <;> omega | fail)) (by first | (simp [hne, hf0, hf3, del, nAA, zaa, getK, zab, zac]; done) | fail) (by rfl) (by rfl) ?_; (try simp [hne, hf0, hf3, del, nAA]))
  | fail)
  refine EndW.norm ?_
  simp [St.norm, zbh, zb3, zcs, zct, hne, nAA]
  (refine EndW.here ?_; (first | (refine EndOK.fin (.inr rfl) ?_) | (refine EndOK.fin (.inl rfl) ?_)); simp [zaM, zag, Tryz.results95, hne, hi]; refine FinOK.cut [(i, pOb l q0)] (nx) (by simp [zaa, getK, zab, zac, Ob.under, D.under, zad, zae, hne, hi] <;> omega) (by simp [D.under]) (by simp [hn]) ?_; try simp)
  exact PPost.zcr (by simp [PR.bind, *]; rfl) (by simp [Exp.row_eq, Exp.op, Exp.n, Exp.unit, Exp.s, Exp.args]) rfl
theorem zkY {l : List Tok} (hl : TokOK l) {f : Nat} (hE : zhC l f) (hP : zip l f) : zri l (f + 1) := by
 intro p form i nx hi hp hf hm0 hm7
 have hf' : 4 * (l.length - p) + 1 ≤ f := by omega
 by_cases hf0 : form = 0
 ·have hf3 : form ≤ 3 := by omega
  cases h1 : isB l p [105, 102] with
  | true => exact znQ hl hE hp hf' hf0 h1 hi
  | false =>
   cases h2 : isB l p [110, 111, 116] with
   | true => exact zk0 hl hE hp hf' hf0 hf3 h1 h2 hi
   | false => exact zjL hl hP hp hf' hf0 hf3 h1 h2 hi
 ·by_cases hf3 : form ≤ 3
  ·cases h2 : isB l p [110, 111, 116] with
   | true => exact zkZ hl hE hp hf' hf0 hf3 h2 hi
   | false => exact zjK hl hP hp hf' hf0 hf3 h2 hi
  ·exact zjJ hl hP hp hf' hf0 hf3 hi
theorem zn0 (s : List UInt8) (l : List Tok) (nx : Nat) (h : zgs s = .ok l) :
  RetX Tryz.prog 34 [.u (.str s)] [] nx (fun r o n => r = .val (.tup [.ptr nx 0, .u (.int .i64 0), .u (.int .i64 0)]) ∧ o = [(nx, pOb l 0)] ∧ n = nx + 1) := by
 have h1 := zog s
 rw [h] at h1
 simp only [zh5] at h1
 (refine RetX.of_bodyW Tryz.func34 rfl (by simp) fun Γ hn hpan => ?_); simp only [entry, ziC, ziN, maC, maN, oA, Tryz.ntmps34]
 repeat' (first
  | ((first | refine zaf ?_ | refine zaj ?_ | refine zah ?_ | fail); simp)
  | (refine zas ?_; simp only [zap])
  | (refine CallP.fE (h1) (by first | rfl | fail) (by first | (simp; done) | (simp; rfl) | fail) ?_; (try simp))
  | fail)
 (refine EndW.here ?_; (first | (refine EndOK.fin (.inr rfl) ?_) | (refine EndOK.fin (.inl rfl) ?_)); simp [zaM, zag, Tryz.results34]; refine FinOK.here (by simp) ?_; try simp)
theorem zlD (s : List UInt8) (p : Nat) (e : Int) (nx : Nat) (h : zgs s = .error (p, e)) :
  RetX Tryz.prog 34 [.u (.str s)] [] nx (fun r o n => r = .val (.tup [.ptr nx 0, .u (.int .i64 p), .u (.int .i64 e)]) ∧ o = [(nx, pOb [] 0)] ∧ n = nx + 1) := by
 have h1 := zog s
 rw [h] at h1
 simp only [zh5] at h1
 (refine RetX.of_bodyW Tryz.func34 rfl (by simp) fun Γ hn hpan => ?_); simp only [entry, ziC, ziN, maC, maN, oA, Tryz.ntmps34]
 repeat' (first
  | ((first | refine zaf ?_ | refine zaj ?_ | refine zah ?_ | fail); simp)
  | (refine zas ?_; simp only [zap])
  | (refine CallP.fE (h1) (by first | rfl | fail) (by first | (simp; done) | (simp; rfl) | fail) ?_; (try simp))
  | fail)
 (refine EndW.here ?_; (first | (refine EndOK.fin (.inr rfl) ?_) | (refine EndOK.fin (.inl rfl) ?_)); simp [zaM, zag, Tryz.results34]; refine FinOK.here (by simp) ?_; try simp)
theorem zhw (i j nx : Nat) (hi : i < nx) (hj : j < nx) (hij : i ≠ j) (p e : Int) :
  RetX Tryz.prog 36 [.u (.oth .nilIface), .ptr i 0, .ptr j 0] [(i, .box [.u (.int .i64 p)]), (j, .box [.u (.int .i64 e)])] nx
   (fun r o n => r = .val (.u (.bool false)) ∧ o = [(i, .box [.u (.int .i64 p)]), (j, .box [.u (.int .i64 e)])] ∧ n = nx) := by
 have hne := zaB hi
 have hne2 := zaB hj
 (refine RetX.of_bodyW Tryz.func36 rfl (by simp) fun Γ hn hpan => ?_); simp only [entry, ziC, ziN, maC, maN, oA, Tryz.ntmps36]
 repeat' (first
  | ((first | refine zaf ?_ | refine zaj ?_ | refine zah ?_ | fail); simp [hne, hne2, hij, Ne.symm hij])
  | fail)
 refine ⟨[.int .i64 0, .int .i64 0], rfl, ?_⟩
 repeat' (first
  | ((first | refine zaf ?_ | refine zaj ?_ | refine zah ?_ | refine zai ?_ | fail); simp [hne, hne2, hij, Ne.symm hij])
  | ((first | refine zas ?_ | refine zaq ?_ | fail); simp only [zap])
  | fail)
 (refine EndW.here ?_; (first | (refine EndOK.fin (.inr rfl) ?_) | (refine EndOK.fin (.inl rfl) ?_)); simp [zaM, zag, Tryz.results36, hne, hne2, hij, Ne.symm hij, hi, hj]; refine FinOK.cut [(i, .box [.u (.int .i64 p)]), (j, .box [.u (.int .i64 e)])] (nx) (by simp [zaa, getK, zab, zac, Ob.under, D.under, zad, zae, hne, hne2, hij, Ne.symm hij, hi, hj] <;> omega) (by simp [D.under]) (by simp [hn]) ?_; try simp)
theorem zhv (i j nx : Nat) (hi : i < nx) (hj : j < nx) (hij : i ≠ j) (p e pos err : Int) :
  RetX Tryz.prog 36 [.u (.oth (.iface 105 (.agg #[.int .i64 pos, .int .i64 err]))), .ptr i 0, .ptr j 0] [(i, .box [.u (.int .i64 p)]), (j, .box [.u (.int .i64 e)])] nx
   (fun r o n => r = .val (.u (.bool true)) ∧ o = [(i, .box [.u (.int .i64 pos)]), (j, .box [.u (.int .i64 err)])] ∧ n = nx) := by
 have hne := zaB hi
 have hne2 := zaB hj
 (refine RetX.of_bodyW Tryz.func36 rfl (by simp) fun Γ hn hpan => ?_); simp only [entry, ziC, ziN, maC, maN, oA, Tryz.ntmps36]
 repeat' (first
  | ((first | refine zaf ?_ | refine zbo rfl ?_ | refine zb8 rfl ?_ | refine zaj ?_ | refine zah ?_ | refine zai ?_ | fail); simp [hne, hne2, hij, Ne.symm hij])
  | (refine zbH (hC _ (zcp [i, j] nx (by simp <;> omega) (by simp <;> omega) (by apply Exists.intro; apply And.intro; (focus (repeat' (first | exact KF.nil | exact KL.nil | apply KF.cons | apply KL.cons 0 rfl | apply KL.cons 1 rfl | apply KL.cons 2 rfl | apply KL.cons 3 rfl | apply KL.cons 4 rfl | apply KL.cons 5 rfl | apply KL.cons 6 rfl | apply KL.cons 7 rfl | apply KL.cons 8 rfl | apply KL.cons 9 rfl))); kernel_rfl))) (hk _ ?_); clear hC hk C k; simp only [zap])
  | (refine zb0 rfl (by kernel_rfl) (by first | (simp [hn]; done) | (simp [hn]; omega) | fail) fun C k hC hk => ?_; simp [hne, hne2, hij, Ne.symm hij])
  | ((first | refine zas ?_ | refine zaq ?_ | fail); simp only [zap])
  | fail)
 (refine EndW.here ?_; (first | (refine EndOK.fin (.inr rfl) ?_) | (refine EndOK.fin (.inl rfl) ?_)); simp [zaM, zag, Tryz.results36, hne, hne2, hij, Ne.symm hij, hi, hj]; refine FinOK.cut [(i, .box [.u (.int .i64 pos)]), (j, .box [.u (.int .i64 err)])] (nx) (by simp [zaa, getK, zab, zac, Ob.under, D.under, zad, zae, hne, hne2, hij, Ne.symm hij, hi, hj] <;> omega) (by simp [D.under]) (by simp [hn]) ?_; try simp)
theorem zpp (i j q nx : Nat) (hi : i < nx) (hj : j < nx) (hq : q < nx) (hij : i ≠ j) (hiq : i ≠ q) (hjq : j ≠ q) (p e : Int) (cells : List U) :
  RetDf Tryz.prog 40 [.ptr i 0, .ptr j 0, .ptr q 0] [(i, .box [.u (.int .i64 p)]), (j, .box [.u (.int .i64 e)]), (q, .box (cells.map .u))] nx .returning
   (fun u o n => settle u = .returning ∧ n = nx ∧ o = [(i, .box [.u (.int .i64 p)]), (j, .box [.u (.int .i64 e)]), (q, .box (cells.map .u))]) := by
 have hne := zaB hi
 have hne2 := zaB hj
 have hne3 := zaB hq
 have hc0 := zhw i j nx hi hj hij p e
 refine RetDf.of_body Tryz.func40 rfl (by simp) (by simp) rfl fun Γ hn => ?_
 simp [entry, zkU, Tryz.ntmps40]
 refine CallP.x2 hc0 (by simp [getK]) (by simp [getK, hij, Ne.symm hij]) hij rfl rfl (by simp) (by simp) (fun d o1 nx' hnx h => ?_) (fun ch o1 nx' hnx h => by cases h.1)
 obtain ⟨h1, rfl, h4⟩ := h
 have h4 := h4.symm
 subst h4
 cases h1
 simp [del, hij, Ne.symm hij, hiq, hjq, Ne.symm hiq, Ne.symm hjq]
 repeat' (first
  | (refine zai ?_; simp [hij, hiq, hjq])
  | (refine zaq ?_; simp only [zap])
  | fail)
 (refine ⟨by simp, { n := _, env := [], obs := [(i, .box [.u (.int .i64 p)]), (j, .box [.u (.int .i64 e)]), (q, .box (cells.map .u))], next := nx }, (Wk.cut rfl (by simp [hn]) (by simp [wkO, zaa, getK, zab, zac, Ob.under, D.under, zad, zae, hi, hj, hq, hne, hne2, hne3, hij, hiq, hjq, Ne.symm hij, Ne.symm hiq, Ne.symm hjq]) (by simp [wkU, zan, zaa, getK, D.under, hi, hj, hq, hne, hne2, hne3, hij, hiq, hjq, Ne.symm hij, Ne.symm hiq, Ne.symm hjq]) (by simp [wkE, zan, zaa, getK, hi, hj, hq, hne, hne2, hne3, hij, hiq, hjq, Ne.symm hij, Ne.symm hiq, Ne.symm hjq])), by simp [hn], ?_⟩; try simp)
 all_goals rfl
end Go.Proofs.YthnemhfamhnfjaaGreatDoor
namespace Go.Proofs.YthnemhfamhnfjaaGreatDoor
open Go Go.VL
attribute [local simp] zdy zck evPure opd uOf zaI St.put St.at getK binD binI binS binB nilD aggD zii zjj lookD lookR zcY Go.VL.nextD zc1 zkb zjm zhD zcO mkV zdU zbt zbE mapEff zeJ zgV Key.kk shiftI arith unD convD zeH loadD cellsAt fieldAddrD fieldD indexAddrD indexD sliceD cutD lenD minmaxD nilCheckD buildD fillD zb4 zdM zfi setAll zdm zfu zcU zja zcL St.add za0 zbZ rowsOf zew zc6 zak zac zaa zbe zc4 zaY entry zbS zb9 valD zcn zcT zhO zdS zdT zcc zbU zaw za2 zbx delAll effD St.effS zdP zbk zbb zdQ zbl zbd zcD zbc za4 zcE zdH zbV zcz zbw zcx zcy zaP mkD zbO zbG zbT zaw zcR D.ids Op.operands Call.operands zbN makeIfD makeFuncD typeAssertD zji zei zej zjh zcZ IntKind.bits zdq List.take_of_length_le List.range_succ
attribute [local irreducible] V G H HD HD2 zap Eff CallP CallV EndOK Fun Ret FinOK LoopI LoopW EndW
abbrev zrv (o : Opr) : D := .u (.agg [.str o.text, .int .i64 o.op, .int .i64 o.form])
abbrev zmL (l : List Opr) : U := .sl (l.map fun o => [.str o.text, .int .i64 o.op, .int .i64 o.form])
theorem zes : Fun Tryz.prog 97 [] (· = .u (zmL oprs)) := by
 unfold zmL oprs
 (refine Fun.of_bodyW Tryz.func97 rfl (by simp) fun Γ hn => ?_); simp only [entry, ziC, ziN, maC, maN, oA, Tryz.ntmps97]
 repeat' (first
  | ((first | refine zaf ?_ | refine zaj ?_ | refine zah ?_ | fail); simp [zb9, zbS])
  | (refine zas ?_; simp only [zap])
  | fail)
 (refine EndW.frzN 1 ?_; simp [frzN, frz1, zaz, zay, St.frz, St.frzS, frzS, fv, zaH, za3, za5, zaE, zat, zal, del, frz, za6])
 refine EndW.here ?_
 (refine EndOK.val (.inr rfl) ?_; simp [zaM, zag, zau, Tryz.results97])
theorem zpU (l : List Tok) (q : Nat) (o : Opr) (hq : q < l.length) (hl : l.length ≤ 1000000) : Fun Tryz.prog 98 (zrv o :: [U.row [zqu l q] 0].map .u) (· = .u (.bool (isB l q o.text))) := by
 have h1 := zdY l q o.text hq hl
 simp only [List.map_cons, List.map_nil, zrv]
 (refine Fun.of_body Tryz.func98 rfl (by simp) fun Γ hn => ?_); simp only [entry, ziC, ziN, maC, maN, oA, Tryz.ntmps98]
 repeat' (first
  | ((first | refine zaf ?_ | refine zaj ?_ | refine zah ?_ | fail); simp)
  | (refine zas ?_; simp only [zap])
  | (refine CallP.fE (h1) (by first | rfl | fail) (by first | (simp; done) | (simp; rfl) | fail) ?_; (try simp))
  | fail)
 (refine EndOK.val (.inr rfl) ?_; simp [zaM, zag, zau, Tryz.results98])
theorem zid (l : List (Opr)) (f : FuncId) (caps : List U) (p : Opr → Bool) (hf : ∀ n ∈ l, Fun Tryz.prog f (zrv n :: caps.map .u) (· = .u (.bool (p n)))) (hcl : zam Tryz.prog f = true)
  (hca : ∀ o, zcT o (caps.map .u) = some (caps.map .u, [])) : Fun Tryz.prog 96 [.u (zmL l), .fnc (.func f) (caps.map .u)] (· = .u (.int .i64 (zhJ p l 0))) := by
 (refine Fun.of_body Tryz.func96 rfl (by simp) fun Γ hn => ?_); simp only [entry, ziC, ziN, maC, maN, oA, Tryz.ntmps96]
 simp only [zmL]
 refine zjd (x := 0) rfl fun hl => ?_
 simp at hl
 repeat' (first
  | ((first | refine zaf ?_ | refine zaj ?_ | refine zah ?_ | refine zaD ?_ | fail); simp)
  | fail)
 refine zdt (α := { i : Nat // i ≤ l.length ∧ ∀ c ∈ l.take i, p c = false }) [0, 1, 7] (fun i => [(8, .u (.int .i64 i.1))]) (fun i => l.length - i.1) ⟨0, by omega, by simp⟩ ?_ ?_
 ·exact (Wk.env rfl rfl rfl (by simp [wkE, St.lp, zan, zaa, getK] <;> (try (intros; simp_all; done)) <;> (try (intros; omega)) <;> (try grind)))
 rintro ⟨i, hi, hb⟩
 simp [St.lp, St.only, zan, zaa, getK]
 rcases hx : l[i]? with _ | n
 ·have hge : l.length ≤ i := by simpa using hx
  repeat' (first
  | ((first | refine zaf ?_ | refine zaj ?_ | fail); simp [hx])
  | (refine ⟨by omega, ?_⟩)
  | (refine zah ?_; simp [hx])
  | (refine zas ?_; simp only [zap])
  | (refine zce ?_; simp [zap])
  | (intro hc <;> (try (exfalso; omega)))
  | fail)
  (refine EndOK.val (.inr rfl) ?_; simp [zaM, zag, zau, Tryz.results96])
  rw [List.take_of_length_le hge] at hb
  exact (zfL hb).symm
 ·have hlt : i < l.length := (lGE.1 hx).1
  have h1 := hf n (List.mem_of_getElem? hx)
  simp only [zrv] at h1
  cases hp : p n
  ·rw [hp] at h1
   repeat' (first
  | ((first | refine zaf ?_ | refine zaj ?_ | fail); simp [hx, hca])
  | (refine ⟨by omega, ?_⟩)
  | ((first | refine zah ?_ | refine zai ?_ | refine zaG ?_ | fail); simp [hx, hca])
  | (refine zaq ?_; simp only [zap])
  | (refine ⟨?_, by omega⟩)
  | (intro hc <;> (try (exfalso; omega)))
  | (refine CallP.fE (h1) (by first | rfl | fail) (by first | simp [hx, hca] <;> rfl | fail) ?_; (try simp [hcl, hx, hca]))
  | fail)
   refine LoopW.next ⟨i + 1, by omega, zbB hx hb hp⟩ (by simp; omega) ?_
   exact (Wk.env rfl rfl rfl (by simp [wkE, St.lp, zan, zaa, getK] <;> (try (intros; simp_all; done)) <;> (try (intros; omega)) <;> (try grind)))
  ·rw [hp] at h1
   repeat' (first
  | ((first | refine zaf ?_ | refine zaj ?_ | refine zah ?_ | refine zai ?_ | fail); simp [hx, hca])
  | ((first | refine zas ?_ | refine zaq ?_ | fail); simp only [zap])
  | (refine ⟨?_, by omega⟩)
  | (intro hc <;> (try (exfalso; omega)))
  | (refine CallP.fE (h1) (by first | rfl | fail) (by first | simp [hx, hca] <;> rfl | fail) ?_; (try simp [hcl, hx, hca]))
  | fail)
   (refine EndOK.val (.inr rfl) ?_; simp [zaM, zag, zau, Tryz.results96])
   rw [ziV hb hx hp]
   omega
theorem zfM {p : Opr → Bool} : ∀ (L : List Opr) (k : Int), (L.find? p = none → zhJ p L k = -1) ∧ ∀ x, L.find? p = some x → ∃ j : Nat, L[j]? = some x ∧ zhJ p L k = k + j
 | [], k => ⟨fun _ => rfl, fun x h => by simp at h⟩
 | a :: L, k => by
  by_cases h : p a = true
  ·refine ⟨fun h1 => by simp [h] at h1, fun x h1 => ?_⟩
   rw [List.find?_cons, h] at h1
   cases h1
   exact ⟨0, rfl, by rw [zhJ, if_pos h]; simp⟩
  ·have h' : p a = false := by simpa using h
   obtain ⟨h1, h2⟩ := zfM L (k + 1)
   refine ⟨fun h3 => ?_, fun x h3 => ?_⟩
   ·rw [List.find?_cons, h'] at h3
    rw [zhJ, if_neg h]
    exact h1 h3
   ·rw [List.find?_cons, h'] at h3
    obtain ⟨j, h4, h5⟩ := h2 x h3
    exact ⟨j + 1, h4, by rw [zhJ, if_neg h, h5]; omega⟩
theorem zm9 (l : List Tok) (q : Nat) (hq : q < l.length) (hl : l.length ≤ 1000000) : Fun Tryz.prog 96 [.u (zmL oprs), .fnc (.func 98) [.u (.row [zqu l q] 0)]]
  (· = .u (.int .i64 (zhJ (fun o => isB l q o.text) oprs 0))) :=
 zid oprs 98 [U.row [zqu l q] 0] (fun o => isB l q o.text) (fun o _ => zpU l q o hq hl) rfl (fun o => rfl)
end Go.Proofs.YthnemhfamhnfjaaGreatDoor
namespace Go.Proofs.YthnemhfamhnfjaaGreatDoor
open Go Go.VL
attribute [local simp] HS zdy zck evPure opd uOf zaI St.put St.at getK binD binI binS binB nilD aggD zii zjj lookD lookR zcY Go.VL.nextD zc1 zkb zjm zhD zcO mkV zdU zbt zbE mapEff zeJ zgV Key.kk shiftI arith unD convD zeH loadD cellsAt fieldAddrD fieldD indexAddrD indexD sliceD cutD lenD minmaxD nilCheckD buildD fillD zb4 zdM zfi setAll zdm zfu zcU zja zcL St.add za0 zbZ rowsOf zew zc6 zak zac zaa zbe zc4 zaY entry zbS zb9 valD zcn zcT zhO zdS zdT zcc zbU zaw za2 zbx delAll effD St.effS zdP zbk zbb zdQ zbl zbd zcD zbc za4 zcE zdH zbV zcz zbw zcx zcy zaP mkD zbO zbG zbT zaw zcR D.ids Op.operands Call.operands zbN makeIfD makeFuncD typeAssertD zji zei zej zjh zcZ IntKind.bits zdq List.take_of_length_le List.range_succ
attribute [local irreducible] V G H HD HD2 HD4 zns RetX zap Eff CallP CallV EndOK Fun Ret FinOK LoopI LoopW EndW
theorem zrH {l : List Tok} {F : FuncId} {r : PR (Exp × Int)} {e : Exp × Int} {q i nx : Nat} {ds : List D} {obs : List (Nat × Ob)} (h : RetX Tryz.prog F ds obs nx (PPost l i nx zjU r)) (hr : r = .ok e q) :
  RetX Tryz.prog F ds obs nx fun r o n => r = .val (.tup [.u (.agg [.int .i64 e.1.op, .int .i64 e.1.n, .int .i64 e.1.unit, .str e.1.s, .sl (e.1.args.map Exp.row)]), .u (.int .i64 e.2)]) ∧ o = [(i, pOb l q)] ∧ n = nx := by
 subst hr
 rw [← Exp.row_eq]
 exact h
abbrev zsy (e : Exp) : Ob := .box [.u (.int .i64 e.op), .u (.int .i64 e.n), .u (.int .i64 e.unit), .u (.str e.s), .u (.sl (e.args.map Exp.row))]
theorem zpT {l : List Tok} (hl : TokOK l) {f : Nat} (hE : ∀ g, g < f → zhC l g) (hP : zri l f) : zhC l (f + 1) := by
 intro p form i nx hi hp hf hm0 hm7
 have hne := zaB hi
 have hll := hl.len
 rw [zcC]
 have ha := fun nx' (h : nx ≤ nx') => hP p form i nx' (by omega) hp (by omega) hm0 hm7
 have hop := zes
 cases hr0 : zaV l f p form with
 | stop pos e =>
  simp only [hr0] at ha
  (refine RetX.of_bodyW Tryz.func41 rfl (by simp) fun Γ hn hpan => ?_); simp only [entry, ziC, ziN, maC, maN, oA, Tryz.ntmps41]
  repeat' (first
  | ((first | refine zaf ?_ | refine zaj ?_ | refine zah ?_ | fail); simp [hne, del, nAA])
  | (refine CallP.zem (ha _ (by first | omega | simp <;> omega | fail)) (by first | (simp [hne, del, nAA, zaa, getK, zab, zac]; done) | fail) (by rfl) (by first | assumption | (simp; done) | fail) (by rfl) (by simp) ?_; rintro ob' ⟨q', rfl⟩; refine ⟨_, Wk.refl _, ?_⟩)
  | fail)
  (refine hpan _ _ ⟨{ n := _, env := [], obs := [(i, pOb l q')], next := nx }, (Wk.cut rfl (by simp [hn]) (by simp [wkO, zaa, getK, zab, zac, Ob.under, D.under, zad, zae, hi, hne, zab, zac, zaa, getK]) (by simp [wkU, zan, zaa, getK, D.under, hi, hne, zab, zac, zaa, getK]) (by simp [wkE, zan, zaa, getK, hi, hne, zab, zac, zaa, getK])), by simp [hn], ?_⟩; try simp)
  exact PPost.zax (by simp [PR.bind, *])
 | ok v0 q0 =>
  have ha := fun nx' h => zrH (ha nx' h) hr0
  obtain ⟨g0a, g0b⟩ := (zbJ hl f).2.2.1 _ _ _ _ hr0 hp
  generalize hR : (PR.ok v0 q0).bind (fun e q => zcK l f form e.1 e.2 q) = R
  have hR' : R = zcK l f form v0.1 v0.2 q0 := hR.symm
  (refine RetX.of_bodyW Tryz.func41 rfl (by simp) fun Γ hn hpan => ?_); simp only [entry, ziC, ziN, maC, maN, oA, Tryz.ntmps41]
  repeat' (first
  | ((first | refine zaf ?_ | refine zaj ?_ | refine zah ?_ | refine zaD ?_ | fail); simp [hne, del, nAA])
  | (refine CallP.ok1 (ha _ (by first | omega | simp <;> omega | fail)) (by first | (simp [hne, del, nAA, zaa, getK, zab, zac]; done) | fail) (by rfl) (by rfl) ?_; (try simp [hne, del, nAA]))
  | fail)
  refine zd8 (α := { x : Exp × Int × Nat × Nat // x.2.2.1 < l.length ∧ 4 * (l.length - x.2.2.1) + 2 ≤ x.2.2.2 ∧ x.2.2.2 ≤ f ∧ R = zcK l x.2.2.2 form x.1 x.2.1 x.2.2.1 }) [0, 1, 2, 4, 5] (fun x => [(6, .u (.int .i64 x.1.2.1))])
   (fun x => [(nx + 2, zsy x.1.1), (nx + 1, .box [.u (.int .i64 0), .u (.int .i64 0), .u (.int .i64 0), .u (.str []), .u .nil]), (nx, .box [.ptr i 0]), (i, pOb l x.1.2.2.1)]) (nx + 3) (fun x => x.1.2.2.2) ⟨(v0.1, v0.2, q0, f), g0b, (by show 4 * (l.length - q0) + 2 ≤ f; omega), (by show f ≤ f; omega), hR'⟩ ?_ ?_
  ·have hi3 : i < nx + 3 := by omega
   exact (Wk.cut rfl (by simp [hn, St.lp]) (by simp [wkO, St.lp, zaa, getK, Ob.under, D.under, zad, zae, hi, hi3, hne]) (by simp [wkU, St.lp, zan, zaa, getK, D.under, hi, hi3, hne]) (by simp [wkE, St.lp, zan, zaa, getK, hi, hi3, hne] <;> (try (intros; simp_all; done)) <;> (try (intros; omega)) <;> (try grind)))
  rintro ⟨⟨e, own, q, g⟩, h1, h2, h2b, h3⟩
  simp only at h1 h2 h2b h3
  simp [St.lp, St.only, zan, zaa, getK]
  obtain ⟨g, rfl⟩ : ∃ g', g = g' + 1 := ⟨g - 1, by omega⟩
  rw [zcK] at h3
  have hix := zm9 l q h1 hl.len
  cases hx : zfa l q with
  | none =>
   rw [(zfM oprs 0).1 hx] at hix
   rw [hx] at h3
   repeat' (first
  | ((first | refine zaf ?_ | refine zaj ?_ | refine zah ?_ | refine zai ?_ | refine zaD ?_ | fail); simp [hne, del, nAA])
  | (refine zas ?_; simp only [zap])
  | (refine CallP.fE (hop) (by first | rfl | fail) (by first | simp [hne, del, nAA] <;> rfl | fail) ?_; (try simp [hne, del, nAA]))
  | (refine CallP.fE (hix) (by first | rfl | fail) (by first | simp [hne, del, nAA] <;> rfl | fail) ?_; (try simp [hne, del, nAA]))
  | fail)
   refine EndW.norm ?_
   simp [St.norm, zbh, zb3, zcs, zct, hne, nAA]
   (refine EndW.here ?_; (first | (refine EndOK.fin (.inr rfl) ?_) | (refine EndOK.fin (.inl rfl) ?_)); simp [zaM, zag, Tryz.results41, hne, hi]; refine FinOK.cut [(i, pOb l q)] (nx) (by simp [zaa, getK, zab, zac, Ob.under, D.under, zad, zae, hne, hi] <;> omega) (by simp [D.under]) (by simp [hn]) ?_; try simp)
   exact PPost.zcr h3 (by simp [Exp.row_eq]) rfl
  | some x =>
   obtain ⟨k, hk1, hk2⟩ := (zfM oprs 0).2 x hx
   rw [hk2] at hix
   rw [hx] at h3
   simp only at h3
   have hqb := za1 hl (by have := List.find?_some (p := fun o : Opr => isB l q o.text) hx; exact this)
   have hk0 : ¬ ((k : Int) < 0) := by omega
   have hkl : k < 8 := (lGE.1 hk1).1
   rw [show (0 : Int) + k = (k : Int) by omega] at hix
   have hfm : 0 ≤ x.form ∧ x.form ≤ 6 := by
    have := List.mem_of_getElem? hk1
    simp only [oprs, List.mem_cons, List.not_mem_nil, or_false] at this
    rcases this with rfl | rfl | rfl | rfl | rfl | rfl | rfl | rfl <;> decide
   obtain ⟨hf0, hf6⟩ := hfm
   generalize hL : oprs = L at hop hix hk1
   by_cases c1 : x.form < form
   ·rw [if_pos (Or.inl c1)] at h3
    repeat' (first
  | ((first | refine zaf ?_ | refine zaj ?_ | refine zah ?_ | refine zai ?_ | refine zaD ?_ | fail); simp [hne, del, nAA, hk0, hk1, c1])
  | ((first | refine zas ?_ | refine zaq ?_ | fail); simp only [zap])
  | (refine CallP.fE (hop) (by first | rfl | fail) (by first | simp [hne, del, nAA, hk0, hk1, c1] <;> rfl | fail) ?_; (try simp [hne, del, nAA, hk0, hk1, c1]))
  | (refine CallP.fE (hix) (by first | rfl | fail) (by first | simp [hne, del, nAA, hk0, hk1, c1] <;> rfl | fail) ?_; (try simp [hne, del, nAA, hk0, hk1, c1]))
  | fail)
    refine EndW.norm ?_
    simp [St.norm, zbh, zb3, zcs, zct, hne, nAA]
    (refine EndW.here ?_; (first | (refine EndOK.fin (.inr rfl) ?_) | (refine EndOK.fin (.inl rfl) ?_)); simp [zaM, zag, Tryz.results41, hne, hi]; refine FinOK.cut [(i, pOb l q)] (nx) (by simp [zaa, getK, zab, zac, Ob.under, D.under, zad, zae, hne, hi] <;> omega) (by simp [D.under]) (by simp [hn]) ?_; try simp)
    exact PPost.zcr h3 (by simp [Exp.row_eq]) rfl
   ·by_cases c2 : own < x.form
    ·rw [if_pos (Or.inr (Or.inl c2))] at h3
     repeat' (first
  | ((first | refine zaf ?_ | refine zaj ?_ | refine zah ?_ | refine zai ?_ | refine zaD ?_ | fail); simp [hne, del, nAA, hk0, hk1, c1, c2])
  | ((first | refine zas ?_ | refine zaq ?_ | fail); simp only [zap])
  | (refine CallP.fE (hop) (by first | rfl | fail) (by first | simp [hne, del, nAA, hk0, hk1, c1, c2] <;> rfl | fail) ?_; (try simp [hne, del, nAA, hk0, hk1, c1, c2]))
  | (refine CallP.fE (hix) (by first | rfl | fail) (by first | simp [hne, del, nAA, hk0, hk1, c1, c2] <;> rfl | fail) ?_; (try simp [hne, del, nAA, hk0, hk1, c1, c2]))
  | fail)
     refine EndW.norm ?_
     simp [St.norm, zbh, zb3, zcs, zct, hne, nAA]
     (refine EndW.here ?_; (first | (refine EndOK.fin (.inr rfl) ?_) | (refine EndOK.fin (.inl rfl) ?_)); simp [zaM, zag, Tryz.results41, hne, hi]; refine FinOK.cut [(i, pOb l q)] (nx) (by simp [zaa, getK, zab, zac, Ob.under, D.under, zad, zae, hne, hi] <;> omega) (by simp [D.under]) (by simp [hn]) ?_; try simp)
     exact PPost.zcr h3 (by simp [Exp.row_eq]) rfl
    ·by_cases c3 : own = 4 ∧ x.form = 4
     ·rw [if_pos (Or.inr (Or.inr c3))] at h3
      obtain ⟨c4, c5⟩ := c3
      repeat' (first
  | ((first | refine zaf ?_ | refine zaj ?_ | refine zah ?_ | refine zai ?_ | refine zaD ?_ | fail); simp [hne, del, nAA, hk0, hk1, c1, c2, c4, c5])
  | ((first | refine zas ?_ | refine zaq ?_ | fail); simp only [zap])
  | (refine ⟨?_, by omega⟩)
  | (intro hc <;> (try (exfalso; omega)))
  | (refine CallP.fE (hop) (by first | rfl | fail) (by first | simp [hne, del, nAA, hk0, hk1, c1, c2, c4, c5] <;> rfl | fail) ?_; (try simp [hne, del, nAA, hk0, hk1, c1, c2, c4, c5]))
  | (refine CallP.fE (hix) (by first | rfl | fail) (by first | simp [hne, del, nAA, hk0, hk1, c1, c2, c4, c5] <;> rfl | fail) ?_; (try simp [hne, del, nAA, hk0, hk1, c1, c2, c4, c5]))
  | fail)
      refine EndW.norm ?_
      simp [St.norm, zbh, zb3, zcs, zct, hne, nAA]
      (refine EndW.here ?_; (first | (refine EndOK.fin (.inr rfl) ?_) | (refine EndOK.fin (.inl rfl) ?_)); simp [zaM, zag, Tryz.results41, hne, hi]; refine FinOK.cut [(i, pOb l q)] (nx) (by simp [zaa, getK, zab, zac, Ob.under, D.under, zad, zae, hne, hi] <;> omega) (by simp [D.under]) (by simp [hn]) ?_; try simp)
      exact PPost.zcr h3 (by simp [Exp.row_eq]) rfl
     ·rw [if_neg (by rintro (h | h | h) <;> contradiction)] at h3
      have hb := fun nx' (h : nx ≤ nx') => hE g (by omega) (q + 1) (x.form + 1) i nx' (by omega) hqb (by omega) (by omega) (by omega)
      cases hr1 : zcC l g (q + 1) (x.form + 1) with
      | stop pos err =>
       simp only [hr1] at hb
       rw [hr1] at h3
       by_cases c4 : own = 4
       ·have c5 : ¬ x.form = 4 := fun h => c3 ⟨c4, h⟩
        repeat' (first
  | (refine zf3 (fun nx' h' => hb nx' (by simp at h'; omega)) (by first | (simp [hne, del, nAA, hk0, hk1, c1, c2, c4, c5, zaa, getK, zab, zac, zak, zaP]; done) | fail) (by rfl) (by first | assumption | simp) (by rfl) (by simp) ?_ ?_; rintro env' ob' n' hn' ⟨q', rfl⟩; refine ⟨_, Wk.refl _, ?_⟩)
  | (refine zeW rfl (by simp) ?_; simp)
  | ((first | refine zaf ?_ | refine zbo rfl ?_ | refine zaj ?_ | fail); simp [hne, del, nAA, hk0, hk1, c1, c2, c4, c5])
  | (refine ⟨by omega, ?_⟩)
  | ((first | refine zah ?_ | refine zai ?_ | fail); simp [hne, del, nAA, hk0, hk1, c1, c2, c4, c5])
  | (refine zf4 (hC _ (zcp [i] nx (by simp <;> omega) (by simp <;> omega) (by apply Exists.intro; apply And.intro; (focus (repeat' (first | exact KF.nil | exact KL.nil | apply KF.cons | apply KL.cons 0 rfl | apply KL.cons 1 rfl | apply KL.cons 2 rfl | apply KL.cons 3 rfl | apply KL.cons 4 rfl | apply KL.cons 5 rfl | apply KL.cons 6 rfl | apply KL.cons 7 rfl | apply KL.cons 8 rfl | apply KL.cons 9 rfl))); kernel_rfl))) rfl; done)
  | (refine zb0 rfl (by kernel_rfl) (by first | (simp [hn]; done) | (simp [hn]; omega) | fail) fun C k hC hk => ?_; simp [hne, del, nAA, hk0, hk1, c1, c2, c4, c5])
  | (refine zaD ?_; simp [hne, del, nAA, hk0, hk1, c1, c2, c4, c5])
  | (refine zaq ?_; simp only [zap])
  | (refine ⟨?_, by omega⟩)
  | (intro hc <;> (try (exfalso; omega)))
  | (refine CallP.fE (hop) (by first | rfl | fail) (by first | simp [hne, del, nAA, hk0, hk1, c1, c2, c4, c5] <;> rfl | fail) ?_; (try simp [hne, del, nAA, hk0, hk1, c1, c2, c4, c5]))
  | (refine CallP.fE (hix) (by first | rfl | fail) (by first | simp [hne, del, nAA, hk0, hk1, c1, c2, c4, c5] <;> rfl | fail) ?_; (try simp [hne, del, nAA, hk0, hk1, c1, c2, c4, c5]))
  | fail)
        (refine hpan _ _ ⟨{ n := _, env := [], obs := [(i, pOb l q')], next := nx }, (Wk.cut rfl (by simp [hn]) (by simp [wkO, zaa, getK, zab, zac, Ob.under, D.under, zad, zae, hi, hne, zab, zac, zaa, getK]) (by simp [wkU, zan, zaa, getK, D.under, hi, hne, zab, zac, zaa, getK]) (by simp [wkE, zan, zaa, getK, hi, hne, zab, zac, zaa, getK])), by simp [hn], ?_⟩; try simp)
        exact PPost.zax h3
       ·repeat' (first
  | (refine zf3 (fun nx' h' => hb nx' (by simp at h'; omega)) (by first | (simp [hne, del, nAA, hk0, hk1, c1, c2, c4, zaa, getK, zab, zac, zak, zaP]; done) | fail) (by rfl) (by first | assumption | simp) (by rfl) (by simp) ?_ ?_; rintro env' ob' n' hn' ⟨q', rfl⟩; refine ⟨_, Wk.refl _, ?_⟩)
  | (refine zeW rfl (by simp) ?_; simp)
  | ((first | refine zaf ?_ | refine zbo rfl ?_ | refine zaj ?_ | fail); simp [hne, del, nAA, hk0, hk1, c1, c2, c4])
  | (refine ⟨by omega, ?_⟩)
  | ((first | refine zah ?_ | refine zai ?_ | fail); simp [hne, del, nAA, hk0, hk1, c1, c2, c4])
  | (refine zf4 (hC _ (zcp [i] nx (by simp <;> omega) (by simp <;> omega) (by apply Exists.intro; apply And.intro; (focus (repeat' (first | exact KF.nil | exact KL.nil | apply KF.cons | apply KL.cons 0 rfl | apply KL.cons 1 rfl | apply KL.cons 2 rfl | apply KL.cons 3 rfl | apply KL.cons 4 rfl | apply KL.cons 5 rfl | apply KL.cons 6 rfl | apply KL.cons 7 rfl | apply KL.cons 8 rfl | apply KL.cons 9 rfl))); kernel_rfl))) rfl; done)
  | (refine zb0 rfl (by kernel_rfl) (by first | (simp [hn]; done) | (simp [hn]; omega) | fail) fun C k hC hk => ?_; simp [hne, del, nAA, hk0, hk1, c1, c2, c4])
  | (refine zaD ?_; simp [hne, del, nAA, hk0, hk1, c1, c2, c4])
  | (refine zaq ?_; simp only [zap])
  | (refine CallP.fE (hop) (by first | rfl | fail) (by first | simp [hne, del, nAA, hk0, hk1, c1, c2, c4] <;> rfl | fail) ?_; (try simp [hne, del, nAA, hk0, hk1, c1, c2, c4]))
  | (refine CallP.fE (hix) (by first | rfl | fail) (by first | simp [hne, del, nAA, hk0, hk1, c1, c2, c4] <;> rfl | fail) ?_; (try simp [hne, del, nAA, hk0, hk1, c1, c2, c4]))
  | fail)
        (refine hpan _ _ ⟨{ n := _, env := [], obs := [(i, pOb l q')], next := nx }, (Wk.cut rfl (by simp [hn]) (by simp [wkO, zaa, getK, zab, zac, Ob.under, D.under, zad, zae, hi, hne, zab, zac, zaa, getK]) (by simp [wkU, zan, zaa, getK, D.under, hi, hne, zab, zac, zaa, getK]) (by simp [wkE, zan, zaa, getK, hi, hne, zab, zac, zaa, getK])), by simp [hn], ?_⟩; try simp)
        exact PPost.zax h3
      | ok e2 q2 =>
       have hb := fun nx' h => zc0 (hb nx' h) hr1
       obtain ⟨g1a, g1b⟩ := (zbJ hl g).1 _ _ _ _ hr1 hqb
       rw [hr1] at h3
       by_cases c4 : own = 4
       ·have c5 : ¬ x.form = 4 := fun h => c3 ⟨c4, h⟩
        repeat' (first
  | (refine zhA (fun nx' h' => hb nx' (by simp at h'; omega)) (by first | (simp [hne, del, nAA, hk0, hk1, c1, c2, c4, c5, zaa, getK, zab, zac, zak, zaP]; done) | fail) (by rfl) (by first | assumption | simp) (by rfl) (by simp [D.under, Ob.under]) (by simp) ?_; (try simp [hne, del, nAA, hk0, hk1, c1, c2, c4, c5]))
  | ((first | refine zaf ?_ | refine zbo rfl ?_ | refine zb8 rfl ?_ | refine zaj ?_ | fail); simp [hne, del, nAA, hk0, hk1, c1, c2, c4, c5])
  | (refine ⟨by omega, ?_⟩)
  | ((first | refine zah ?_ | refine zai ?_ | fail); simp [hne, del, nAA, hk0, hk1, c1, c2, c4, c5])
  | (refine zbH (hC _ (zcp [i] nx (by simp <;> omega) (by simp <;> omega) (by apply Exists.intro; apply And.intro; (focus (repeat' (first | exact KF.nil | exact KL.nil | apply KF.cons | apply KL.cons 0 rfl | apply KL.cons 1 rfl | apply KL.cons 2 rfl | apply KL.cons 3 rfl | apply KL.cons 4 rfl | apply KL.cons 5 rfl | apply KL.cons 6 rfl | apply KL.cons 7 rfl | apply KL.cons 8 rfl | apply KL.cons 9 rfl))); kernel_rfl))) (hk _ ?_); clear hC hk C k; simp only [zap])
  | (refine zb0 rfl (by kernel_rfl) (by first | (simp [hn]; done) | (simp [hn]; omega) | fail) fun C k hC hk => ?_; simp [hne, del, nAA, hk0, hk1, c1, c2, c4, c5])
  | ((first | refine zaD ?_ | refine zaG ?_ | fail); simp [hne, del, nAA, hk0, hk1, c1, c2, c4, c5])
  | (refine zaq ?_; simp only [zap])
  | (refine ⟨?_, by omega⟩)
  | (intro hc <;> (try (exfalso; omega)))
  | (refine CallP.fE (hop) (by first | rfl | fail) (by first | simp [hne, del, nAA, hk0, hk1, c1, c2, c4, c5] <;> rfl | fail) ?_; (try simp [hne, del, nAA, hk0, hk1, c1, c2, c4, c5]))
  | (refine CallP.fE (hix) (by first | rfl | fail) (by first | simp [hne, del, nAA, hk0, hk1, c1, c2, c4, c5] <;> rfl | fail) ?_; (try simp [hne, del, nAA, hk0, hk1, c1, c2, c4, c5]))
  | fail)
        have hi3 : i < nx + 3 := by omega
        refine LoopW.next ⟨(.mk x.op 0 0 [] [e, e2], x.form, q2, g), g1b, (by show 4 * (l.length - q2) + 2 ≤ g; omega), (by show g ≤ f; omega), h3⟩ (by show g < g + 1; omega) ?_
        refine Wk.trans (Wk.frzN 1 _) ?_
        simp [hne, nAA, frzN, frz1, zaz, zay, St.frz, St.frzS, frzS, fv, zaH, za3, za5, zaE, zat, zal, del, frz, za6]
        exact (Wk.cut rfl (by simp [hn, St.lp]) (by simp [wkO, St.lp, zaa, getK, Ob.under, D.under, zad, zae, hi, hi3, hne, Exp.row_eq, Exp.op, Exp.n, Exp.unit, Exp.s, Exp.args]) (by simp [wkU, St.lp, zan, zaa, getK, D.under, hi, hi3, hne, Exp.row_eq, Exp.op, Exp.n, Exp.unit, Exp.s, Exp.args]) (by simp [wkE, St.lp, zan, zaa, getK, hi, hi3, hne, Exp.row_eq, Exp.op, Exp.n, Exp.unit, Exp.s, Exp.args] <;> (try (intros; simp_all; done)) <;> (try (intros; omega)) <;> (try grind)))
       ·repeat' (first
  | (refine zhA (fun nx' h' => hb nx' (by simp at h'; omega)) (by first | (simp [hne, del, nAA, hk0, hk1, c1, c2, c4, zaa, getK, zab, zac, zak, zaP]; done) | fail) (by rfl) (by first | assumption | simp) (by rfl) (by simp [D.under, Ob.under]) (by simp) ?_; (try simp [hne, del, nAA, hk0, hk1, c1, c2, c4]))
  | ((first | refine zaf ?_ | refine zbo rfl ?_ | refine zb8 rfl ?_ | refine zaj ?_ | fail); simp [hne, del, nAA, hk0, hk1, c1, c2, c4])
  | (refine ⟨by omega, ?_⟩)
  | ((first | refine zah ?_ | refine zai ?_ | fail); simp [hne, del, nAA, hk0, hk1, c1, c2, c4])
  | (refine zbH (hC _ (zcp [i] nx (by simp <;> omega) (by simp <;> omega) (by apply Exists.intro; apply And.intro; (focus (repeat' (first | exact KF.nil | exact KL.nil | apply KF.cons | apply KL.cons 0 rfl | apply KL.cons 1 rfl | apply KL.cons 2 rfl | apply KL.cons 3 rfl | apply KL.cons 4 rfl | apply KL.cons 5 rfl | apply KL.cons 6 rfl | apply KL.cons 7 rfl | apply KL.cons 8 rfl | apply KL.cons 9 rfl))); kernel_rfl))) (hk _ ?_); clear hC hk C k; simp only [zap])
  | (refine zb0 rfl (by kernel_rfl) (by first | (simp [hn]; done) | (simp [hn]; omega) | fail) fun C k hC hk => ?_; simp [hne, del, nAA, hk0, hk1, c1, c2, c4])
  | ((first | refine zaD ?_ | refine zaG ?_ | fail); simp [hne, del, nAA, hk0, hk1, c1, c2, c4])
  | (refine zaq ?_; simp only [zap])
  | (refine CallP.fE (hop) (by first | rfl | fail) (by first | simp [hne, del, nAA, hk0, hk1, c1, c2, c4] <;> rfl | fail) ?_; (try simp [hne, del, nAA, hk0, hk1, c1, c2, c4]))
  | (refine CallP.fE (hix) (by first | rfl | fail) (by first | simp [hne, del, nAA, hk0, hk1, c1, c2, c4] <;> rfl | fail) ?_; (try simp [hne, del, nAA, hk0, hk1, c1, c2, c4]))
  | fail)
        have hi3 : i < nx + 3 := by omega
        refine LoopW.next ⟨(.mk x.op 0 0 [] [e, e2], x.form, q2, g), g1b, (by show 4 * (l.length - q2) + 2 ≤ g; omega), (by show g ≤ f; omega), h3⟩ (by show g < g + 1; omega) ?_
        refine Wk.trans (Wk.frzN 1 _) ?_
        simp [hne, nAA, frzN, frz1, zaz, zay, St.frz, St.frzS, frzS, fv, zaH, za3, za5, zaE, zat, zal, del, frz, za6]
        exact (Wk.cut rfl (by simp [hn, St.lp]) (by simp [wkO, St.lp, zaa, getK, Ob.under, D.under, zad, zae, hi, hi3, hne, Exp.row_eq, Exp.op, Exp.n, Exp.unit, Exp.s, Exp.args]) (by simp [wkU, St.lp, zan, zaa, getK, D.under, hi, hi3, hne, Exp.row_eq, Exp.op, Exp.n, Exp.unit, Exp.s, Exp.args]) (by simp [wkE, St.lp, zan, zaa, getK, hi, hi3, hne, Exp.row_eq, Exp.op, Exp.n, Exp.unit, Exp.s, Exp.args] <;> (try (intros; simp_all; done)) <;> (try (intros; omega)) <;> (try grind)))
end Go.Proofs.YthnemhfamhnfjaaGreatDoor
namespace Go.VL
open Go
/-- A slice within a struct that came in has a length that an int holds. -/
theorem zqE {P : Program} {Γ : Ctx} {c : Code} {s : St} {Q : Exit → St → Prop} {x j : Nat} {cells : List U} {rows : List (List U)} (hx : getK s.env x = some (.u (.agg cells))) (hj : cells[j]? = some (.sl rows)) (h : rows.length ≤ 9223372036854775807 → V P Γ c s Q) : V P Γ c s Q :=
 zqF (fun K a w hs => by
  have hr := (hs.getK hx).2
  obtain ⟨vs, hl, _, hr⟩ := zeq hr
  have hr := hr j _ hj
  generalize vs.getD j undef = v at hr
  cases hr with
  | slE => simp
  | sl _ b o sz c f hc hcx => unfold maxLen at hcx; omega) h
end Go.VL
namespace Go.Proofs.YthnemhfamhnfjaaGreatDoor
open Go Go.VL
attribute [local simp] zdy zck evPure opd uOf zaI St.put St.at getK binD binI binS binB nilD aggD zii zjj lookD lookR zcY Go.VL.nextD zc1 zkb zjm zhD zcO mkV zdU zbt zbE mapEff zeJ zgV Key.kk shiftI arith unD convD zeH loadD cellsAt fieldAddrD fieldD indexAddrD indexD sliceD cutD lenD minmaxD nilCheckD buildD fillD zb4 zdM zfi setAll zdm zfu zcU zja zcL St.add za0 zbZ rowsOf zew zc6 zak zac zaa zbe zc4 zaY entry zbS zb9 valD zcn zcT zhO zdS zdT zcc zbU zaw za2 zbx delAll effD St.effS zdP zbk zbb zdQ zbl zbd zcD zbc za4 zcE zdH zbV zcz zbw zcx zcy zaP mkD zbO zbG zbT zaw zcR D.ids Op.operands Call.operands zbN makeIfD makeFuncD typeAssertD zji zei zej zjh zcZ IntKind.bits zdq List.take_of_length_le List.range_succ
attribute [local irreducible] V G H HD HD2 zap Eff CallP CallV EndOK Fun Ret FinOK LoopI LoopW EndW
theorem zjO {l : List Tok} (hl : TokOK l) : ∀ f, zhC l f ∧ zri l f ∧ zip l f := by
 intro f
 induction f using Nat.strongRecOn with
 | _ f ih =>
  cases f with
  | zero => exact ⟨fun p form i nx _ _ h => by omega, fun p form i nx _ _ h => by omega, fun p i nx _ _ h => by omega⟩
  | succ f =>
   obtain ⟨h1, h2, h3⟩ := ih f (by omega)
   exact ⟨zpT hl (fun g hg => (ih g (by omega)).1) h2, zkY hl h1 h3, zjH hl h1⟩
def Exp.lev : Exp → Int
 | .mk _ _ _ _ args => (args.map fun e => e.lev).foldl max 0 + 1
theorem Exp.zf5 (e : Exp) : e.lev = (e.args.map Exp.lev).foldl max 0 + 1 := by
 cases e with
 | mk op n u s args => rw [Exp.lev]; rfl
theorem zbX : ∀ (l : List Int) (a : Int), a ≤ l.foldl max a ∧ ∀ x ∈ l, x ≤ l.foldl max a
 | [], a => ⟨by simp, fun x h => by simp at h⟩
 | b :: l, a => by
  obtain ⟨h1, h2⟩ := zbX l (max a b)
  refine ⟨by simp only [List.foldl_cons]; omega, fun x hx => ?_⟩
  rcases List.mem_cons.1 hx with rfl | hx
  ·simp only [List.foldl_cons]; omega
  ·exact h2 x hx
theorem Exp.lev_pos (e : Exp) : 1 ≤ e.lev := by
 rw [Exp.zf5]
 have := (zbX (e.args.map Exp.lev) 0).1
 omega
theorem Exp.zft {e x : Exp} (h : x ∈ e.args) : SizeOf.sizeOf x < SizeOf.sizeOf e := by
 cases e with
 | mk op n u s args =>
  have := List.sizeOf_lt_of_mem h
  simp only [Exp.args] at this
  simp only [Exp.mk.sizeOf_spec]
  omega
theorem zh8 : ∀ (n : Nat) (e : Exp), SizeOf.sizeOf e ≤ n → e.lev ≤ 1000000000 → Fun Tryz.prog 44 [.u (.agg e.row)] (· = .u (.int .i64 e.lev)) := by
 intro n
 induction n with
 | zero =>
  intro e h
  cases e with
  | mk op n u s args => simp only [Exp.mk.sizeOf_spec] at h; omega
 | succ n ih =>
  intro e hs he
  have hx : ∀ x ∈ e.args, Fun Tryz.prog 44 [.u (.agg [.int .i64 x.op, .int .i64 x.n, .int .i64 x.unit, .str x.s, .sl (x.args.map Exp.row)])] (· = .u (.int .i64 x.lev)) := fun x hx => by
   rw [← Exp.row_eq]
   refine ih x (by have := Exp.zft hx; omega) ?_
   have := (zbX (e.args.map Exp.lev) 0).2 x.lev (List.mem_map.2 ⟨x, hx, rfl⟩)
   rw [Exp.zf5] at he
   omega
  have hlb : ∀ k, ((e.args.map Exp.lev).take k).foldl max 0 ≤ 1000000000 := fun k => by
   rw [← List.map_take]
   rw [Exp.zf5] at he
   have h2 : (e.args.map Exp.lev).foldl max 0 = (e.args.drop k |>.map Exp.lev).foldl max ((e.args.take k |>.map Exp.lev).foldl max 0) := by
    rw [← List.foldl_append, ← List.map_append, List.take_append_drop]
   have := (zbX (e.args.drop k |>.map Exp.lev) ((e.args.take k |>.map Exp.lev).foldl max 0)).1
   omega
  rw [Exp.row_eq, Exp.zf5]
  generalize hA : e.args = A at *
  rw [Exp.zf5, hA] at he
  (refine Fun.of_body Tryz.func44 rfl (by simp) fun Γ hn => ?_); simp only [entry, ziC, ziN, maC, maN, oA, Tryz.ntmps44]
  refine zqE (x := 0) (j := 4) rfl rfl fun hl => ?_
  simp at hl
  repeat' (first
  | ((first | refine zaf ?_ | refine zaj ?_ | refine zah ?_ | refine zaD ?_ | fail); simp)
  | fail)
  refine zdt (α := { k : Nat // k ≤ A.length }) [0, 1, 2, 7, 8] (fun k => [(9, .u (.int .i64 k.1)), (3, .u (.int .i64 (((A.map Exp.lev).take k.1).foldl max 0)))]) (fun k => A.length - k.1) ⟨0, by omega⟩ ?_ ?_
  ·exact (Wk.env rfl rfl rfl (by simp [wkE, St.lp, zan, zaa, getK] <;> (try (intros; simp_all; done)) <;> (try (intros; omega)) <;> (try grind)))
  rintro ⟨k, hk⟩
  simp [St.lp, St.only, zan, zaa, getK]
  rcases hy : A[k]? with _ | y
  ·have hge : A.length ≤ k := by simpa using hy
   have hb := hlb k
   rw [List.take_of_length_le (by simpa using hge : (A.map Exp.lev).length ≤ k)] at hb ⊢
   have hb0 := (zbX (A.map Exp.lev) 0).1
   generalize (A.map Exp.lev).foldl max 0 = M at *
   repeat' (first
  | ((first | refine zaf ?_ | refine zaj ?_ | fail); simp [hy])
  | (refine ⟨by omega, ?_⟩)
  | (refine zah ?_; simp [hy])
  | (refine zas ?_; simp only [zap])
  | (refine zce ?_; simp [zap])
  | (intro hc <;> (try (exfalso; omega)))
  | fail)
   (refine EndOK.val (.inr rfl) ?_; simp [zaM, zag, zau, Tryz.results44])
  ·have hlt : k < A.length := (lGE.1 hy).1
   have hfn := hx y (List.mem_of_getElem? hy)
   have ht : ((A.map Exp.lev).take (k + 1)).foldl max 0 = max (((A.map Exp.lev).take k).foldl max 0) y.lev := by
    rw [List.take_add_one, List.getElem?_map, hy]
    simp
   have hb := hlb (k + 1)
   rw [ht] at hb
   have hb0 := (zbX ((A.map Exp.lev).take k) 0).1
   generalize hM : ((A.map Exp.lev).take k).foldl max 0 = M at *
   have hyp := y.lev_pos
   repeat' (first
  | ((first | refine zaf ?_ | refine zaj ?_ | fail); simp [hy, Exp.row_eq])
  | (refine ⟨by omega, ?_⟩)
  | ((first | refine zah ?_ | refine zaG ?_ | fail); simp [hy, Exp.row_eq])
  | (refine zaq ?_; simp only [zap])
  | (refine ⟨?_, by omega⟩)
  | (intro hc <;> (try (exfalso; omega)))
  | (refine CallP.fE (hfn) (by first | rfl | fail) (by first | simp [hy, Exp.row_eq] <;> rfl | fail) ?_; (try simp [hy, Exp.row_eq]))
  | fail)
   refine LoopW.next ⟨k + 1, hlt⟩ (by show A.length - (k + 1) < A.length - k; omega) ?_
   exact (Wk.cut rfl (by simp [hn, St.lp]) (by simp [wkO, St.lp, zaa, getK, Ob.under, D.under, zad, zae, ht]) (by simp [wkU, St.lp, zan, zaa, getK, D.under, ht]) (by simp [wkE, St.lp, zan, zaa, getK, ht] <;> (try (intros; simp_all; done)) <;> (try (intros; omega)) <;> (try grind)))
end Go.Proofs.YthnemhfamhnfjaaGreatDoor
namespace Go.Proofs.YthnemhfamhnfjaaGreatDoor
open Go Go.VL
attribute [local simp] zdy zck evPure opd uOf zaI St.put St.at getK binD binI binS binB nilD aggD zii zjj lookD lookR zcY Go.VL.nextD zc1 zkb zjm zhD zcO mkV zdU zbt zbE mapEff zeJ zgV Key.kk shiftI arith unD convD zeH loadD cellsAt fieldAddrD fieldD indexAddrD indexD sliceD cutD lenD minmaxD nilCheckD buildD fillD zb4 zdM zfi setAll zdm zfu zcU zja zcL St.add za0 zbZ rowsOf zew zc6 zak zac zaa zbe zc4 zaY entry zbS zb9 valD zcn zcT zhO zdS zdT zcc zbU zaw za2 zbx delAll effD St.effS zdP zbk zbb zdQ zbl zbd zcD zbc za4 zcE zdH zbV zcz zbw zcx zcy zaP mkD zbO zbG zbT zaw zcR D.ids Op.operands Call.operands zbN makeIfD makeFuncD typeAssertD zji zei zej zjh zcZ IntKind.bits zdq List.take_of_length_le List.range_succ
attribute [local irreducible] V G H HD HD2 zap Eff CallP CallV EndOK Fun Ret FinOK LoopI LoopW EndW
abbrev zfc (a b : Exp) : Prop := Fun Tryz.prog 15 [.u (.agg a.row), .u (.agg b.row)] (· = .u (.bool (eqB a b)))
theorem znK : ∀ (n : Nat) (a b : Exp), SizeOf.sizeOf a ≤ n → zfc a b := by
 intro n
 induction n with
 | zero =>
  intro a b h
  cases a with
  | mk op n u s args => simp only [Exp.mk.sizeOf_spec] at h; omega
 | succ n ih =>
  intro a b hs
  have hch : ∀ x ∈ a.args, ∀ y, zfc x y := fun x hx y => ih x y (by have := Exp.zft hx; omega)
  unfold zfc
  have key : ∀ B : Bool, (B = true ↔ a = b) → eqB a b = B := fun B h => by
   cases B with
   | true => exact zcb.2 (h.1 rfl)
   | false => exact zeh fun e => by have := h.2 e; cases this
  have hmk : a = b ↔ a.op = b.op ∧ a.n = b.n ∧ a.unit = b.unit ∧ a.s = b.s ∧ a.args = b.args := by
   cases a; cases b
   simp only [Exp.op, Exp.n, Exp.unit, Exp.s, Exp.args, Exp.mk.injEq]
  rw [Exp.row_eq, Exp.row_eq b]
  by_cases c1 : a.op = b.op
  ·by_cases c2 : a.n = b.n
   ·by_cases c3 : a.unit = b.unit
    ·by_cases c4 : a.s = b.s
     ·by_cases c5 : a.args.length = b.args.length
      ·have c5' : (a.args.length : Int) = b.args.length := by omega
       rw [key (eqB a.args b.args) (by rw [zcb, hmk]; exact ⟨fun h => ⟨c1, c2, c3, c4, h⟩, fun h => h.2.2.2.2⟩)]
       clear key hmk
       (refine Fun.of_body Tryz.func15 rfl (by simp) fun Γ hn => ?_); simp only [entry, ziC, ziN, maC, maN, oA, Tryz.ntmps15]
       refine zqE (x := 0) (j := 4) rfl rfl fun hll => ?_
       simp only [List.length_map] at hll
       repeat' (first
  | ((first | refine zaf ?_ | refine zaj ?_ | refine zah ?_ | refine zai ?_ | refine zaD ?_ | fail); simp [c1, c2, c3, c4, c5, c5'])
  | (refine zaq ?_; simp only [zap])
  | fail)
       refine zd8 (α := { i : Nat // i ≤ a.args.length ∧ a.args.take i = b.args.take i }) [2, 3, 4] (fun x => [(5, .u (.int .i64 x.1))]) (fun x => [(1, .box [.u (.int .i64 b.op), .u (.int .i64 b.n), .u (.int .i64 b.unit), .u (.str b.s), .u (.sl (b.args.map Exp.row))]), (0, .box [.u (.int .i64 a.op), .u (.int .i64 a.n), .u (.int .i64 a.unit), .u (.str a.s), .u (.sl (a.args.map Exp.row))])]) 2 (fun x => a.args.length - x.1) ⟨0, by omega, by simp⟩ ?_ ?_
       ·exact (Wk.cut rfl (by simp [hn, St.lp]) (by simp [wkO, St.lp, zaa, getK, Ob.under, D.under, zad, zae, c1, c2, c3, c4, c5]) (by simp [wkU, St.lp, zan, zaa, getK, D.under, c1, c2, c3, c4, c5]) (by simp [wkE, St.lp, zan, zaa, getK, c1, c2, c3, c4, c5] <;> (try (intros; simp_all; done)) <;> (try (intros; omega)) <;> (try grind)))
       rintro ⟨i, hi, hb⟩
       simp [St.lp, St.only, zan, zaa, getK]
       rcases hx : a.args[i]? with _ | x
       ·have hge : a.args.length ≤ i := by simpa using hx
        obtain rfl : i = a.args.length := by omega
        rw [List.take_of_length_le (Nat.le_refl _), List.take_of_length_le (by omega)] at hb
        rw [zcb.2 hb]
        repeat' (first
  | ((first | refine zaf ?_ | refine zaj ?_ | refine zah ?_ | refine zai ?_ | fail); simp [hx, c5])
  | (refine zas ?_; simp only [zap])
  | (refine zce ?_; simp [zap])
  | fail)
        (refine EndOK.val (.inr rfl) ?_; simp [zaM, zag, zau, Tryz.results15])
       ·have hlt : i < a.args.length := (lGE.1 hx).1
        have hlt2 : i < b.args.length := by omega
        obtain ⟨y, hy⟩ : ∃ y, b.args[i]? = some y := ⟨_, List.getElem?_eq_getElem hlt2⟩
        have hi2 : (i : Int) < b.args.length := by omega
        have hi1 : (i : Int) < a.args.length := by omega
        have h1 : zfc x y := hch x (List.mem_of_getElem? hx) y
        unfold zfc at h1
        by_cases hab : x = y
        ·rw [zcb.2 hab] at h1
         rw [Exp.row_eq, Exp.row_eq] at h1
         have hsn : a.args.take (i + 1) = b.args.take (i + 1) := by
          rw [List.take_succ_eq_append_getElem hlt, List.take_succ_eq_append_getElem hlt2, hb, (lGE.1 hx).2, (lGE.1 hy).2, hab]
         repeat' (first
  | ((first | refine zaf ?_ | refine zeE ?_ | refine zaj ?_ | fail); simp [hx, hy, hi1, hi2, c5, Exp.row_eq])
  | (refine ⟨by omega, ?_⟩)
  | ((first | refine zah ?_ | refine zai ?_ | fail); simp [hx, hy, hi1, hi2, c5, Exp.row_eq])
  | (refine zf2 ?_)
  | (refine hk _ ?_; clear hk k; simp only [zap])
  | (refine zeA rfl (by kernel_rfl) (by kernel_rfl) fun k hk => ?_; simp [hx, hy, hi1, hi2, c5, Exp.row_eq])
  | (refine zaG ?_; simp [hx, hy, hi1, hi2, c5, Exp.row_eq])
  | (refine zaq ?_; simp only [zap])
  | (refine CallV.fun_ (h1) (by first | rfl | fail) (by first | simp [hx, hy, hi1, hi2, c5, Exp.row_eq] <;> rfl | fail) ?_ <;> (try simp [hx, hy, hi1, hi2, c5, Exp.row_eq]))
  | fail)
         refine LoopW.next ⟨i + 1, by omega, hsn⟩ (by simp; omega) ?_
         exact (Wk.cut rfl (by simp [hn, St.lp]) (by simp [wkO, St.lp, zaa, getK, Ob.under, D.under, zad, zae, c5]) (by simp [wkU, St.lp, zan, zaa, getK, D.under, c5]) (by simp [wkE, St.lp, zan, zaa, getK, c5] <;> (try (intros; simp_all; done)) <;> (try (intros; omega)) <;> (try grind)))
        ·rw [zeh hab] at h1
         rw [Exp.row_eq, Exp.row_eq] at h1
         have hne : a.args ≠ b.args := fun e => by rw [e] at hx; rw [hx] at hy; cases hy; exact hab rfl
         rw [zeh hne]
         repeat' (first
  | ((first | refine zaf ?_ | refine zeE ?_ | refine zaj ?_ | refine zah ?_ | refine zai ?_ | fail); simp [hx, hy, hi1, hi2, c5, Exp.row_eq])
  | (refine zf2 ?_)
  | (refine hk _ ?_; clear hk k; simp only [zap])
  | (refine zeA rfl (by kernel_rfl) (by kernel_rfl) fun k hk => ?_; simp [hx, hy, hi1, hi2, c5, Exp.row_eq])
  | ((first | refine zas ?_ | refine zaq ?_ | fail); simp only [zap])
  | (refine CallV.fun_ (h1) (by first | rfl | fail) (by first | simp [hx, hy, hi1, hi2, c5, Exp.row_eq] <;> rfl | fail) ?_ <;> (try simp [hx, hy, hi1, hi2, c5, Exp.row_eq]))
  | fail)
         (refine EndOK.val (.inr rfl) ?_; simp [zaM, zag, zau, Tryz.results15])
      ·have c5' : ¬ (a.args.length : Int) = b.args.length := by omega
       rw [key false (by rw [hmk]; simp; intro _ _ _ _ h; exact c5 (by rw [h]))]
       (refine Fun.of_body Tryz.func15 rfl (by simp) fun Γ hn => ?_); simp only [entry, ziC, ziN, maC, maN, oA, Tryz.ntmps15]
       repeat' (first
  | ((first | refine zaf ?_ | refine zaj ?_ | refine zah ?_ | refine zai ?_ | fail); simp [c1, c2, c3, c4, c5, c5'])
  | (refine zas ?_; simp only [zap])
  | fail)
       (refine EndOK.val (.inr rfl) ?_; simp [zaM, zag, zau, Tryz.results15])
     ·rw [key false (by rw [hmk]; simp [c4])]
      (refine Fun.of_body Tryz.func15 rfl (by simp) fun Γ hn => ?_); simp only [entry, ziC, ziN, maC, maN, oA, Tryz.ntmps15]
      repeat' (first
  | ((first | refine zaf ?_ | refine zaj ?_ | refine zah ?_ | refine zai ?_ | fail); simp [c1, c2, c3, c4])
  | (refine zas ?_; simp only [zap])
  | fail)
      (refine EndOK.val (.inr rfl) ?_; simp [zaM, zag, zau, Tryz.results15])
    ·rw [key false (by rw [hmk]; simp [c3])]
     (refine Fun.of_body Tryz.func15 rfl (by simp) fun Γ hn => ?_); simp only [entry, ziC, ziN, maC, maN, oA, Tryz.ntmps15]
     repeat' (first
  | ((first | refine zaf ?_ | refine zaj ?_ | refine zah ?_ | refine zai ?_ | fail); simp [c1, c2, c3])
  | (refine zas ?_; simp only [zap])
  | fail)
     (refine EndOK.val (.inr rfl) ?_; simp [zaM, zag, zau, Tryz.results15])
   ·rw [key false (by rw [hmk]; simp [c2])]
    (refine Fun.of_body Tryz.func15 rfl (by simp) fun Γ hn => ?_); simp only [entry, ziC, ziN, maC, maN, oA, Tryz.ntmps15]
    repeat' (first
  | ((first | refine zaf ?_ | refine zaj ?_ | refine zah ?_ | refine zai ?_ | fail); simp [c1, c2])
  | (refine zas ?_; simp only [zap])
  | fail)
    (refine EndOK.val (.inr rfl) ?_; simp [zaM, zag, zau, Tryz.results15])
  ·rw [key false (by rw [hmk]; simp [c1])]
   (refine Fun.of_body Tryz.func15 rfl (by simp) fun Γ hn => ?_); simp only [entry, ziC, ziN, maC, maN, oA, Tryz.ntmps15]
   repeat' (first
  | ((first | refine zaf ?_ | refine zaj ?_ | refine zah ?_ | refine zai ?_ | fail); simp [c1])
  | (refine zas ?_; simp only [zap])
  | fail)
   (refine EndOK.val (.inr rfl) ?_; simp [zaM, zag, zau, Tryz.results15])
theorem zbQ (a b : Exp) : zfc a b := znK (SizeOf.sizeOf a) a b (Nat.le_refl _)
theorem zhF (A : List Let) : Fun Tryz.prog 46 [.u (zfH A), .u (zfH A)] (· = .u (.bool true)) := by
 simp only [zfH]
 (refine Fun.of_body Tryz.func46 rfl (by simp) fun Γ hn => ?_); simp only [entry, ziC, ziN, maC, maN, oA, Tryz.ntmps46]
 refine zjd (x := 0) rfl fun hll => ?_
 simp at hll
 repeat' (first
  | ((first | refine zaf ?_ | refine zaj ?_ | refine zah ?_ | refine zai ?_ | refine zaD ?_ | fail); simp)
  | (refine zaq ?_; simp only [zap])
  | fail)
 refine zdt (α := { i : Nat // i ≤ A.length }) [0, 1, 4] (fun x => [(5, .u (.int .i64 x.1))]) (fun x => A.length - x.1) ⟨0, by omega⟩ ?_ ?_
 ·exact (Wk.env rfl rfl rfl (by simp [wkE, St.lp, zan, zaa, getK] <;> (try (intros; simp_all; done)) <;> (try (intros; omega)) <;> (try grind)))
 rintro ⟨i, hi⟩
 simp [St.lp, St.only, zan, zaa, getK]
 rcases hx : A[i]? with _ | x
 ·have hge : A.length ≤ i := by simpa using hx
  obtain rfl : i = A.length := by omega
  repeat' (first
  | ((first | refine zaf ?_ | refine zaj ?_ | refine zah ?_ | refine zai ?_ | fail); simp [hx])
  | (refine zas ?_; simp only [zap])
  | (refine zce ?_; simp [zap])
  | fail)
  (refine EndOK.val (.inr rfl) ?_; simp [zaM, zag, zau, Tryz.results46])
 ·have hlt : i < A.length := (lGE.1 hx).1
  have hi1 : (i : Int) < A.length := by omega
  have h1 : zfc x.body x.body := zbQ _ _
  unfold zfc at h1
  rw [zex] at h1
  rw [Exp.row_eq] at h1
  repeat' (first
  | ((first | refine zaf ?_ | refine zeE ?_ | refine zaj ?_ | fail); simp [hx, hi1])
  | (refine ⟨by omega, ?_⟩)
  | ((first | refine zah ?_ | refine zai ?_ | fail); simp [hx, hi1])
  | (refine zf2 ?_)
  | (refine hk _ ?_; clear hk k; simp only [zap])
  | (refine zeA rfl (by kernel_rfl) (by kernel_rfl) fun k hk => ?_; simp [hx, hi1])
  | (refine zeD rfl (by simp [hx, hi1]) (fun hc => ?_) (fun hc => ?_) <;> (try simp [hx, hi1] at hc) <;> (try (exfalso; omega)) <;> (try simp [hx, hi1]))
  | (refine zaG ?_; simp [hx, hi1])
  | (refine zaq ?_; simp only [zap])
  | (refine CallV.fun_ (h1) (by first | rfl | fail) (by first | simp [hx, hi1] <;> rfl | fail) ?_ <;> (try simp [hx, hi1]))
  | fail)
  refine LoopW.next ⟨i + 1, by omega⟩ (by simp; omega) ?_
  exact (Wk.env rfl rfl rfl (by simp [wkE, St.lp, zan, zaa, getK] <;> (try (intros; simp_all; done)) <;> (try (intros; omega)) <;> (try grind)))
theorem zhV (b : By) : Fun Tryz.prog 14 [.u (.agg (zbf b)), .u (.agg (zbf b))] (· = .u (.bool true)) := by
 have e0 := zhF b.lets
 have e1 : zfc b.due b.due := zbQ _ _
 have e2 : zfc b.fine b.fine := zbQ _ _
 have e3 : zfc b.pay b.pay := zbQ _ _
 have e4 : zfc b.cover b.cover := zbQ _ _
 have e5 : zfc b.hold b.hold := zbQ _ _
 unfold zfc at e1 e2 e3 e4 e5
 rw [Exp.row_eq] at e1 e2 e3 e4 e5
 rw [zex] at e1 e2 e3 e4 e5
 simp only [zfH] at e0
 unfold zbf
 (refine Fun.of_body Tryz.func14 rfl (by simp) fun Γ hn => ?_); simp only [entry, ziC, ziN, maC, maN, oA, Tryz.ntmps14]
 repeat' (first
  | ((first | refine zaf ?_ | refine zaj ?_ | refine zah ?_ | fail); simp)
  | (refine zas ?_; simp only [zap])
  | (refine CallP.fE (e0) (by first | rfl | fail) (by first | (simp; done) | (simp; rfl) | fail) ?_; (try simp))
  | (refine CallP.fE (e1) (by first | rfl | fail) (by first | (simp; done) | (simp; rfl) | fail) ?_; (try simp))
  | (refine CallP.fE (e2) (by first | rfl | fail) (by first | (simp; done) | (simp; rfl) | fail) ?_; (try simp))
  | (refine CallP.fE (e3) (by first | rfl | fail) (by first | (simp; done) | (simp; rfl) | fail) ?_; (try simp))
  | (refine CallP.fE (e4) (by first | rfl | fail) (by first | (simp; done) | (simp; rfl) | fail) ?_; (try simp))
  | (refine CallP.fE (e5) (by first | rfl | fail) (by first | (simp; done) | (simp; rfl) | fail) ?_; (try simp))
  | fail)
 (refine EndOK.val (.inr rfl) ?_; simp [zaM, zag, zau, Tryz.results14])
end Go.Proofs.YthnemhfamhnfjaaGreatDoor
namespace Go.Proofs.YthnemhfamhnfjaaGreatDoor
open Go Go.VL
def znu (l : List Tok) (p : Nat) (least most : Int) : PR Int := match l[p]? with
 | none => .stop 0 0
 | some t => if t.kind = 2 then if least ≤ t.n ∧ t.n ≤ most then .ok t.n (p + 1) else .stop t.pos 3 else .stop t.pos 12
def zcN (l : List Tok) (p : Nat) (word : W8) (least most : Int) (behind : List W8) : PR Int :=
 if isB l p word = true then (znu l (p + 1) least most).bind fun n q => (zbj l q behind).bind fun _ r => .ok n r else .ok 0 p
def zcX (l : List Tok) (p : Nat) : PR Exp := (zcC l (4 * l.length + 3) p 0).bind fun e q =>
 if isB l q [59] = true then if e.lev ≤ 12 then .ok e (q + 1) else .stop (zco l q) 6 else .stop (zco l q) 12
def zfb (l : List Tok) (p : Nat) : PR (Int × Bool) := (zbj l p [[99, 105, 114, 99, 108, 101]]).bind fun _ q =>
 if isB l q [114, 111, 116, 97, 116, 105, 110, 103] = true then (zbj l (q + 1) [[59]]).bind fun _ r => .ok (0, false) r
 else if isB l q [115, 97, 118, 105, 110, 103] = true then (zbj l (q + 1) [[59]]).bind fun _ r => .ok (2, false) r
 else (zbj l q [[98, 105, 100, 100, 105, 110, 103]]).bind fun _ r => if isB l r [115, 101, 97, 108, 101, 100] = true then (zbj l (r + 1) [[59]]).bind fun _ r => .ok (1, true) r else (zbj l r [[59]]).bind fun _ r => .ok (1, false) r
def ordersW : List W8 := [[106, 111, 105, 110], [100, 114, 97, 119], [110, 101, 101, 100]]
def zdK (l : List Tok) (p : Nat) : PR Int :=
 if isB l p [111, 114, 100, 101, 114] = true then match ordersW.findIdx? fun w => isB l (p + 1) w with
  | some i => (zbj l (p + 2) [[59]]).bind fun _ r => .ok i r
  | none => .stop (zco l (p + 1)) 12
 else .ok 0 p
def zdR (l : List Tok) : Nat → Nat → List Let → PR (List Let)
 | 0, _, _ => .stop 0 0
 | f + 1, p, acc => if isB l p [108, 101, 116] = true then
   if acc.length < 20 then match l[p + 1]? with
    | none => .stop 0 0
    | some t => if t.kind = 1 ∧ zbr t.text = true then
          if (acc.any fun x => decide (x.name = t.text)) = true then .stop t.pos 5
          else (zbj l (p + 2) [[61]]).bind fun _ q => (zcX l q).bind fun e r => zdR l f r (acc ++ [⟨t.text, e⟩])
     else .stop t.pos 12
   else .stop (zco l p) 6
  else .ok acc p
def nothingE : Exp := .mk 0 0 3 [] []
def zcm (l : List Tok) (p : Nat) (word : W8) : PR Exp := if isB l p word = true then zcX l (p + 1) else .ok nothingE p
def zfj (l : List Tok) (p : Nat) (word : W8) : PR Unit := if isB l p word = true then .ok () p else .stop (zco l p) 12
def zoK (l : List Tok) (p : Nat) : PR Unit := match l[p]? with | some t => if t.kind = 0 then .ok () p else .stop t.pos 12 | none => .stop 0 0
def zkL (l : List Tok) : PR By :=
 (zfb l 0).bind fun k p => (zfj l p [112, 101, 114, 105, 111, 100]).bind fun _ p => (zcN l p [112, 101, 114, 105, 111, 100] 1 1000 [[100, 97, 121, 115], [59]]).bind fun period p =>
 (zfj l p [108, 97, 115, 116]).bind fun _ p => (zcN l p [108, 97, 115, 116] 1 1000 [[59]]).bind fun last p =>
 (zcN l p [103, 114, 97, 99, 101] 0 1000 [[100, 97, 121, 115], [59]]).bind fun grace p => (zcN l p [119, 97, 105, 116] 0 1000 [[100, 97, 121, 115], [59]]).bind fun wait p =>
 (zdK l p).bind fun order p => (zcN l p [98, 97, 99, 107, 115] 0 60 [[59]]).bind fun backs p => (zcN l p [118, 111, 105, 99, 101, 115] 0 1000 [[112, 101, 114], [109, 105, 108, 108, 101], [59]]).bind fun voices p =>
 (zcN l p [106, 117, 114, 121] 0 60 [[59]]).bind fun jury p => (zcN l p [102, 117, 110, 100] 0 1000 [[112, 101, 114], [109, 105, 108, 108, 101], [59]]).bind fun fund p =>
 (zdR l 21 p []).bind fun lets p => (zbj l p [[100, 117, 101]]).bind fun _ p => (zcX l p).bind fun due p =>
 (zcm l p [102, 105, 110, 101]).bind fun fine p => (zcm l p [112, 97, 121]).bind fun pay p => (zcm l p [99, 111, 118, 101, 114]).bind fun cover p => (zcm l p [104, 111, 108, 100]).bind fun hold p =>
 (zoK l p).bind fun _ p => .ok ⟨k.1, period, grace, wait, last, order, k.2, backs, voices, jury, fund, lets, due, fine, pay, cover, hold⟩ p
/-- The words of the lines. -/
def zaW (word : W8) (n : Int) (behind : List W8) : List W8 := if n = 0 then [] else word :: Lib.itoa n :: (behind ++ [[59]])
def zfl (k : Int) (s : Bool) : List W8 := if s = true then [[99, 105, 114, 99, 108, 101], [98, 105, 100, 100, 105, 110, 103], [115, 101, 97, 108, 101, 100], [59]] else [[99, 105, 114, 99, 108, 101], if k = 0 then [114, 111, 116, 97, 116, 105, 110, 103] else if k = 1 then [98, 105, 100, 100, 105, 110, 103] else [115, 97, 118, 105, 110, 103], [59]]
def zdJ (o : Int) : List W8 := if o = 0 then [] else [[111, 114, 100, 101, 114], ordersW.getD o.toNat [], [59]]
def zpb (x : Let) : List W8 := [108, 101, 116] :: x.name :: [61] :: (zaK x.body 0 ++ [[59]])
def zdw (L : List Let) : List W8 := (L.map zpb).flatten
def zbY (word : W8) (e : Exp) : List W8 := word :: (zaK e 0 ++ [[59]])
noncomputable def restW (word : W8) (e : Exp) : List W8 := open Classical in if e = nothingE then [] else zbY word e
/-- What may stand at a place: no other word. -/
def StopAt (l : List Tok) (p : Nat) (S : List W8) : Prop := ∀ v, v ∉ S → isB l p v = false
theorem StopAt.head {l p} {w : W8} {b : List W8} (h : Reads l p (w :: b)) : StopAt l p [w] := fun v hv => by
 rw [h.isB]; exact decide_eq_false fun e => hv (by simp [e])
theorem StopAt.more {l p} {S T : List W8} (h : StopAt l p S) (hs : ∀ v ∈ S, v ∈ T) : StopAt l p T := fun v hv => h v fun hm => hv (hs v hm)
theorem zm6 {l p} {n : Int} {b : List W8} (h0 : 0 ≤ n) (h1 : n ≤ 1099511627776) (h : Reads l p (Lib.itoa n :: b)) {least most : Int} (h2 : least ≤ n) (h3 : n ≤ most) : znu l p least most = .ok n (p + 1) := by
 obtain ⟨k1, k2, k3⟩ := zgL h0 h1
 obtain ⟨_, t, ht, t1, t2, t3⟩ := h.head
 rw [k1] at t2
 rw [zqx, if_pos k1, k2] at t3
 simp only [Option.getD_some] at t3
 rw [znu, ht]
 simp only [t2, t3, if_true]
 rw [if_pos ⟨h2, h3⟩]
theorem zhQ {l : List Tok} : ∀ (ws : List W8) {p : Nat} {b : List W8}, Reads l p (ws ++ b) → zbj l p ws = .ok () (p + ws.length)
 | [], p, b, h => rfl
 | w :: ws, p, b, h => by
  have h' : Reads l p (w :: (ws ++ b)) := h
  rw [zbj, if_pos (by rw [h'.isB]; simp), zhQ ws h'.tail, List.length_cons, nAA, Nat.add_comm 1]
theorem zcF {l p} {word : W8} {n : Int} {behind b : List W8} {least most : Int} (h : Reads l p (zaW word n behind ++ b)) (hl : n ≠ 0 → least ≤ n) (h0 : 0 ≤ n) (h3 : n ≤ most) (hm : most ≤ 1000)
  {S : List W8} (hs : StopAt l (p + (zaW word n behind).length) S) (hw : word ∉ S) :
  zcN l p word least most (behind ++ [[59]]) = .ok n (p + (zaW word n behind).length) ∧ StopAt l p (word :: S) := by
 by_cases hz : n = 0
 ·subst hz
  rw [zaW, if_pos rfl, List.length_nil, Nat.add_zero] at hs ⊢
  rw [zcN, hs word hw]
  exact ⟨rfl, StopAt.more hs fun v hv => List.mem_cons_of_mem _ hv⟩
 ·rw [zaW, if_neg hz] at h hs ⊢
  have h' : Reads l p (word :: Lib.itoa n :: ((behind ++ [[59]]) ++ b)) := by simpa using h
  refine ⟨?_, (StopAt.head h').more fun v hv => by simp only [List.mem_singleton] at hv; subst hv; simp⟩
  rw [zcN, if_pos (by rw [h'.isB]; simp), zm6 h0 (by omega) h'.tail (hl hz) h3, PR.zav, zhQ _ h'.tail.tail, PR.zav]
  congr 1
  simp
  omega
end Go.Proofs.YthnemhfamhnfjaaGreatDoor
namespace Go.Proofs.YthnemhfamhnfjaaGreatDoor
open Go Go.VL
theorem zgt {m : Int} : ∀ (l : List Int) (a : Int), a ≤ m → (∀ x ∈ l, x ≤ m) → l.foldl max a ≤ m
 | [], a, h, _ => h
 | b :: l, a, h, h2 => by
  rw [List.foldl_cons]
  exact zgt l _ (by have := h2 b (by simp); omega) fun x hx => h2 x (by simp [hx])
theorem zoj : ∀ (d : Nat) (e : Exp), zaA d e = true → e.lev ≤ d
 | 0, e, h => by rw [zaA] at h; cases h
 | d + 1, .mk op n u s args, h => by
  have hle : ∀ x ∈ args, x.lev ≤ d := fun x hx => by
   rcases zch h with ⟨rfl, rfl, rfl, hn⟩ | ⟨rfl, rfl, rfl, rfl, hn⟩ | ⟨rfl, rfl, rfl, ha, h3⟩
   ·cases hx
   ·cases hx
   ·exact zoj d x (ha x hx)
  rw [Exp.zf5]
  have h2 : ((Exp.mk op n u s args).args.map Exp.lev).foldl max 0 ≤ (d : Int) := zgt _ _ (by omega) fun x hx => by
   obtain ⟨y, hy, rfl⟩ := List.mem_map.1 hx
   exact hle y hy
  omega
theorem Reads.lt {l p} {w : W8} {b : List W8} (h : Reads l p (w :: b)) : p < l.length := by
 obtain ⟨_, t, ht, _⟩ := h.head
 exact (lGE.1 ht).1
theorem zkS (e : Exp) (h : zaA 12 e = true) : zaK e 0 ≠ [] := by
 obtain ⟨op, n, u, s, args⟩ := e
 rw [zaK, zpa, if_neg (by have := (zho (Exp.mk op n u s args).op).1; show ¬ zb7 (Exp.mk op n u s args).op < 0; omega)]
 show zaZ (Exp.mk op n u s args) ≠ []
 rcases zch h with ⟨rfl, rfl, rfl, hn⟩ | ⟨rfl, rfl, rfl, rfl, hn⟩ | ⟨rfl, rfl, rfl, ha, h3⟩
 ·rw [zaZ, zcW, if_pos rfl, zdv]; split <;> simp
 ·rw [zaZ, zcW, if_neg (by decide), if_pos rfl]; simp
 ·rcases h3 with ⟨rfl, hl⟩ | ⟨rfl, hl⟩ | ⟨g0, g1, g12, g13, g2, g3, hl⟩
  ·obtain ⟨a, rfl⟩ := zlb hl
   rw [zfX]; simp
  ·obtain ⟨a, b, c, rfl⟩ := zk9 hl
   rw [zhx]; simp
  ·obtain ⟨a, b, rfl⟩ := zla hl
   by_cases h6 : op = 6
   ·subst h6; rw [zfY]; simp
   ·by_cases h7 : op = 7
    ·subst h7; rw [zfZ]; simp
    ·obtain ⟨o, ho, rfl⟩ := zg9 (op := op) (by omega) (by omega) h6 h7
     rw [zfW ho]; simp
theorem Reads.ltL {l p} {ws b : List W8} (h : Reads l p (ws ++ b)) (hne : ws ≠ []) : p < l.length := by
 cases ws with
 | nil => exact absurd rfl hne
 | cons w ws => exact Reads.lt (b := ws ++ b) h
theorem zff {l : List Tok} (hl : TokOK l) {p : Nat} {e : Exp} {b : List W8} (he : zaA 12 e = true) (h : Reads l p (zaK e 0 ++ [59] :: b)) : zcX l p = .ok e (p + (zaK e 0).length + 1) := by
 have hr := h.right
 have hp := h.ltL (zkS e he)
 have hx := (zmc he h.left (hr.noUnit (by decide) (by decide) (by decide)) (by rw [hr.opr]; rfl)).fuel hl hp (f := 4 * l.length + 3) (by omega)
 rw [zcX, hx, PR.zav, if_pos (by rw [hr.isB]; simp), if_pos (show e.lev ≤ (12 : Int) from zoj 12 e he)]
theorem zeY {l : List Tok} (hl : TokOK l) {p : Nat} {word : W8} {e : Exp} {b : List W8} (he : zaA 12 e = true) (h : Reads l p (restW word e ++ b)) {S : List W8} (hs : StopAt l (p + (restW word e).length) S) (hw : word ∉ S) :
  zcm l p word = .ok e (p + (restW word e).length) ∧ StopAt l p (word :: S) := by
 by_cases hz : e = nothingE
 ·have hW : restW word e = [] := by unfold restW; rw [if_pos hz]
  rw [hW, List.length_nil, Nat.add_zero] at hs ⊢
  rw [zcm, hs word hw, hz]
  exact ⟨rfl, StopAt.more hs fun v hv => List.mem_cons_of_mem _ hv⟩
 ·have hW : restW word e = zbY word e := by unfold restW; rw [if_neg hz]
  rw [hW, zbY] at h ⊢
  have h' : Reads l p (word :: (zaK e 0 ++ [59] :: b)) := by simpa using h
  refine ⟨?_, (StopAt.head h').more fun v hv => by simp only [List.mem_singleton] at hv; subst hv; simp⟩
  rw [zcm, if_pos (by rw [h'.isB]; simp), zff hl he h'.tail]
  congr 1
  simp
  omega
theorem zia {l : List Tok} (hl : TokOK l) {S : List W8} (hw : [108, 101, 116] ∉ S) : ∀ (L acc : List Let) (f p : Nat) (b : List W8), zdL acc L = true → acc.length + L.length ≤ 20 → L.length < f →
  Reads l p (zdw L ++ b) → StopAt l (p + (zdw L).length) S → zdR l f p acc = .ok (acc ++ L) (p + (zdw L).length) ∧ StopAt l p ([108, 101, 116] :: S)
 | _, _, 0, _, _, _, _, hf, _, _ => by omega
 | [], acc, f + 1, p, b, _, _, _, h, hs => by
  have hW : zdw [] = [] := rfl
  rw [hW, List.length_nil, Nat.add_zero] at hs ⊢
  rw [zdR, hs _ hw, List.append_nil]
  exact ⟨rfl, StopAt.more hs fun v hv => List.mem_cons_of_mem _ hv⟩
 | x :: L, acc, f + 1, p, b, hb, hn, hf, h, hs => by
  have hW : zdw (x :: L) = zpb x ++ zdw L := rfl
  rw [zdL, Bool.and_eq_true, Bool.and_eq_true, Bool.and_eq_true] at hb
  obtain ⟨⟨⟨b1, b2⟩, b3⟩, b4⟩ := hb
  rw [hW] at h hs
  have h' : Reads l p ([108, 101, 116] :: x.name :: [61] :: (zaK x.body 0 ++ [59] :: (zdw L ++ b))) := by simpa [zpb] using h
  have r1 := h'.tail
  have r2 := r1.tail
  have r3 := r2.tail
  have hw3 := zff hl b2 r3
  have r4 : Reads l (p + 1 + 1 + 1 + (zaK x.body 0).length + 1) (zdw L ++ b) := (Reads.right r3).tail
  have hlen : (zpb x ++ zdw L).length = 3 + (zaK x.body 0).length + 1 + (zdw L).length := by simp [zpb]; omega
  rw [hlen] at hs
  obtain ⟨ih, _⟩ := zia hl hw L (acc ++ [x]) f (p + 1 + 1 + 1 + (zaK x.body 0).length + 1) b b4 (by simp at hn ⊢; omega) (by simp at hf; omega) r4 (by
   have : p + (3 + (zaK x.body 0).length + 1 + (zdw L).length) = p + 1 + 1 + 1 + (zaK x.body 0).length + 1 + (zdw L).length := by omega
   rwa [this] at hs)
  refine ⟨?_, (StopAt.head h').more fun v hv => by simp only [List.mem_singleton] at hv; subst hv; simp⟩
  obtain ⟨_, t, ht, t1, t2, t3⟩ := r1.head
  have hkd : t.kind = 1 := by
   rw [t2]
   have hn := b1
   cases hs' : x.name with
   | nil => rw [hs'] at hn; simp [zbr, ze9] at hn
   | cons c r =>
    rw [hs'] at hn
    simp only [zbr, ze9, Bool.and_eq_true] at hn
    rw [zfK, if_pos hn.1.1.1]
  rw [Bool.not_eq_true'] at b3
  rw [zdR, if_pos (by rw [h'.isB]; simp), if_pos (by simp at hn; omega), ht]
  simp only [hkd, t1, b1]
  rw [if_pos (by decide), if_neg (by rw [b3]; simp), r2.want, PR.zav, hw3, PR.zav, ih, hW, hlen]
  congr 1
  ·simp
  ·omega
theorem zk3 {l : List Tok} {p : Nat} {o : Int} {b : List W8} (h0 : 0 ≤ o) (h1 : o ≤ 2) (h : Reads l p (zdJ o ++ b)) {S : List W8} (hs : StopAt l (p + (zdJ o).length) S) (hw : [111, 114, 100, 101, 114] ∉ S) :
  zdK l p = .ok o (p + (zdJ o).length) ∧ StopAt l p ([111, 114, 100, 101, 114] :: S) := by
 have hc : o = 0 ∨ o = 1 ∨ o = 2 := by omega
 rcases hc with rfl | rfl | rfl
 ·have hW : zdJ 0 = [] := rfl
  rw [hW, List.length_nil, Nat.add_zero] at hs ⊢
  rw [zdK, hs _ hw]
  exact ⟨rfl, StopAt.more hs fun v hv => List.mem_cons_of_mem _ hv⟩
 ·have h' : Reads l p ([111, 114, 100, 101, 114] :: [100, 114, 97, 119] :: [59] :: b) := h
  refine ⟨?_, (StopAt.head h').more fun v hv => by simp only [List.mem_singleton] at hv; subst hv; simp⟩
  have hf : (ordersW.findIdx? fun w => isB l (p + 1) w) = some 1 := by simp [ordersW, List.findIdx?, List.findIdx?.go, h'.tail.isB]
  rw [zdK, if_pos (by rw [h'.isB]; simp), hf]
  simp only [h'.tail.tail.want, PR.zav]
  rfl
 ·have h' : Reads l p ([111, 114, 100, 101, 114] :: [110, 101, 101, 100] :: [59] :: b) := h
  refine ⟨?_, (StopAt.head h').more fun v hv => by simp only [List.mem_singleton] at hv; subst hv; simp⟩
  have hf : (ordersW.findIdx? fun w => isB l (p + 1) w) = some 2 := by simp [ordersW, List.findIdx?, List.findIdx?.go, h'.tail.isB]
  rw [zdK, if_pos (by rw [h'.isB]; simp), hf]
  simp only [h'.tail.tail.want, PR.zav]
  rfl
theorem zm5 {l : List Tok} {p : Nat} {k : Int} {s : Bool} {b : List W8} (h0 : 0 ≤ k) (h1 : k ≤ 2) (h2 : s = true → k = 1) (h : Reads l p (zfl k s ++ b)) : zfb l p = .ok (k, s) (p + (zfl k s).length) := by
 cases s with
 | true =>
  obtain rfl := h2 rfl
  have h' : Reads l p ([99, 105, 114, 99, 108, 101] :: [98, 105, 100, 100, 105, 110, 103] :: [115, 101, 97, 108, 101, 100] :: [59] :: b) := h
  have r1 := h'.tail
  have r2 := r1.tail
  rw [zfb, h'.want, PR.zav, r1.isB, r1.isB, if_neg (by decide), if_neg (by decide), r1.want, PR.zav, r2.isB, if_pos (by decide), r2.tail.want, PR.zav]
  rfl
 | false =>
  have hc : k = 0 ∨ k = 1 ∨ k = 2 := by omega
  rcases hc with rfl | rfl | rfl
  ·have h' : Reads l p ([99, 105, 114, 99, 108, 101] :: [114, 111, 116, 97, 116, 105, 110, 103] :: [59] :: b) := h
   have r1 := h'.tail
   rw [zfb, h'.want, PR.zav, r1.isB, if_pos (by decide), r1.tail.want, PR.zav]
   rfl
  ·have h' : Reads l p ([99, 105, 114, 99, 108, 101] :: [98, 105, 100, 100, 105, 110, 103] :: [59] :: b) := h
   have r1 := h'.tail
   have r2 := r1.tail
   rw [zfb, h'.want, PR.zav, r1.isB, r1.isB, if_neg (by decide), if_neg (by decide), r1.want, PR.zav, r2.isB, if_neg (by decide), r2.want, PR.zav]
   rfl
  ·have h' : Reads l p ([99, 105, 114, 99, 108, 101] :: [115, 97, 118, 105, 110, 103] :: [59] :: b) := h
   have r1 := h'.tail
   rw [zfb, h'.want, PR.zav, r1.isB, r1.isB, if_neg (by decide), if_pos (by decide), r1.tail.want, PR.zav]
   rfl
theorem zmV {l : List Tok} {p : Nat} {w : W8} {b : List W8} (h : Reads l p (w :: b)) : zfj l p w = .ok () p := by
 rw [zfj, if_pos (by rw [h.isB]; simp)]
end Go.Proofs.YthnemhfamhnfjaaGreatDoor
namespace Go.Proofs.YthnemhfamhnfjaaGreatDoor
open Go Go.VL
theorem zcQ {lo hi n : Int} {l : List Int} (h : inB lo hi l = true) (hn : n ∈ l) : lo ≤ n ∧ n ≤ hi := by
 rw [inB, Bool.not_eq_true', List.any_eq_false] at h
 have := h n hn
 simp at this
 omega
theorem zj0 {l : List Tok} {p : Nat} {w : W8} {n : Int} {bh b : List W8} (hn : n ≠ 0) (h : Reads l p (zaW w n bh ++ b)) : zfj l p w = .ok () p := by
 rw [zaW, if_neg hn] at h
 exact zmV (show Reads l p (w :: ((Lib.itoa n :: (bh ++ [[59]])) ++ b)) from h)
theorem zoN {l : List Tok} {p : Nat} {w : W8} {e : Exp} {b : List W8} (h : Reads l p (zbY w e ++ b)) : Reads l p (w :: (zaK e 0 ++ [59] :: b)) := by
 simpa [zbY] using h
/-- The words of bylaws' text. -/
noncomputable def byW (b : By) : List W8 := zfl b.kind b.sld ++ (zaW [112, 101, 114, 105, 111, 100] b.period [[100, 97, 121, 115]] ++ (zaW [108, 97, 115, 116] b.last [] ++ (zaW [103, 114, 97, 99, 101] b.grace [[100, 97, 121, 115]] ++ (zaW [119, 97, 105, 116] b.wait [[100, 97, 121, 115]] ++ (zdJ b.order ++ (zaW [98, 97, 99, 107, 115] b.backs [] ++ (zaW [118, 111, 105, 99, 101, 115] b.voices [[112, 101, 114], [109, 105, 108, 108, 101]] ++ (zaW [106, 117, 114, 121] b.jury [] ++ (zaW [102, 117, 110, 100] b.fund [[112, 101, 114], [109, 105, 108, 108, 101]] ++ (zdw b.lets ++ (zbY [100, 117, 101] b.due ++ (restW [102, 105, 110, 101] b.fine ++ (restW [112, 97, 121] b.pay ++ (restW [99, 111, 118, 101, 114] b.cover ++ (restW [104, 111, 108, 100] b.hold ++ [])))))))))))))))
set_option maxHeartbeats 2000000 in
theorem zq8 {l : List Tok} (hl : TokOK l) {b : By} (h : zbD b = true) (hr : Reads l 0 (byW b)) (hend : ∃ t, l[0 + (byW b).length]? = some t ∧ t.kind = 0) : zkL l = .ok b (0 + (byW b).length) := by
 simp only [zbD, zlg, zlk, Bool.and_eq_true] at h
 obtain ⟨⟨⟨⟨⟨⟨⟨⟨i1, i2⟩, i3⟩, i4⟩, i5⟩, hsl⟩, hlen⟩, hlets⟩, ⟨⟨⟨e1, e2⟩, e3⟩, e4⟩, e5⟩ := h
 have hs1 : b.sld = true → b.kind = 1 := fun hs => by
  rw [hs] at hsl
  simpa using hsl
 have hlen2 : b.lets.length ≤ 20 := by simpa using hlen
 have k := zcQ i1 (n := b.kind) (by simp)
 have ko := zcQ i2 (n := b.order) (by simp)
 have kperiod := zcQ i3 (n := b.period) (by simp)
 have klast := zcQ i3 (n := b.last) (by simp)
 have kgrace := zcQ i4 (n := b.grace) (by simp)
 have kwait := zcQ i4 (n := b.wait) (by simp)
 have kvoices := zcQ i4 (n := b.voices) (by simp)
 have kfund := zcQ i4 (n := b.fund) (by simp)
 have kbacks := zcQ i5 (n := b.backs) (by simp)
 have kjury := zcQ i5 (n := b.jury) (by simp)
 obtain ⟨te, hte, hke⟩ := hend
 unfold byW at hr hte ⊢
 have hkind := zm5 k.1 k.2 hs1 hr
 have r0 := hr.right
 have r1 := r0.right
 have r2 := r1.right
 have r3 := r2.right
 have r4 := r3.right
 have r5 := r4.right
 have r6 := r5.right
 have r7 := r6.right
 have r8 := r7.right
 have r9 := r8.right
 have r10 := r9.right
 have r11 := r10.right
 have r12 := r11.right
 have r13 := r12.right
 have r14 := r13.right
 have r15 := r14.right
 have hpos : 0 + (zfl b.kind b.sld ++ (zaW [112, 101, 114, 105, 111, 100] b.period [[100, 97, 121, 115]] ++ (zaW [108, 97, 115, 116] b.last [] ++ (zaW [103, 114, 97, 99, 101] b.grace [[100, 97, 121, 115]] ++ (zaW [119, 97, 105, 116] b.wait [[100, 97, 121, 115]] ++ (zdJ b.order ++ (zaW [98, 97, 99, 107, 115] b.backs [] ++ (zaW [118, 111, 105, 99, 101, 115] b.voices [[112, 101, 114], [109, 105, 108, 108, 101]] ++ (zaW [106, 117, 114, 121] b.jury [] ++ (zaW [102, 117, 110, 100] b.fund [[112, 101, 114], [109, 105, 108, 108, 101]] ++ (zdw b.lets ++ (zbY [100, 117, 101] b.due ++ (restW [102, 105, 110, 101] b.fine ++ (restW [112, 97, 121] b.pay ++ (restW [99, 111, 118, 101, 114] b.cover ++ (restW [104, 111, 108, 100] b.hold ++ [])))))))))))))))).length = 0 + (zfl b.kind b.sld).length + (zaW [112, 101, 114, 105, 111, 100] b.period [[100, 97, 121, 115]]).length + (zaW [108, 97, 115, 116] b.last []).length + (zaW [103, 114, 97, 99, 101] b.grace [[100, 97, 121, 115]]).length + (zaW [119, 97, 105, 116] b.wait [[100, 97, 121, 115]]).length + (zdJ b.order).length + (zaW [98, 97, 99, 107, 115] b.backs []).length + (zaW [118, 111, 105, 99, 101, 115] b.voices [[112, 101, 114], [109, 105, 108, 108, 101]]).length + (zaW [106, 117, 114, 121] b.jury []).length + (zaW [102, 117, 110, 100] b.fund [[112, 101, 114], [109, 105, 108, 108, 101]]).length + (zdw b.lets).length + (zbY [100, 117, 101] b.due).length + (restW [102, 105, 110, 101] b.fine).length + (restW [112, 97, 121] b.pay).length + (restW [99, 111, 118, 101, 114] b.cover).length + (restW [104, 111, 108, 100] b.hold).length := by simp only [List.length_append, List.length_nil]; omega
 rw [hpos] at hte ⊢
 have hS15 : StopAt l (0 + (zfl b.kind b.sld).length + (zaW [112, 101, 114, 105, 111, 100] b.period [[100, 97, 121, 115]]).length + (zaW [108, 97, 115, 116] b.last []).length + (zaW [103, 114, 97, 99, 101] b.grace [[100, 97, 121, 115]]).length + (zaW [119, 97, 105, 116] b.wait [[100, 97, 121, 115]]).length + (zdJ b.order).length + (zaW [98, 97, 99, 107, 115] b.backs []).length + (zaW [118, 111, 105, 99, 101, 115] b.voices [[112, 101, 114], [109, 105, 108, 108, 101]]).length + (zaW [106, 117, 114, 121] b.jury []).length + (zaW [102, 117, 110, 100] b.fund [[112, 101, 114], [109, 105, 108, 108, 101]]).length + (zdw b.lets).length + (zbY [100, 117, 101] b.due).length + (restW [102, 105, 110, 101] b.fine).length + (restW [112, 97, 121] b.pay).length + (restW [99, 111, 118, 101, 114] b.cover).length + (restW [104, 111, 108, 100] b.hold).length) [] := fun v _ => (zmf hte hke).1 v
 obtain ⟨hhold, hS14⟩ := zeY hl e5 r14 hS15 (by decide)
 obtain ⟨hcover, hS13⟩ := zeY hl e4 r13 hS14 (by decide)
 obtain ⟨hpay, hS12⟩ := zeY hl e3 r12 hS13 (by decide)
 obtain ⟨hfine, hS11⟩ := zeY hl e2 r11 hS12 (by decide)
 have rdue := zoN r10
 have hS10 : StopAt l (0 + (zfl b.kind b.sld).length + (zaW [112, 101, 114, 105, 111, 100] b.period [[100, 97, 121, 115]]).length + (zaW [108, 97, 115, 116] b.last []).length + (zaW [103, 114, 97, 99, 101] b.grace [[100, 97, 121, 115]]).length + (zaW [119, 97, 105, 116] b.wait [[100, 97, 121, 115]]).length + (zdJ b.order).length + (zaW [98, 97, 99, 107, 115] b.backs []).length + (zaW [118, 111, 105, 99, 101, 115] b.voices [[112, 101, 114], [109, 105, 108, 108, 101]]).length + (zaW [106, 117, 114, 121] b.jury []).length + (zaW [102, 117, 110, 100] b.fund [[112, 101, 114], [109, 105, 108, 108, 101]]).length + (zdw b.lets).length) [[100, 117, 101]] := StopAt.head rdue
 have hwdue := rdue.want
 have hdue := zff hl e1 rdue.tail
 have hdl : 0 + (zfl b.kind b.sld).length + (zaW [112, 101, 114, 105, 111, 100] b.period [[100, 97, 121, 115]]).length + (zaW [108, 97, 115, 116] b.last []).length + (zaW [103, 114, 97, 99, 101] b.grace [[100, 97, 121, 115]]).length + (zaW [119, 97, 105, 116] b.wait [[100, 97, 121, 115]]).length + (zdJ b.order).length + (zaW [98, 97, 99, 107, 115] b.backs []).length + (zaW [118, 111, 105, 99, 101, 115] b.voices [[112, 101, 114], [109, 105, 108, 108, 101]]).length + (zaW [106, 117, 114, 121] b.jury []).length + (zaW [102, 117, 110, 100] b.fund [[112, 101, 114], [109, 105, 108, 108, 101]]).length + (zdw b.lets).length + 1 + (zaK b.due 0).length + 1 = 0 + (zfl b.kind b.sld).length + (zaW [112, 101, 114, 105, 111, 100] b.period [[100, 97, 121, 115]]).length + (zaW [108, 97, 115, 116] b.last []).length + (zaW [103, 114, 97, 99, 101] b.grace [[100, 97, 121, 115]]).length + (zaW [119, 97, 105, 116] b.wait [[100, 97, 121, 115]]).length + (zdJ b.order).length + (zaW [98, 97, 99, 107, 115] b.backs []).length + (zaW [118, 111, 105, 99, 101, 115] b.voices [[112, 101, 114], [109, 105, 108, 108, 101]]).length + (zaW [106, 117, 114, 121] b.jury []).length + (zaW [102, 117, 110, 100] b.fund [[112, 101, 114], [109, 105, 108, 108, 101]]).length + (zdw b.lets).length + (zbY [100, 117, 101] b.due).length := by simp only [zbY, List.length_cons, List.length_append, List.length_nil]; omega
 rw [hdl] at hdue
 obtain ⟨hlets2, hS9⟩ := zia hl (by decide) b.lets [] 21 _ _ hlets (by simpa using hlen2) (by omega) r9 hS10
 obtain ⟨hfund, hS8⟩ := zcF (least := 0) (most := 1000) r8 (fun _ => kfund.1) (by omega) kfund.2 (by decide) hS9 (by decide)
 obtain ⟨hjury, hS7⟩ := zcF (least := 0) (most := 60) r7 (fun _ => kjury.1) (by omega) kjury.2 (by decide) hS8 (by decide)
 obtain ⟨hvoices, hS6⟩ := zcF (least := 0) (most := 1000) r6 (fun _ => kvoices.1) (by omega) kvoices.2 (by decide) hS7 (by decide)
 obtain ⟨hbacks, hS5⟩ := zcF (least := 0) (most := 60) r5 (fun _ => kbacks.1) (by omega) kbacks.2 (by decide) hS6 (by decide)
 obtain ⟨horder, hS4⟩ := zk3 ko.1 ko.2 r4 hS5 (by decide)
 obtain ⟨hwait, hS3⟩ := zcF (least := 0) (most := 1000) r3 (fun _ => kwait.1) (by omega) kwait.2 (by decide) hS4 (by decide)
 obtain ⟨hgrace, hS2⟩ := zcF (least := 0) (most := 1000) r2 (fun _ => kgrace.1) (by omega) kgrace.2 (by decide) hS3 (by decide)
 obtain ⟨hlast, hS1⟩ := zcF (least := 1) (most := 1000) r1 (fun _ => klast.1) (by omega) klast.2 (by decide) hS2 (by decide)
 obtain ⟨hperiod, hS0⟩ := zcF (least := 1) (most := 1000) r0 (fun _ => kperiod.1) (by omega) kperiod.2 (by decide) hS1 (by decide)
 have hmperiod := zj0 (by omega) r0
 have hmlast := zj0 (by omega) r1
 have hfin : zoK l (0 + (zfl b.kind b.sld).length + (zaW [112, 101, 114, 105, 111, 100] b.period [[100, 97, 121, 115]]).length + (zaW [108, 97, 115, 116] b.last []).length + (zaW [103, 114, 97, 99, 101] b.grace [[100, 97, 121, 115]]).length + (zaW [119, 97, 105, 116] b.wait [[100, 97, 121, 115]]).length + (zdJ b.order).length + (zaW [98, 97, 99, 107, 115] b.backs []).length + (zaW [118, 111, 105, 99, 101, 115] b.voices [[112, 101, 114], [109, 105, 108, 108, 101]]).length + (zaW [106, 117, 114, 121] b.jury []).length + (zaW [102, 117, 110, 100] b.fund [[112, 101, 114], [109, 105, 108, 108, 101]]).length + (zdw b.lets).length + (zbY [100, 117, 101] b.due).length + (restW [102, 105, 110, 101] b.fine).length + (restW [112, 97, 121] b.pay).length + (restW [99, 111, 118, 101, 114] b.cover).length + (restW [104, 111, 108, 100] b.hold).length) = .ok () (0 + (zfl b.kind b.sld).length + (zaW [112, 101, 114, 105, 111, 100] b.period [[100, 97, 121, 115]]).length + (zaW [108, 97, 115, 116] b.last []).length + (zaW [103, 114, 97, 99, 101] b.grace [[100, 97, 121, 115]]).length + (zaW [119, 97, 105, 116] b.wait [[100, 97, 121, 115]]).length + (zdJ b.order).length + (zaW [98, 97, 99, 107, 115] b.backs []).length + (zaW [118, 111, 105, 99, 101, 115] b.voices [[112, 101, 114], [109, 105, 108, 108, 101]]).length + (zaW [106, 117, 114, 121] b.jury []).length + (zaW [102, 117, 110, 100] b.fund [[112, 101, 114], [109, 105, 108, 108, 101]]).length + (zdw b.lets).length + (zbY [100, 117, 101] b.due).length + (restW [102, 105, 110, 101] b.fine).length + (restW [112, 97, 121] b.pay).length + (restW [99, 111, 118, 101, 114] b.cover).length + (restW [104, 111, 108, 100] b.hold).length) := by rw [zoK, hte]; simp [hke]
 simp only [List.nil_append] at hlets2
 simp only [List.cons_append, List.nil_append] at hperiod hlast hgrace hwait hbacks hvoices hjury hfund
 rw [zkL, hkind, PR.zav, hmperiod, PR.zav, hperiod, PR.zav, hmlast, PR.zav, hlast, PR.zav, hgrace, PR.zav, hwait, PR.zav, horder, PR.zav, hbacks, PR.zav, hvoices, PR.zav, hjury, PR.zav, hfund, PR.zav, hlets2, PR.zav, hwdue, PR.zav, hdue, PR.zav, hfine, PR.zav, hpay, PR.zav, hcover, PR.zav, hhold, PR.zav, hfin, PR.zav]
end Go.Proofs.YthnemhfamhnfjaaGreatDoor
namespace Go.Proofs.YthnemhfamhnfjaaGreatDoor
open Go Go.VL
theorem zdj {w : W8} {n : Int} {bh : List W8} (hw : GoodW w) (h0 : 0 ≤ n) (h1 : n ≤ 1000) (hb : AllGood bh) : AllGood (zaW w n bh) := by
 rw [zaW]
 split
 ·exact AllGood.nil
 ·exact AllGood.cons hw (AllGood.cons (zl5 h0 (by omega)) (hb.app (AllGood.cons zbA.2.2.2.1 AllGood.nil)))
theorem zot (k : Int) (s : Bool) : AllGood (zfl k s) := by
 rw [zfl]
 split
 ·exact AllGood.cons (zaF (by decide)) (AllGood.cons (zaF (by decide)) (AllGood.cons (zaF (by decide)) (AllGood.cons zbA.2.2.2.1 AllGood.nil)))
 ·refine AllGood.cons (zaF (by decide)) (AllGood.cons ?_ (AllGood.cons zbA.2.2.2.1 AllGood.nil))
  split
  ·exact zaF (by decide)
  ·split <;> exact zaF (by decide)
theorem zmJ {o : Int} (h0 : 0 ≤ o) (h1 : o ≤ 2) : AllGood (zdJ o) := by
 have hc : o = 0 ∨ o = 1 ∨ o = 2 := by omega
 rcases hc with rfl | rfl | rfl
 ·exact AllGood.nil
 all_goals exact AllGood.cons (zaF (by decide)) (AllGood.cons (zaF (by decide)) (AllGood.cons zbA.2.2.2.1 AllGood.nil))
theorem zhs {w : W8} {e : Exp} (hw : GoodW w) (he : zaA 12 e = true) : AllGood (zbY w e) :=
 AllGood.cons hw ((zfy 12 e he 0).app (AllGood.cons zbA.2.2.2.1 AllGood.nil))
theorem zfz {w : W8} {e : Exp} (hw : GoodW w) (he : zaA 12 e = true) : AllGood (restW w e) := by
 unfold restW
 split
 ·exact AllGood.nil
 ·exact zhs hw he
theorem zj7 : ∀ (L acc : List Let), zdL acc L = true → AllGood (zdw L)
 | [], _, _ => AllGood.nil
 | x :: L, acc, h => by
  rw [zdL, Bool.and_eq_true, Bool.and_eq_true, Bool.and_eq_true] at h
  obtain ⟨⟨⟨b1, b2⟩, b3⟩, b4⟩ := h
  have hx : AllGood (zpb x) := by
   rw [zbr, Bool.and_eq_true] at b1
   exact AllGood.cons (zaF (by decide)) (AllGood.cons (zaF b1.1) (AllGood.cons zbA.2.2.2.2 ((zfy 12 x.body b2 0).app (AllGood.cons zbA.2.2.2.1 AllGood.nil))))
  exact hx.app (zj7 L _ b4)
theorem zoW {b : By} (h : zbD b = true) : AllGood (byW b) := by
 simp only [zbD, zlg, zlk, Bool.and_eq_true] at h
 obtain ⟨⟨⟨⟨⟨⟨⟨⟨i1, i2⟩, i3⟩, i4⟩, i5⟩, hsl⟩, hlen⟩, hlets⟩, ⟨⟨⟨e1, e2⟩, e3⟩, e4⟩, e5⟩ := h
 have ko := zcQ i2 (n := b.order) (by simp)
 have kperiod := zcQ i3 (n := b.period) (by simp)
 have klast := zcQ i3 (n := b.last) (by simp)
 have kgrace := zcQ i4 (n := b.grace) (by simp)
 have kwait := zcQ i4 (n := b.wait) (by simp)
 have kvoices := zcQ i4 (n := b.voices) (by simp)
 have kfund := zcQ i4 (n := b.fund) (by simp)
 have kbacks := zcQ i5 (n := b.backs) (by simp)
 have kjury := zcQ i5 (n := b.jury) (by simp)
 have hdays : AllGood [[100, 97, 121, 115]] := AllGood.cons (zaF (by decide)) AllGood.nil
 have hmille : AllGood [[112, 101, 114], [109, 105, 108, 108, 101]] := AllGood.cons (zaF (by decide)) (AllGood.cons (zaF (by decide)) AllGood.nil)
 unfold byW
 refine (zot _ _).app ?_
 refine (zdj (zaF (by decide)) (by omega) (by omega) hdays).app ?_
 refine (zdj (zaF (by decide)) (by omega) (by omega) AllGood.nil).app ?_
 refine (zdj (zaF (by decide)) (by omega) (by omega) hdays).app ?_
 refine (zdj (zaF (by decide)) (by omega) (by omega) hdays).app ?_
 refine (zmJ ko.1 ko.2).app ?_
 refine (zdj (zaF (by decide)) (by omega) (by omega) AllGood.nil).app ?_
 refine (zdj (zaF (by decide)) (by omega) (by omega) hmille).app ?_
 refine (zdj (zaF (by decide)) (by omega) (by omega) AllGood.nil).app ?_
 refine (zdj (zaF (by decide)) (by omega) (by omega) hmille).app ?_
 refine (zj7 _ _ hlets).app ?_
 refine (zhs (zaF (by decide)) e1).app ?_
 refine (zfz (zaF (by decide)) e2).app ?_
 refine (zfz (zaF (by decide)) e3).app ?_
 refine (zfz (zaF (by decide)) e4).app ?_
 exact (zfz (zaF (by decide)) e5).app AllGood.nil
/-- THE TEXT OF RIGHT BYLAWS, with any blanks between its words, is parsed to them. -/
theorem zq7 {b : By} (h : zbD b = true) {l : List (W8 × W8)} (hs : Spaced l) (hw : l.map (·.1) = byW b) (hlen : (zbi l).length ≤ 2000) :
  ∃ ts, zgs (zbi l) = .ok ts ∧ TokOK ts ∧ zkL ts = .ok b (byW b).length := by
 obtain ⟨ts, h1, h2, h3, t, h4, h5⟩ := zh6 hs hlen
 have hll := zgN l hs
 have hok := zly h2 ⟨t, h4, h5⟩ (by omega)
 have hsl : (byW b).length = l.length := by rw [← hw, List.length_map]
 rw [hw] at h3
 have := zq8 hok h h3 ⟨t, by rw [Nat.zero_add, hsl]; exact h4, h5⟩
 rw [Nat.zero_add] at this
 exact ⟨ts, h1, hok, this⟩
end Go.Proofs.YthnemhfamhnfjaaGreatDoor
namespace Go.Proofs.YthnemhfamhnfjaaGreatDoor
open Go Go.VL
def zgZ (ws : List W8) : List (W8 × W8) := ws.map fun w => (w, if w = [59] then [10] else [32])
theorem zlB (a b : List W8) : zgZ (a ++ b) = zgZ a ++ zgZ b := by simp [zgZ]
theorem zhp : ∀ a b : List (W8 × W8), zbi (a ++ b) = zbi a ++ zbi b
 | [], b => rfl
 | x :: a, b => by rw [List.cons_append, zbi, zbi, zhp a b]; simp
theorem zhR : ∀ l : List (W8 × W8), (∀ x ∈ l, GoodW x.1 ∧ (∀ c ∈ x.2, zaT c = true) ∧ x.2 ≠ []) → Spaced l
 | [], _ => trivial
 | [x], h => ⟨(h x (by simp)).1, (h x (by simp)).2.1⟩
 | x :: y :: l, h => ⟨(h x (by simp)).1, (h x (by simp)).2.1, (h x (by simp)).2.2, zhR (y :: l) fun z hz => h z (List.mem_cons_of_mem _ hz)⟩
/-- The same words with line feeds between them. -/
theorem zlh {ws : List W8} (h : AllGood ws) : Spaced (ws.map fun w => (w, [10])) := zhR _ fun x hx => by
 obtain ⟨w, hw, rfl⟩ := List.mem_map.1 hx
 exact ⟨h w hw, by simp [zaT], by simp⟩
/-- The text of bylaws. -/
noncomputable def textB (b : By) : W8 := zbi (zgZ (byW b))
theorem zfG : ∀ ws : List W8, ws ≠ [] → (∀ w ∈ ws, w ≠ [59]) → zbi (zgZ (ws ++ [[59]])) = zbu ws ++ [32, 59, 10]
 | [], h, _ => absurd rfl h
 | [w], _, h => by
  have := h w (by simp)
  simp [zgZ, zbi, zbu, spW, this]
 | w :: v :: l, _, h => by
  have h1 := h w (by simp)
  have ih := zfG (v :: l) (by simp) fun x hx => h x (List.mem_cons_of_mem _ hx)
  have e : zgZ (w :: v :: l ++ [[59]]) = (w, [32]) :: zgZ (v :: l ++ [[59]]) := by simp [zgZ, h1]
  rw [e, zbi, ih, zaU]
  simp
def NoSemi (ws : List W8) : Prop := ∀ w ∈ ws, w ≠ [59]
theorem NoSemi.nil : NoSemi [] := fun _ h => by cases h
theorem NoSemi.cons {w : W8} {ws : List W8} (h : w ≠ [59]) (h2 : NoSemi ws) : NoSemi (w :: ws) := fun x hx => by
 rcases List.mem_cons.1 hx with rfl | hx
 ·exact h
 ·exact h2 x hx
theorem NoSemi.app {a b : List W8} (h : NoSemi a) (h2 : NoSemi b) : NoSemi (a ++ b) := fun x hx => by
 rcases List.mem_append.1 hx with hx | hx
 ·exact h x hx
 ·exact h2 x hx
theorem znY {e : Exp} (h : NoSemi (zaZ e)) (least : Int) : NoSemi (zaK e least) := by
 rw [zaK, zpa]
 split
 ·exact (h.app (NoSemi.cons (by decide) NoSemi.nil)).cons (by decide)
 ·exact h
theorem zjZ {s : W8} (h : zbr s = true) : s ≠ [59] := fun e => by rw [e] at h; revert h; decide
theorem zkc {n : Int} (h0 : 0 ≤ n) (h1 : n ≤ 1099511627776) : Lib.itoa n ≠ [59] := fun e => by
 have := (zgL h0 h1).1
 rw [e] at this
 revert this
 decide
theorem zps {o : Opr} (ho : o ∈ oprs) : o.text ≠ [59] := by
 simp only [oprs, List.mem_cons, List.mem_nil_iff, or_false] at ho
 rcases ho with rfl | rfl | rfl | rfl | rfl | rfl | rfl | rfl <;> decide
theorem zgY : ∀ (d : Nat) (e : Exp), zaA d e = true → ∀ least, NoSemi (zaK e least)
 | 0, e, h => by rw [zaA] at h; cases h
 | d + 1, .mk op n u s args, h => by
  intro least
  refine znY ?_ least
  rcases zch h with ⟨rfl, rfl, rfl, hn⟩ | ⟨rfl, rfl, rfl, rfl, hn⟩ | ⟨rfl, rfl, rfl, ha, h3⟩
  ·have hb : zaZ (.mk 0 n u [] []) = zdv n u := by rw [zaZ, zcW, if_pos rfl]
   obtain ⟨hu0, hu1, hn0, hn2, hn1⟩ := zhb hn
   rw [hb, zdv]
   split
   ·refine NoSemi.cons ?_ NoSemi.nil
    split <;> decide
   ·refine NoSemi.cons (zkc hn0 hn2) ?_
    split
    ·exact NoSemi.cons (by decide) NoSemi.nil
    ·split
     ·exact NoSemi.cons (by decide) NoSemi.nil
     ·split
      ·exact NoSemi.cons (by decide) (NoSemi.cons (by decide) NoSemi.nil)
      ·exact NoSemi.nil
  ·have hb : zaZ (.mk 1 0 0 s []) = [s] := by rw [zaZ, zcW, if_neg (by decide), if_pos rfl]
   rw [hb]
   exact NoSemi.cons (zjZ hn) NoSemi.nil
  ·have hm : ∀ x ∈ args, ∀ least, NoSemi (zaK x least) := fun x hx => zgY d x (ha x hx)
   rcases h3 with ⟨rfl, hl⟩ | ⟨rfl, hl⟩ | ⟨g0, g1, g12, g13, g2, g3, hl⟩
   ·obtain ⟨a, rfl⟩ := zlb hl
    rw [zfX]
    exact (hm a (by simp) 3).cons (by decide)
   ·obtain ⟨a, b, c, rfl⟩ := zk9 hl
    rw [zhx]
    exact ((hm a (by simp) 0).app (((hm b (by simp) 0).app ((hm c (by simp) 0).cons (by decide))).cons (by decide))).cons (by decide)
   ·obtain ⟨a, b, rfl⟩ := zla hl
    have hab := ((hm a (by simp) 0).app (((hm b (by simp) 0).app (NoSemi.cons (w := [41]) (by decide) NoSemi.nil)).cons (w := [44]) (by decide))).cons (w := [40]) (by decide)
    by_cases h6 : op = 6
    ·subst h6
     rw [zfY]
     exact hab.cons (by decide)
    ·by_cases h7 : op = 7
     ·subst h7
      rw [zfZ]
      exact hab.cons (by decide)
     ·obtain ⟨o, ho, rfl⟩ := zg9 (op := op) (by omega) (by omega) h6 h7
      rw [zfW ho]
      exact (hm a (by simp) _).app ((hm b (by simp) _).cons (zps ho))
theorem zln {w : W8} {e : Exp} (hw : w ≠ [59]) (he : zaA 12 e = true) : zbi (zgZ (zbY w e)) = w ++ [32] ++ zbu (zaK e 0) ++ [32, 59, 10] := by
 have hs := zgY 12 e he 0
 have hne := zkS e he
 have : zbY w e = (w :: zaK e 0) ++ [[59]] := by simp [zbY]
 rw [this, zfG _ (by simp) (NoSemi.cons hw hs)]
 obtain ⟨v, l, hv⟩ : ∃ v l, zaK e 0 = v :: l := by
  cases hc : zaK e 0 with
  | nil => exact absurd hc hne
  | cons v l => exact ⟨v, l, rfl⟩
 rw [hv, zaU]
theorem zpF {x : Let} (hn : zbr x.name = true) (he : zaA 12 x.body = true) : zbi (zgZ (zpb x)) = [108, 101, 116, 32] ++ x.name ++ [32, 61, 32] ++ zbu (zaK x.body 0) ++ [32, 59, 10] := by
 have hs := zgY 12 x.body he 0
 have hne := zkS x.body he
 have : zpb x = ([108, 101, 116] :: x.name :: [61] :: zaK x.body 0) ++ [[59]] := by simp [zpb]
 rw [this, zfG _ (by simp) (NoSemi.cons (by decide) (NoSemi.cons (zjZ hn) (NoSemi.cons (by decide) hs)))]
 obtain ⟨v, l, hv⟩ : ∃ v l, zaK x.body 0 = v :: l := by
  cases hc : zaK x.body 0 with
  | nil => exact absurd hc hne
  | cons v l => exact ⟨v, l, rfl⟩
 rw [hv, zaU, zaU, zaU]
 simp
end Go.Proofs.YthnemhfamhnfjaaGreatDoor
namespace Go.Proofs.YthnemhfamhnfjaaGreatDoor
open Go Go.VL
/-- The text of an operand. -/
def txt (e : Exp) (least : Int) : W8 := zbu (zaK e least)
theorem za7 (w : W8) : zbu [w] = w := by simp [zbu, spW, zbi]
theorem zbz {w : W8} {l : List W8} (h : l ≠ []) : zbu (w :: l) = w ++ [32] ++ zbu l := by
 cases l with
 | nil => exact absurd rfl h
 | cons v l => exact zaU w v l
theorem zky {d : Nat} {e : Exp} (h : zaA d e = true) : zaZ e ≠ [] := by
 cases d with
 | zero => rw [zaA] at h; cases h
 | succ d =>
  obtain ⟨op, n, u, s, args⟩ := e
  rcases zch h with ⟨rfl, rfl, rfl, hn⟩ | ⟨rfl, rfl, rfl, rfl, hn⟩ | ⟨rfl, rfl, rfl, ha, ⟨rfl, hl⟩ | ⟨rfl, hl⟩ | ⟨g0, g1, g12, g13, g2, g3, hl⟩⟩
  ·rw [zaZ, zcW, if_pos rfl, zdv]
   split <;> simp
  ·rw [zaZ, zcW, if_neg (by decide), if_pos rfl]; simp
  ·obtain ⟨a, rfl⟩ := zlb hl
   rw [zfX]; simp
  ·obtain ⟨a, b, c, rfl⟩ := zk9 hl
   rw [zhx]; simp
  ·obtain ⟨a, b, rfl⟩ := zla hl
   by_cases h6 : op = 6
   ·subst h6; rw [zfY]; simp
   ·by_cases h7 : op = 7
    ·subst h7; rw [zfZ]; simp
    ·obtain ⟨o, ho, rfl⟩ := zg9 (by omega) (by omega) h6 h7
     rw [zfW ho]; simp
theorem zde {d : Nat} {e : Exp} (h : zaA d e = true) (least : Int) : zaK e least ≠ [] := by
 rw [zaK, zpa]
 split
 ·simp
 ·exact zky h
theorem zgF {d : Nat} {e : Exp} (h : zaA d e = true) {least : Int} (hl : zb7 e.op < least) : txt e least = [40, 32] ++ zbu (zaZ e) ++ [32, 41] := by
 rw [txt, zaK, zpa, if_pos hl]
 simp only [List.cons_append]
 rw [zbz (by simp), zcP _ _ (zky h) (by simp), za7]
 simp
theorem zdb {e : Exp} {least : Int} (hl : ¬ zb7 e.op < least) : txt e least = zbu (zaZ e) := by
 rw [txt, zaK, zpa, if_neg hl]
theorem zow {d : Nat} {a b c : Exp} (ha : zaA d a = true) (hb : zaA d b = true) (hc : zaA d c = true) :
  zbu (zaZ (.mk 13 0 0 [] [a, b, c])) = [105, 102, 32] ++ txt a 0 ++ [32, 116, 104, 101, 110, 32] ++ txt b 0 ++ [32, 101, 108, 115, 101, 32] ++ txt c 0 := by
 rw [zhx, zbz (by simp), zcP _ _ (zde ha 0) (by simp), zbz (by simp), zcP _ _ (zde hb 0) (by simp), zbz (zde hc 0)]
 simp [txt]
theorem zlY {d : Nat} {a : Exp} (ha : zaA d a = true) : zbu (zaZ (.mk 12 0 0 [] [a])) = [110, 111, 116, 32] ++ txt a 3 := by
 rw [zfX, zbz (zde ha 3)]
 simp [txt]
theorem zlZ {d : Nat} {a b : Exp} (ha : zaA d a = true) (hb : zaA d b = true) : zbu (zaZ (.mk 6 0 0 [] [a, b])) = [109, 105, 110, 32, 40, 32] ++ txt a 0 ++ [32, 44, 32] ++ txt b 0 ++ [32, 41] := by
 rw [zfY, zbz (by simp), zbz (by simp), zcP _ _ (zde ha 0) (by simp), zbz (by simp), zcP _ _ (zde hb 0) (by simp), za7]
 simp [txt]
theorem zl0 {d : Nat} {a b : Exp} (ha : zaA d a = true) (hb : zaA d b = true) : zbu (zaZ (.mk 7 0 0 [] [a, b])) = [109, 97, 120, 32, 40, 32] ++ txt a 0 ++ [32, 44, 32] ++ txt b 0 ++ [32, 41] := by
 rw [zfZ, zbz (by simp), zbz (by simp), zcP _ _ (zde ha 0) (by simp), zbz (by simp), zcP _ _ (zde hb 0) (by simp), za7]
 simp [txt]
theorem ze3 {d : Nat} {a b : Exp} {o : Opr} (ho : o ∈ oprs) (ha : zaA d a = true) (hb : zaA d b = true) :
  zbu (zaZ (.mk o.op 0 0 [] [a, b])) = txt a (if o.form = 4 then 5 else o.form) ++ [32] ++ o.text ++ [32] ++ txt b (o.form + 1) := by
 rw [zfW ho, zcP _ _ (zde ha _) (by simp), zbz (zde hb _)]
 simp [txt]
def SB : Nat → Nat
 | 0 => 0
 | d + 1 => 3 * SB d + 200
theorem ziT {n : Int} (h0 : 0 ≤ n) (h1 : n ≤ 1099511627776) : (Lib.itoa n).length ≤ 13 := by
 rw [Lib.itoa, if_neg (by omega)]
 have hlt : n.toNat < 10 ^ (12 + 1) := by
  have : (10 : Nat) ^ 13 = 10000000000000 := by decide
  omega
 exact zfT n.toNat 12 hlt
theorem zn4 {n u : Int} (h : zlE (.mk 0 n u [] []) = true) : (zbu (zdv n u)).length ≤ 30 := by
 obtain ⟨hu0, hu1, hn0, hn2, hn1⟩ := zhb h
 have hi := ziT hn0 hn2
 rw [zdv]
 split
 ·rw [za7]; split <;> simp
 ·split
  ·rw [zaU, za7]; simp; omega
  ·split
   ·rw [zaU, za7]; simp; omega
   ·split
    ·rw [zaU, zaU, za7]; simp; omega
    ·rw [za7]; omega
theorem ziO {s : W8} (h : zbr s = true) : s.length ≤ 20 := by
 simp only [zbr, Bool.and_eq_true] at h
 have h := h.1
 cases s with
 | nil => simp
 | cons c r =>
  simp only [ze9, Bool.and_eq_true, decide_eq_true_eq] at h
  exact h.1.2
theorem znX {o : Opr} (ho : o ∈ oprs) : o.text.length ≤ 3 := by
 simp only [oprs, List.mem_cons, List.not_mem_nil, or_false] at ho
 rcases ho with rfl | rfl | rfl | rfl | rfl | rfl | rfl | rfl <;> decide
theorem zmm : ∀ (d : Nat) (e : Exp), zaA d e = true → (zbu (zaZ e)).length + 4 ≤ SB d
 | 0, e, h => by rw [zaA] at h; cases h
 | d + 1, .mk op n u s args, h => by
  have hx : ∀ x : Exp, zaA d x = true → ∀ least, (txt x least).length ≤ SB d := fun x hx least => by
   have h1 := zmm d x hx
   by_cases hl : zb7 x.op < least
   ·rw [zgF hx hl]; simp; omega
   ·rw [zdb hl]; omega
  rw [SB]
  rcases zch h with ⟨rfl, rfl, rfl, hn⟩ | ⟨rfl, rfl, rfl, rfl, hn⟩ | ⟨rfl, rfl, rfl, ha, ⟨rfl, hl⟩ | ⟨rfl, hl⟩ | ⟨g0, g1, g12, g13, g2, g3, hl⟩⟩
  ·rw [zaZ, zcW, if_pos rfl]
   have := zn4 hn
   omega
  ·rw [zaZ, zcW, if_neg (by decide), if_pos rfl, za7]
   have := ziO hn
   omega
  ·obtain ⟨a, rfl⟩ := zlb hl
   have h1 := ha a (by simp)
   rw [zlY h1]
   have := hx a h1 3
   simp
   omega
  ·obtain ⟨a, b, c, rfl⟩ := zk9 hl
   have h1 := ha a (by simp)
   have h2 := ha b (by simp)
   have h3 := ha c (by simp)
   rw [zow h1 h2 h3]
   have := hx a h1 0
   have := hx b h2 0
   have := hx c h3 0
   simp
   omega
  ·obtain ⟨a, b, rfl⟩ := zla hl
   have h1 := ha a (by simp)
   have h2 := ha b (by simp)
   by_cases h6 : op = 6
   ·subst h6
    rw [zlZ h1 h2]
    have := hx a h1 0
    have := hx b h2 0
    simp
    omega
   ·by_cases h7 : op = 7
    ·subst h7
     rw [zl0 h1 h2]
     have := hx a h1 0
     have := hx b h2 0
     simp
     omega
    ·obtain ⟨o, ho, rfl⟩ := zg9 (by omega) (by omega) h6 h7
     rw [ze3 ho h1 h2]
     have := hx a h1 (if o.form = 4 then 5 else o.form)
     have := hx b h2 (o.form + 1)
     have := znX ho
     simp only [List.length_append, List.length_cons, List.length_nil]
     omega
theorem zsE {d : Nat} (h : d ≤ 12) : SB d ≤ 53144000 := by
 have key : ∀ n, n ≤ 12 → SB n ≤ 53144000 := by decide
 exact key d h
theorem zcA {d : Nat} {e : Exp} (h : zaA d e = true) (hd : d ≤ 12) (least : Int) : (txt e least).length ≤ 53144000 := by
 have h1 := zmm d e h
 have h2 := zsE hd
 by_cases hl : zb7 e.op < least
 ·rw [zgF h hl]; simp; omega
 ·rw [zdb hl]; omega
end Go.Proofs.YthnemhfamhnfjaaGreatDoor
namespace Go.Proofs.YthnemhfamhnfjaaGreatDoor
open Go Go.VL
theorem zk5 {l : List Tok} {p q : Nat} {w : W8} {x : Unit} (h : zfj l p w = .ok x q) : q = p ∧ isB l p w = true := by
 unfold zfj at h
 split at h
 ·cases h; exact ⟨rfl, by assumption⟩
 ·cases h
def znv (l : List Tok) (p : Nat) (b : Bool) (e : Int) : PR Unit := if b = true then .ok () p else .stop (zco l p) e
theorem zhu (l : List Tok) (p : Nat) (b : Bool) (e : Int) (i nx : Nat) (hi : i < nx) (hp : p < l.length) (hl : TokOK l) :
  RetX Tryz.prog 42 [.ptr i 0, .u (.bool b), .u (.int .i64 e)] [(i, pOb l p)] nx (PPost l i nx (fun _ => .tup []) (znv l p b e)) := by
 obtain ⟨t, ht⟩ : ∃ t, l[p]? = some t := ⟨_, List.getElem?_eq_getElem hp⟩
 have hpa : zco l p = t.pos := by unfold zco; rw [ht]
 unfold znv
 cases b with
 | true => exact zd3 l p e i nx hi
 | false => rw [if_neg (by simp), hpa]; exact zcS l p t e i nx hi ht hl.len
theorem zlF (l : List Tok) (p : Nat) (w : W8) (i nx : Nat) (hi : i < nx) (hp : p < l.length) (hl : TokOK l) :
  RetX Tryz.prog 42 [.ptr i 0, .u (.bool (isB l p w)), .u (.int .i64 12)] [(i, pOb l p)] nx (PPost l i nx (fun _ => .tup []) (zfj l p w)) := zhu l p (isB l p w) 12 i nx hi hp hl
theorem zoR {l : List Tok} {p q : Nat} {b : Bool} {e : Int} {x : Unit} (h : znv l p b e = .ok x q) : q = p ∧ b = true := by
 unfold znv at h
 split at h
 ·cases h; exact ⟨rfl, by assumption⟩
 ·cases h
theorem zq3 {l : List Tok} {p : Nat} {t : Tok} (ht : l[p]? = some t) (i nx : Nat) (hi : i < nx) (hl : TokOK l) :
  RetX Tryz.prog 42 [.ptr i 0, .u (.bool (decide (t.kind = 0))), .u (.int .i64 12)] [(i, pOb l p)] nx (PPost l i nx (fun _ => .tup []) (zoK l p)) := by
 have h := zhu l p (decide (t.kind = 0)) 12 i nx hi (lGE.1 ht).1 hl
 have e : znv l p (decide (t.kind = 0)) 12 = zoK l p := by
  unfold znv zoK zco
  rw [ht]
  simp
 rwa [e] at h
theorem zrM {l : List Tok} {p q : Nat} {x : Unit} (h : zoK l p = .ok x q) : q = p := by
 unfold zoK at h
 split at h
 ·split at h
  ·cases h; rfl
  ·cases h
 ·cases h
/-- A step of the lets, by the parser's own checks. -/
theorem zmY {l : List Tok} {f p : Nat} {acc : List Let} {t : Tok} (ht : l[p + 1]? = some t) : zdR l (f + 1) p acc = if isB l p [108, 101, 116] = true then
  (znv l p (decide ((acc.length : Int) < 20)) 6).bind fun _ _ => (znv l (p + 1) (decide (t.kind = 1) && zbr t.text) 12).bind fun _ _ =>
  (znv l (p + 1) (!(acc.any fun x => decide (x.name = t.text))) 5).bind fun _ _ => (zbj l (p + 2) [[61]]).bind fun _ q => (zcX l q).bind fun e r => zdR l f r (acc ++ [⟨t.text, e⟩])
  else .ok acc p := by
 have hpa : zco l (p + 1) = t.pos := by unfold zco; rw [ht]
 rw [zdR, ht]
 unfold znv
 rw [hpa]
 by_cases h1 : isB l p [108, 101, 116] = true
 ·rw [if_pos h1, if_pos h1]
  by_cases h2 : acc.length < 20
  ·rw [if_pos h2, if_pos (by simp; omega), PR.zav]
   simp only
   by_cases h3 : t.kind = 1 ∧ zbr t.text = true
   ·have e3 : (decide (t.kind = 1) && zbr t.text) = true := by simp [h3]
    rw [if_pos h3, e3]
    simp only [if_true, PR.zav]
    by_cases h4 : (acc.any fun x => decide (x.name = t.text)) = true
    ·have e4 : (!acc.any fun x => decide (x.name = t.text)) = false := by rw [h4]; rfl
     rw [if_pos h4, e4]
     rfl
    ·have e4 : (!acc.any fun x => decide (x.name = t.text)) = true := by simpa using h4
     rw [if_neg h4, e4]
     rfl
   ·have e3 : (decide (t.kind = 1) && zbr t.text) = false := by simpa using h3
    rw [if_neg h3, e3]
    rfl
  ·have e2 : decide ((acc.length : Int) < 20) = false := by simp; omega
   rw [if_neg h2, e2]
   rfl
 ·rw [if_neg h1, if_neg h1]
theorem zok {l : List Tok} {f p : Nat} {acc : List Let} (h : ¬ isB l p [108, 101, 116] = true) : zdR l (f + 1) p acc = .ok acc p := by rw [zdR, if_neg h]
theorem PR.zel {α β γ : Type} {r : PR α} {f : α → Nat → PR β} {g : β → Nat → PR γ} : (r.bind f).bind g = r.bind fun a p => (f a p).bind g := by cases r <;> rfl
/-- The lets as the rows of a slice. -/
def zgy (acc : List Let) : List (List U) := acc.map fun l => [.str l.name, .int .i64 l.body.op, .int .i64 l.body.n, .int .i64 l.body.unit, .str l.body.s, .sl (l.body.args.map Exp.row)]
theorem zol (acc : List Let) : (zgy acc).length = acc.length := by simp [zgy]
theorem zmZ (acc : List Let) (s : W8) (e : Exp) : zgy (acc ++ [⟨s, e⟩]) = zgy acc ++ [[.str s, .int .i64 e.op, .int .i64 e.n, .int .i64 e.unit, .str e.s, .sl (e.args.map Exp.row)]] := by simp [zgy]
abbrev byD (b : By) : D := .u (.agg (zbf b))
end Go.Proofs.YthnemhfamhnfjaaGreatDoor
namespace Go.Proofs.YthnemhfamhnfjaaGreatDoor
open Go Go.VL
/-- Right, if it has not too many levels. -/
def RX (e : Exp) : Prop := ∀ d : Nat, e.lev ≤ d → zaA d e = true
theorem zqT {op n u : Int} {s : W8} {args : List Exp} {x : Exp} (hx : x ∈ args) : x.lev + 1 ≤ (Exp.mk op n u s args).lev := by
 rw [Exp.zf5 (Exp.mk op n u s args)]
 have := (zbX (args.map Exp.lev) 0).2 x.lev (List.mem_map.2 ⟨x, hx, rfl⟩)
 show x.lev + 1 ≤ (args.map Exp.lev).foldl max 0 + 1
 omega
theorem ziz {op : Int} {args : List Exp} (h : (args.length : Int) = zb2 op) (h0 : op ≠ 0) (h1 : op ≠ 1) (ha : ∀ x ∈ args, RX x) : RX (.mk op 0 0 [] args) := by
 intro d hd
 have hp := Exp.lev_pos (Exp.mk op 0 0 [] args)
 obtain ⟨d, rfl⟩ : ∃ k, d = k + 1 := ⟨d - 1, by omega⟩
 show (decide ((args.length : Int) = zb2 op) && (if op = 0 then zlE (.mk op 0 0 [] args) else if (0 : Int) ≠ 0 ∨ (0 : Int) ≠ 0 then false else if op = 1 then zbr [] else decide (([] : W8) = []) && !args.any (fun x => !zaA d x))) = true
 rw [if_neg h0, if_neg (by simp), if_neg h1, h]
 have : args.any (fun x => !zaA d x) = false := by
  rw [List.any_eq_false]
  intro x hx
  have := zqT (op := op) (n := 0) (u := 0) (s := []) hx
  rw [ha x hx d (by omega)]
  simp
 rw [this]
 simp
theorem znJ {n u : Int} (h : zlE (.mk 0 n u [] []) = true) : RX (.mk 0 n u [] []) := by
 intro d hd
 have hp := Exp.lev_pos (Exp.mk 0 n u [] [])
 obtain ⟨d, rfl⟩ : ∃ k, d = k + 1 := ⟨d - 1, by omega⟩
 show (decide ((([] : List Exp).length : Int) = zb2 0) && (if (0 : Int) = 0 then zlE (.mk 0 n u [] []) else _)) = true
 rw [if_pos rfl, h]
 decide
theorem zqO {s : W8} (h : zbr s = true) : RX (.mk 1 0 0 s []) := by
 intro d hd
 have hp := Exp.lev_pos (Exp.mk 1 0 0 s [])
 obtain ⟨d, rfl⟩ : ∃ k, d = k + 1 := ⟨d - 1, by omega⟩
 show (decide ((([] : List Exp).length : Int) = zb2 1) && (if (1 : Int) = 0 then zlE (.mk 1 0 0 s []) else if (0 : Int) ≠ 0 ∨ (0 : Int) ≠ 0 then false else if (1 : Int) = 1 then zbr s else _)) = true
 rw [if_neg (by decide), if_neg (by simp), if_pos rfl, h]
 decide
theorem zqR {n u : Int} (h0 : 0 ≤ n) (h1 : n ≤ if u = 0 then 1 else 1099511627776) (h2 : 0 ≤ u) (h3 : u < 5) : zlE (.mk 0 n u [] []) = true := by
 show (decide (([] : List UInt8) = []) && decide (0 ≤ u) && decide (u < 5) && decide (0 ≤ n) && decide (n ≤ if u = 0 then 1 else 1099511627776)) = true
 simp [h0, h1, h2, h3]
/-- Numbers as Lex makes them. -/
def zrg (l : List Tok) : Prop := ∀ (i : Nat) (t : Tok), l[i]? = some t → t.kind = 2 → 0 ≤ t.n ∧ t.n ≤ 1099511627776
theorem zmw {l : List Tok} {p q : Nat} {u : Int} (h : zfg l p = .ok u q) : 1 ≤ u ∧ u ≤ 4 := by
 unfold zfg at h
 split at h
 ·cases h; omega
 ·split at h
  ·cases h; omega
  ·split at h
   ·obtain ⟨_, _, _, h⟩ := PR.zao h
    cases h; omega
   ·cases h; omega
theorem zfh {l : List Tok} (hn : zrg l) : ∀ (f : Nat),
  (∀ p form e q, zcC l f p form = .ok e q → RX e) ∧
  (∀ p form e own e' q, RX e → zcK l f form e own p = .ok e' q → RX e') ∧
  (∀ p form e q, zaV l f p form = .ok e q → RX e.1) ∧
  (∀ p e q, zaJ l f p = .ok e q → RX e)
 | 0 => ⟨fun _ _ _ _ h => by simp [zcC] at h, fun _ _ _ _ _ _ _ h => by simp [zcK] at h, fun _ _ _ _ h => by simp [zaV] at h, fun _ _ _ h => by simp [zaJ] at h⟩
 | f + 1 => by
  obtain ⟨he, hlo, hpr, hpm⟩ := zfh hn f
  refine ⟨fun p form e q h => ?_, fun p form e own e' q hr h => ?_, fun p form e q h => ?_, fun p e q h => ?_⟩
  ·rw [zcC] at h
   obtain ⟨a, r, h1, h2⟩ := PR.zao h
   exact hlo _ _ _ _ _ _ (hpr _ _ _ _ h1) h2
  ·rw [zcK] at h
   split at h
   ·cases h; exact hr
   ·rename_i x hx
    split at h
    ·cases h; exact hr
    ·obtain ⟨a, r, h1, h2⟩ := PR.zao h
     have ha := he _ _ _ _ h1
     have hx := List.mem_of_find?_eq_some hx
     refine hlo _ _ _ _ _ _ ?_ h2
     simp only [oprs, List.mem_cons, List.mem_nil_iff, or_false] at hx
     refine ziz ?_ ?_ ?_ ?_
     ·rcases hx with rfl | rfl | rfl | rfl | rfl | rfl | rfl | rfl <;> rfl
     ·rcases hx with rfl | rfl | rfl | rfl | rfl | rfl | rfl | rfl <;> decide
     ·rcases hx with rfl | rfl | rfl | rfl | rfl | rfl | rfl | rfl <;> decide
     ·intro y hy
      simp only [List.mem_cons, List.mem_nil_iff, or_false] at hy
      rcases hy with rfl | rfl
      ·exact hr
      ·exact ha
  ·rw [zaV] at h
   split at h
   ·obtain ⟨a, r, h1, h⟩ := PR.zao h
    obtain ⟨_, r2, h2, h⟩ := PR.zao h
    obtain ⟨b, r3, h3, h⟩ := PR.zao h
    obtain ⟨_, r4, h4, h⟩ := PR.zao h
    obtain ⟨c, r5, h5, h⟩ := PR.zao h
    cases h
    refine ziz rfl (by decide) (by decide) fun y hy => ?_
    simp only [List.mem_cons, List.mem_nil_iff, or_false] at hy
    rcases hy with rfl | rfl | rfl
    ·exact he _ _ _ _ h1
    ·exact he _ _ _ _ h3
    ·exact he _ _ _ _ h5
   ·split at h
    ·obtain ⟨a, r, h1, h⟩ := PR.zao h
     cases h
     refine ziz rfl (by decide) (by decide) fun y hy => ?_
     simp only [List.mem_cons, List.mem_nil_iff, or_false] at hy
     subst hy
     exact he _ _ _ _ h1
    ·obtain ⟨a, r, h1, h⟩ := PR.zao h
     cases h
     exact hpm _ _ _ h1
  ·rw [zaJ] at h
   split at h
   ·cases h
   ·rename_i t ht
    split at h
    ·rename_i hk
     obtain ⟨u, r, h1, h⟩ := PR.zao h
     cases h
     have hu := zmw h1
     have hnn := hn p t ht hk
     exact znJ (zqR hnn.1 (by rw [if_neg (by omega)]; exact hnn.2) (by omega) (by omega))
    ·split at h
     ·cases h; exact znJ (by decide)
     ·split at h
      ·cases h; exact znJ (by decide)
      ·split at h
       ·obtain ⟨_, r2, h2, h⟩ := PR.zao h
        obtain ⟨a, r3, h3, h⟩ := PR.zao h
        obtain ⟨_, r4, h4, h⟩ := PR.zao h
        obtain ⟨b, r5, h5, h⟩ := PR.zao h
        obtain ⟨_, r6, h6, h⟩ := PR.zao h
        cases h
        refine ziz ?_ ?_ ?_ fun y hy => ?_
        ·split <;> rfl
        ·split <;> decide
        ·split <;> decide
        ·simp only [List.mem_cons, List.mem_nil_iff, or_false] at hy
         rcases hy with rfl | rfl
         ·exact he _ _ _ _ h3
         ·exact he _ _ _ _ h5
       ·split at h
        ·obtain ⟨a, r3, h3, h⟩ := PR.zao h
         obtain ⟨_, r4, h4, h⟩ := PR.zao h
         cases h
         exact he _ _ _ _ h3
        ·split at h
         ·rename_i hk
          cases h
          exact zqO hk.2
         ·cases h
end Go.Proofs.YthnemhfamhnfjaaGreatDoor
namespace Go.Proofs.YthnemhfamhnfjaaGreatDoor
open Go Go.VL
theorem zn3 {s : W8} {n : Int} (h : zd6 s = some n) : 0 ≤ n ∧ n ≤ 1099511627776 := by
 unfold zd6 at h
 split at h
 ·cases h
 ·rename_i hc
  split at h
  ·cases h
  ·cases h
   simp only [not_or] at hc
   have hsp : zbn zaN s = s.length := Classical.byContradiction hc.2.1
   have h3 : s.takeWhile zaN = s := (List.takeWhile_sublist _).eq_of_length hsp
   have hall : ∀ x ∈ s, zaN x = true := fun x hx => by
    rw [← h3] at hx
    exact List.all_eq_true.1 (List.all_takeWhile (l := s) (p := zaN)) x hx
   have := zey s.length s rfl hall
   omega
theorem zpx {s : W8} {t : Tok} (h : zeu s = .ok t) (hk : t.kind = 2) : 0 ≤ t.n ∧ t.n ≤ 1099511627776 := by
 unfold zeu at h
 split at h
 ·cases h
 ·split at h
  ·split at h
   ·cases h; exact absurd hk (by simp)
   ·cases h
  ·split at h
   ·split at h
    ·rename_i n hn
     cases h
     exact zn3 hn
    ·cases h
   ·split at h
    ·cases h; exact absurd hk (by simp)
    ·cases h
theorem zlQ : ∀ (f : Nat) (s : W8) (p : Nat) (l : List Tok), zhG f s p = .ok l → zrg l
 | 0, s, p, l, h => by
  rw [zhG] at h
  cases h
  intro i t hi
  simp at hi
 | f + 1, s, p, l, h => by
  rw [zhG] at h
  split at h
  ·cases h
   intro i t hi hk
   cases i with
   | zero => simp at hi; subst hi; exact absurd hk (by simp)
   | succ i => simp at hi
  ·split at h
   ·cases h
   ·rename_i t ht
    split at h
    ·cases h
    ·rename_i l' hl'
     cases h
     have ih := zlQ f _ _ _ hl'
     intro i x hi hk
     cases i with
     | zero =>
      simp only [List.getElem?_cons_zero, Option.some.injEq] at hi
      subst hi
      exact zpx (t := t) ht hk
     | succ i => exact ih i x (by simpa using hi) hk
theorem zlN {s : W8} {l : List Tok} (h : zgs s = .ok l) : zrg l := by
 unfold zgs at h
 split at h
 ·cases h
 ·exact zlQ _ _ _ _ h
theorem zfe {l : List Tok} (hn : zrg l) {p q : Nat} {e : Exp} (h : zcX l p = .ok e q) : zaA 12 e = true := by
 unfold zcX at h
 obtain ⟨a, r, h1, h2⟩ := PR.zao h
 split at h2
 ·split at h2
  ·rename_i hlev
   cases h2
   exact (zfh hn _).1 _ _ _ _ h1 12 hlev
  ·cases h2
 ·cases h2
theorem zd2 {l : List Tok} (hn : zrg l) {p q : Nat} {w : W8} {e : Exp} (h : zcm l p w = .ok e q) : zaA 12 e = true := by
 unfold zcm at h
 split at h
 ·exact zfe hn h
 ·cases h; decide
theorem zhZ {l : List Tok} {p q : Nat} {a b n : Int} (h : znu l p a b = .ok n q) : a ≤ n ∧ n ≤ b := by
 unfold znu at h
 split at h
 ·cases h
 ·split at h
  ·split at h
   ·cases h; assumption
   ·cases h
  ·cases h
theorem zdE {l : List Tok} {p q : Nat} {w : W8} {a b n : Int} {bh : List W8} (h : zcN l p w a b bh = .ok n q) : n = 0 ∨ a ≤ n ∧ n ≤ b := by
 unfold zcN at h
 split at h
 ·obtain ⟨m, r, h1, h2⟩ := PR.zao h
  obtain ⟨_, r2, h3, h4⟩ := PR.zao h2
  cases h4
  exact .inr (zhZ h1)
 ·cases h; exact .inl rfl
theorem zjN {l : List Tok} {p q : Nat} {w : W8} {a b n : Int} {bh : List W8} (hm : isB l p w = true) (h : zcN l p w a b bh = .ok n q) : a ≤ n ∧ n ≤ b := by
 unfold zcN at h
 rw [if_pos hm] at h
 obtain ⟨m, r, h1, h2⟩ := PR.zao h
 obtain ⟨_, r2, h3, h4⟩ := PR.zao h2
 cases h4
 exact zhZ h1
theorem zka : ∀ (a seen b : List Let), zdL seen (a ++ b) = (zdL seen a && zdL (seen ++ a) b)
 | [], seen, b => by simp [zdL]
 | x :: a, seen, b => by
  rw [List.cons_append, zdL, zdL, zka a]
  simp [Bool.and_assoc]
theorem zh9 {l : List Tok} (hn : zrg l) : ∀ (f : Nat) (p q : Nat) (acc L : List Let), zdL [] acc = true → acc.length ≤ 20 → zdR l f p acc = .ok L q → zdL [] L = true ∧ L.length ≤ 20
 | 0, p, q, acc, L, _, _, h => by rw [zdR] at h; cases h
 | f + 1, p, q, acc, L, ha, hl, h => by
  rw [zdR] at h
  split at h
  ·split at h
   ·rename_i hlt
    split at h
    ·cases h
    ·rename_i t ht
     split at h
     ·rename_i hk
      split at h
      ·cases h
      ·rename_i hno
       obtain ⟨_, r, h1, h⟩ := PR.zao h
       obtain ⟨e, r2, h2, h⟩ := PR.zao h
       refine zh9 hn f _ _ _ _ ?_ (by simp; omega) h
       rw [zka, ha]
       have he := zfe hn h2
       have hno2 : (acc.any fun x => decide (x.name = t.text)) = false := by simpa using hno
       simp only [zdL, List.nil_append, hk.2, he, hno2]
       rfl
     ·cases h
   ·cases h
  ·cases h; exact ⟨ha, hl⟩
end Go.Proofs.YthnemhfamhnfjaaGreatDoor
namespace Go.Proofs.YthnemhfamhnfjaaGreatDoor
open Go Go.VL
theorem zoy {lo hi : Int} {l : List Int} (h : ∀ n ∈ l, lo ≤ n ∧ n ≤ hi) : inB lo hi l = true := by
 rw [inB, Bool.not_eq_true', List.any_eq_false]
 intro n hn
 have := h n hn
 simp
 omega
theorem zlG {l : List Tok} {p q : Nat} {w : W8} {x : Unit} (h : zfj l p w = .ok x q) : isB l q w = true := by
 unfold zfj at h
 split at h
 ·cases h; assumption
 ·cases h
theorem zm4 {l : List Tok} {p q : Nat} {k : Int × Bool} (h : zfb l p = .ok k q) : 0 ≤ k.1 ∧ k.1 ≤ 2 ∧ (k.2 = true → k.1 = 1) := by
 unfold zfb at h
 obtain ⟨_, r, h1, h⟩ := PR.zao h
 split at h
 ·obtain ⟨_, r, h1, h⟩ := PR.zao h
  cases h; decide
 ·split at h
  ·obtain ⟨_, r, h1, h⟩ := PR.zao h
   cases h; decide
  ·obtain ⟨_, r, h1, h⟩ := PR.zao h
   split at h
   ·obtain ⟨_, r, h1, h⟩ := PR.zao h
    cases h; decide
   ·obtain ⟨_, r, h1, h⟩ := PR.zao h
    cases h; decide
theorem zk2 {l : List Tok} {p q : Nat} {o : Int} (h : zdK l p = .ok o q) : 0 ≤ o ∧ o ≤ 2 := by
 unfold zdK at h
 split at h
 ·split at h
  ·rename_i i hi
   obtain ⟨_, r, h1, h⟩ := PR.zao h
   cases h
   have : i < ordersW.length := (List.findIdx?_eq_some_iff_findIdx_eq.1 hi).1
   have h3 : ordersW.length = 3 := rfl
   omega
  ·cases h
 ·cases h; decide
/-- BYLAWS THAT ARE PARSED ARE RIGHT. -/
theorem zp4 {l : List Tok} (hn : zrg l) {b : By} {q : Nat} (h : zkL l = .ok b q) : zbD b = true := by
 unfold zkL at h
 obtain ⟨k, p1, hk, h⟩ := PR.zao h
 obtain ⟨_, p2, hm1, h⟩ := PR.zao h
 obtain ⟨period, p3, hperiod, h⟩ := PR.zao h
 obtain ⟨_, p4, hm2, h⟩ := PR.zao h
 obtain ⟨last, p5, hlast, h⟩ := PR.zao h
 obtain ⟨grace, p6, hgrace, h⟩ := PR.zao h
 obtain ⟨wait, p7, hwait, h⟩ := PR.zao h
 obtain ⟨order, p8, horder, h⟩ := PR.zao h
 obtain ⟨backs, p9, hbacks, h⟩ := PR.zao h
 obtain ⟨voices, p10, hvoices, h⟩ := PR.zao h
 obtain ⟨jury, p11, hjury, h⟩ := PR.zao h
 obtain ⟨fund, p12, hfund, h⟩ := PR.zao h
 obtain ⟨lets, p13, hlets, h⟩ := PR.zao h
 obtain ⟨_, p14, hdw, h⟩ := PR.zao h
 obtain ⟨due, p15, hdue, h⟩ := PR.zao h
 obtain ⟨fine, p16, hfine, h⟩ := PR.zao h
 obtain ⟨pay, p17, hpay, h⟩ := PR.zao h
 obtain ⟨cover, p18, hcover, h⟩ := PR.zao h
 obtain ⟨hold, p19, hhold, h⟩ := PR.zao h
 obtain ⟨_, p20, hend, h⟩ := PR.zao h
 cases h
 have a0 := zm4 hk
 have a1 := zjN (zlG hm1) hperiod
 have a2 := zjN (zlG hm2) hlast
 have a3 := zdE hgrace
 have a4 := zdE hwait
 have a5 := zk2 horder
 have a6 := zdE hbacks
 have a7 := zdE hvoices
 have a8 := zdE hjury
 have a9 := zdE hfund
 obtain ⟨b1, b2⟩ := zh9 hn 21 _ _ [] lets rfl (by simp) hlets
 have c1 := zfe hn hdue
 have c2 := zd2 hn hfine
 have c3 := zd2 hn hpay
 have c4 := zd2 hn hcover
 have c5 := zd2 hn hhold
 have i1 : inB 0 2 [k.1] = true := zoy fun n hm => by simp only [List.mem_singleton] at hm; subst hm; omega
 have i2 : inB 0 2 [order] = true := zoy fun n hm => by simp only [List.mem_singleton] at hm; subst hm; omega
 have i3 : inB 1 1000 [period, last] = true := zoy fun n hm => by
  simp only [List.mem_cons, List.mem_nil_iff, or_false] at hm; rcases hm with rfl | rfl <;> omega
 have i4 : inB 0 1000 [grace, wait, voices, fund] = true := zoy fun n hm => by
  simp only [List.mem_cons, List.mem_nil_iff, or_false] at hm; rcases hm with rfl | rfl | rfl | rfl <;> omega
 have i5 : inB 0 60 [backs, jury] = true := zoy fun n hm => by
  simp only [List.mem_cons, List.mem_nil_iff, or_false] at hm; rcases hm with rfl | rfl <;> omega
 have hsl : (!(k.2 && decide (k.1 ≠ 1))) = true := by
  cases hk2 : k.2 with
  | false => rfl
  | true => rw [a0.2.2 hk2]; rfl
 simp only [zbD, zlg, zlk, i1, i2, i3, i4, i5, hsl, b1, c1, c2, c3, c4, c5, decide_eq_true b2, Bool.and_self]
/-- Expressions that are parsed, of at most 12 levels, are right. -/
theorem zoJ {s : W8} {l : List Tok} (h : zgs s = .ok l) {f p q : Nat} {form : Int} {e : Exp} (he : zcC l f p form = .ok e q) (hlev : e.lev ≤ 12) : zaA 12 e = true :=
 (zfh (zlN h) f).1 _ _ _ _ he 12 hlev
/-- The canonical text, with line feeds for its blanks, is parsed to the same bylaws. -/
theorem zkP {b : By} (h : zbD b = true) {l : List (W8 × W8)} (hl : l = (byW b).map fun w => (w, [10])) (hlen : (zbi l).length ≤ 2000) : ∃ ts, zgs (zbi l) = .ok ts ∧ zkL ts = .ok b (byW b).length := by
 obtain ⟨ts, h1, _, h2⟩ := zq7 h (l := l) (by rw [hl]; exact zlh (zoW h)) (by rw [hl]; simp [Function.comp_def]) hlen
 exact ⟨ts, h1, h2⟩
end Go.Proofs.YthnemhfamhnfjaaGreatDoor
namespace Go.Proofs.YthnemhfamhnfjaaGreatDoor
open Go Go.VL
attribute [local simp] HS zdy zck evPure opd uOf zaI St.put St.at getK binD binI binS binB nilD aggD zii zjj lookD lookR zcY Go.VL.nextD zc1 zkb zjm zhD zcO mkV zdU zbt zbE mapEff zeJ zgV Key.kk shiftI arith unD convD zeH loadD cellsAt fieldAddrD fieldD indexAddrD indexD sliceD cutD lenD minmaxD nilCheckD buildD fillD zb4 zdM zfi setAll zdm zfu zcU zja zcL St.add za0 zbZ rowsOf zew zc6 zak zac zaa zbe zc4 zaY entry zbS zb9 valD zcn zcT zhO zdS zdT zcc zbU zaw za2 zbx delAll effD St.effS zdP zbk zbb zdQ zbl zbd zcD zbc za4 zcE zdH zbV zcz zbw zcx zcy zaP mkD zbO zbG zbT zaw zcR D.ids Op.operands Call.operands zbN makeIfD makeFuncD typeAssertD zji zei zej zjh zcZ IntKind.bits zdq List.take_of_length_le List.range_succ
attribute [local irreducible] V G H HD HD2 HD4 zns RetX zap Eff CallP CallV EndOK Fun Ret FinOK LoopI LoopW EndW
theorem zl9 (e : Exp) : Fun Tryz.prog 111 [.u (.agg e.row)] (· = .u (.int .i64 (zb7 e.op))) := by
 have hop := zes
 rw [Exp.row_eq]
 by_cases h1 : e.op = 13
 ·rw [zb7, if_pos h1]
  (refine Fun.of_body Tryz.func111 rfl (by simp) fun Γ hn => ?_); simp only [entry, ziC, ziN, maC, maN, oA, Tryz.ntmps111]
  repeat' (first
  | ((first | refine zaf ?_ | refine zaj ?_ | refine zah ?_ | refine zai ?_ | refine zaD ?_ | fail); simp [h1])
  | (refine zas ?_; simp only [zap])
  | fail)
  (refine EndOK.val (.inr rfl) ?_; simp [zaM, zag, zau, Tryz.results111])
 ·by_cases h2 : e.op = 12
  ·rw [zb7, if_neg h1, if_pos h2]
   (refine Fun.of_body Tryz.func111 rfl (by simp) fun Γ hn => ?_); simp only [entry, ziC, ziN, maC, maN, oA, Tryz.ntmps111]
   repeat' (first
  | ((first | refine zaf ?_ | refine zaj ?_ | refine zah ?_ | refine zai ?_ | refine zaD ?_ | fail); simp [h1, h2])
  | (refine zas ?_; simp only [zap])
  | fail)
   (refine EndOK.val (.inr rfl) ?_; simp [zaM, zag, zau, Tryz.results111])
  ·rw [zb7, if_neg h1, if_neg h2]
   have hlen : oprs.length = 8 := rfl
   generalize oprs = L at *
   (refine Fun.of_body Tryz.func111 rfl (by simp) fun Γ hn => ?_); simp only [entry, ziC, ziN, maC, maN, oA, Tryz.ntmps111]
   repeat' (first
  | ((first | refine zaf ?_ | refine zaj ?_ | refine zah ?_ | refine zai ?_ | refine zaD ?_ | fail); simp [h1, h2, hlen])
  | (refine zaq ?_; simp only [zap])
  | (refine CallP.fE (hop) (by first | rfl | fail) (by first | simp [h1, h2, hlen] <;> rfl | fail) ?_; (try simp [h1, h2, hlen]))
  | fail)
   refine zd8 (α := { i : Nat // i ≤ 8 ∧ ∀ o ∈ L.take i, decide (o.op = e.op) = false }) [1, 2, 11, 12] (fun x => [(13, .u (.int .i64 x.1))]) (fun x => [(0, .box [.u (.int .i64 e.op), .u (.int .i64 e.n), .u (.int .i64 e.unit), .u (.str e.s), .u (.sl (e.args.map Exp.row))])]) 1 (fun x => 8 - x.1) ⟨0, by omega, by simp⟩ ?_ ?_
   ·exact (Wk.cut rfl (by simp [hn, St.lp]) (by simp [wkO, St.lp, zaa, getK, Ob.under, D.under, zad, zae, hlen]) (by simp [wkU, St.lp, zan, zaa, getK, D.under, hlen]) (by simp [wkE, St.lp, zan, zaa, getK, hlen] <;> (try (intros; simp_all; done)) <;> (try (intros; omega)) <;> (try grind)))
   rintro ⟨i, hi, hb⟩
   simp [St.lp, St.only, zan, zaa, getK]
   rcases hx : L[i]? with _ | o
   ·have hge : L.length ≤ i := by simpa using hx
    obtain rfl : i = 8 := by omega
    rw [List.take_of_length_le (by omega)] at hb
    have hn0 : L.find? (fun o => decide (o.op = e.op)) = none := by rw [List.find?_eq_none]; intro o ho; simp [hb o ho]
    rw [hn0]
    repeat' (first
  | ((first | refine zaf ?_ | refine zaj ?_ | refine zah ?_ | fail); simp [hx, hlen])
  | (refine zas ?_; simp only [zap])
  | (refine zce ?_; simp [zap])
  | fail)
    (refine EndOK.val (.inr rfl) ?_; simp [zaM, zag, zau, Tryz.results111])
   ·have hlt : i < L.length := (lGE.1 hx).1
    have hi8 : i < 8 := by omega
    have hxe : L[i]'hlt = o := (lGE.1 hx).2
    by_cases hp : o.op = e.op
    ·have hf : L.find? (fun o => decide (o.op = e.op)) = some o := by
      rw [List.find?_eq_some_iff_getElem]
      refine ⟨by simpa using hp, i, hlt, (lGE.1 hx).2, fun j hj => ?_⟩
      have := hb (L[j]'(by omega)) (by rw [List.mem_take_iff_getElem]; exact ⟨j, by omega, rfl⟩)
      simp [this]
     rw [hf]
     repeat' (first
  | ((first | refine zaf ?_ | refine zaj ?_ | refine zah ?_ | refine zai ?_ | fail); simp [hx, hlen, hp, hi8, hxe])
  | ((first | refine zas ?_ | refine zaq ?_ | fail); simp only [zap])
  | (refine ⟨?_, by omega⟩)
  | (intro hc <;> (try (exfalso; omega)))
  | fail)
     (refine EndOK.val (.inr rfl) ?_; simp [zaM, zag, zau, Tryz.results111])
    ·repeat' (first
  | ((first | refine zaf ?_ | refine zaj ?_ | fail); simp [hx, hlen, hp, hi8, hxe])
  | (refine ⟨by omega, ?_⟩)
  | ((first | refine zah ?_ | refine zai ?_ | refine zaG ?_ | fail); simp [hx, hlen, hp, hi8, hxe])
  | (refine zaq ?_; simp only [zap])
  | (refine ⟨?_, by omega⟩)
  | (intro hc <;> (try (exfalso; omega)))
  | fail)
     refine LoopW.next ⟨i + 1, by omega, zbB (p := fun o : Opr => decide (o.op = e.op) = false) hx hb (by simpa using hp)⟩ (by simp; omega) ?_
     exact (Wk.cut rfl (by simp [hn, St.lp]) (by simp [wkO, St.lp, zaa, getK, Ob.under, D.under, zad, zae, hlen]) (by simp [wkU, St.lp, zan, zaa, getK, D.under, hlen]) (by simp [wkE, St.lp, zan, zaa, getK, hlen] <;> (try (intros; simp_all; done)) <;> (try (intros; omega)) <;> (try grind)))
theorem zmR (n u : Int) (h : zlE (.mk 0 n u [] []) = true) : Fun Tryz.prog 113 [.u (.agg (Exp.mk 0 n u [] []).row)] (· = .u (.str (zbu (zdv n u)))) := by
 obtain ⟨hu0, hu1, hn0, hn2, hn1⟩ := zhb h
 have hit := zl2 n (by omega) (by omega)
 have hil := ziT hn0 hn2
 rw [Exp.row, List.map_nil, zdv]
 generalize Lib.itoa n = T at *
 have hil2 : T.length ≤ 1000 := by omega
 by_cases c0 : u = 0
 ·rw [if_pos c0]
  by_cases c1 : n = 1
  ·rw [if_pos c1, za7]
   (refine Fun.of_body Tryz.func113 rfl (by simp) fun Γ hn => ?_); simp only [entry, ziC, ziN, maC, maN, oA, Tryz.ntmps113]
   repeat' (first
  | ((first | refine zaf ?_ | refine zaj ?_ | refine zah ?_ | refine zai ?_ | refine zaD ?_ | fail); simp [c0, c1])
  | (refine zas ?_; simp only [zap])
  | (refine CallP.fE (hit) (by first | rfl | fail) (by first | simp [c0, c1] <;> rfl | fail) ?_; (try simp [c0, c1]))
  | fail)
   (refine EndOK.val (.inr rfl) ?_; simp [zaM, zag, zau, Tryz.results113])
  ·rw [if_neg c1, za7]
   (refine Fun.of_body Tryz.func113 rfl (by simp) fun Γ hn => ?_); simp only [entry, ziC, ziN, maC, maN, oA, Tryz.ntmps113]
   repeat' (first
  | ((first | refine zaf ?_ | refine zaj ?_ | refine zah ?_ | refine zai ?_ | refine zaD ?_ | fail); simp [c0, c1])
  | ((first | refine zas ?_ | refine zaq ?_ | fail); simp only [zap])
  | (refine CallP.fE (hit) (by first | rfl | fail) (by first | simp [c0, c1] <;> rfl | fail) ?_; (try simp [c0, c1]))
  | fail)
   (refine EndOK.val (.inr rfl) ?_; simp [zaM, zag, zau, Tryz.results113])
 ·rw [if_neg c0]
  by_cases c3 : u = 3
  ·rw [if_pos c3, zaU, za7]
   (refine Fun.of_body Tryz.func113 rfl (by simp) fun Γ hn => ?_); simp only [entry, ziC, ziN, maC, maN, oA, Tryz.ntmps113]
   repeat' (first
  | ((first | refine zaf ?_ | refine zaj ?_ | fail); simp [c0, c3])
  | (refine ⟨by omega, ?_⟩)
  | ((first | refine zah ?_ | refine zai ?_ | refine zaD ?_ | fail); simp [c0, c3])
  | (refine zas ?_; simp only [zap])
  | (refine CallP.fE (hit) (by first | rfl | fail) (by first | simp [c0, c3] <;> rfl | fail) ?_; (try simp [c0, c3]))
  | fail)
   (refine EndOK.val (.inr rfl) ?_; simp [zaM, zag, zau, Tryz.results113])
  ·rw [if_neg c3]
   by_cases c2 : u = 2
   ·rw [if_pos c2, zaU, za7]
    (refine Fun.of_body Tryz.func113 rfl (by simp) fun Γ hn => ?_); simp only [entry, ziC, ziN, maC, maN, oA, Tryz.ntmps113]
    repeat' (first
  | ((first | refine zaf ?_ | refine zaj ?_ | fail); simp [c0, c2, c3])
  | (refine ⟨by omega, ?_⟩)
  | ((first | refine zah ?_ | refine zai ?_ | refine zaD ?_ | fail); simp [c0, c2, c3])
  | (refine zas ?_; simp only [zap])
  | (refine CallP.fE (hit) (by first | rfl | fail) (by first | simp [c0, c2, c3] <;> rfl | fail) ?_; (try simp [c0, c2, c3]))
  | fail)
    (refine EndOK.val (.inr rfl) ?_; simp [zaM, zag, zau, Tryz.results113])
   ·rw [if_neg c2]
    by_cases c4 : u = 4
    ·rw [if_pos c4, zaU, zaU, za7]
     (refine Fun.of_body Tryz.func113 rfl (by simp) fun Γ hn => ?_); simp only [entry, ziC, ziN, maC, maN, oA, Tryz.ntmps113]
     repeat' (first
  | ((first | refine zaf ?_ | refine zaj ?_ | fail); simp [c0, c2, c3, c4])
  | (refine ⟨by omega, ?_⟩)
  | ((first | refine zah ?_ | refine zai ?_ | refine zaD ?_ | fail); simp [c0, c2, c3, c4])
  | (refine zas ?_; simp only [zap])
  | (refine CallP.fE (hit) (by first | rfl | fail) (by first | simp [c0, c2, c3, c4] <;> rfl | fail) ?_; (try simp [c0, c2, c3, c4]))
  | fail)
     (refine EndOK.val (.inr rfl) ?_; simp [zaM, zag, zau, Tryz.results113])
    ·rw [if_neg c4, za7]
     (refine Fun.of_body Tryz.func113 rfl (by simp) fun Γ hn => ?_); simp only [entry, ziC, ziN, maC, maN, oA, Tryz.ntmps113]
     repeat' (first
  | ((first | refine zaf ?_ | refine zaj ?_ | refine zah ?_ | refine zai ?_ | refine zaD ?_ | fail); simp [c0, c2, c3, c4])
  | ((first | refine zas ?_ | refine zaq ?_ | fail); simp only [zap])
  | (refine CallP.fE (hit) (by first | rfl | fail) (by first | simp [c0, c2, c3, c4] <;> rfl | fail) ?_; (try simp [c0, c2, c3, c4]))
  | fail)
     (refine EndOK.val (.inr rfl) ?_; simp [zaM, zag, zau, Tryz.results113])
theorem zma (s : W8) : Fun Tryz.prog 61 [.u (.str s)] (· = if 2000 < s.length then .tup [.u (.str []), .u (.int .i64 6)] else .tup [.u (.str s), .u (.int .i64 0)]) := by
 by_cases h1 : 2000 < s.length
 ·have h2 : (2000 : Int) < s.length := by omega
  rw [if_pos h1]
  (refine Fun.of_body Tryz.func61 rfl (by simp) fun Γ hn => ?_); simp only [entry, ziC, ziN, maC, maN, oA, Tryz.ntmps61]
  repeat' (first
  | ((first | refine zaf ?_ | refine zaj ?_ | refine zah ?_ | refine zai ?_ | fail); simp [h2])
  | (refine zas ?_; simp only [zap])
  | fail)
  (refine EndOK.val (.inr rfl) ?_; simp [zaM, zag, zau, Tryz.results61])
 ·have h2 : ¬ (2000 : Int) < s.length := by omega
  rw [if_neg h1]
  (refine Fun.of_body Tryz.func61 rfl (by simp) fun Γ hn => ?_); simp only [entry, ziC, ziN, maC, maN, oA, Tryz.ntmps61]
  repeat' (first
  | ((first | refine zaf ?_ | refine zaj ?_ | refine zah ?_ | refine zai ?_ | fail); simp [h2])
  | ((first | refine zas ?_ | refine zaq ?_ | fail); simp only [zap])
  | fail)
  (refine EndOK.val (.inr rfl) ?_; simp [zaM, zag, zau, Tryz.results61])
end Go.Proofs.YthnemhfamhnfjaaGreatDoor
