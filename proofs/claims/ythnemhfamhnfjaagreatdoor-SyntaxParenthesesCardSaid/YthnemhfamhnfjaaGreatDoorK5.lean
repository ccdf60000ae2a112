/- Texts joined by a program of mine: Ej Ek El Ep Er Zg Em En Eo Zn Yk Yl Ym Yn Yo Yp Yq Yr Zh#p Zd#p Es Et Zj Zh. -/
import Derived.Test.YthnemhfamhnfjaaGreatDoorK4
set_option linter.all false
set_option maxRecDepth 100000
set_option maxHeartbeats 8000000
namespace Go.Proofs.YthnemhfamhnfjaaGreatDoor
open Go Go.VL
attribute [local simp] HS zde zb7 evPure opd uOf zaF St.put St.at getK binD binI binS binB nilD aggD zhn ziD lookD lookR zcB Go.VL.nextD zcF ziQ ziP zgW zcz mkV zdB zbq zbB mapEff zev zgg Key.kk shiftI arith unD convD zeg loadD cellsAt fieldAddrD fieldD indexAddrD indexD sliceD cutD lenD minmaxD nilCheckD buildD fillD zbU zdn ze5 setAll zcU zff zcx zhN zct St.add zaR zbR rowsOf zd0 zcJ zak zac zaa za9 zcI zaP entry zbO zbY valD zb8 zcA zhf zdz zdA zb1 zbQ zax zaW zbu delAll effD St.effS zdj zbl za5 zdk zbm za7 zcl za6 zaV zcm zdh zbJ zci zbt zcg zch zaK mkD zbL zbC zbP zax zcv D.ids Op.operands Call.operands zbI makeIfD makeFuncD typeAssertD ziB zdR zdS zhX zcD IntKind.bits zcV List.take_of_length_le List.range_succ
attribute [local irreducible] V G H HD HD2 HD4 zmC RetX zao Eff CallP CallV EndOK Fun Ret FinOK LoopI LoopW EndW
theorem zkn {l : List Tok} (hl : TokOK l) {f p : Nat} (hE : zhc l f) (hf : 4 * (l.length - p) ≤ f) {t : Tok} (ht : l[p]? = some t) (hk : ¬ t.kind = 2) (h1 : isB l p [116, 114, 117, 101] = false) (h2 : isB l p [102, 97, 108, 115, 101] = false)
  (h3 : isB l p [109, 105, 110] = true) (h4 : isB l p [109, 97, 120] = false) {i nx : Nat} (hi : i < nx) :
  RetX Tryz.prog 133 [.ptr i 0] [(i, pOb l p)] nx (PPost l i nx zex (zaU l (f + 1) p)) := by
 have hne := zaB hi
 have hp := (lGE.1 ht).1
 have hnx := zbM l p t ht hl.len
 have hll := hl.len
 have hp2 := zba hl h3
 rw [zaU, ht]
 have hh1 := fun nx' (h : nx ≤ nx') => zbc l p [116, 114, 117, 101] i nx' (by omega) hp hl.len
 have hh2 := fun nx' (h : nx ≤ nx') => zbc l p [102, 97, 108, 115, 101] i nx' (by omega) hp hl.len
 have hm1 := zdH l p [109, 105, 110] hp hl.len
 have hm2 := zdH l p [109, 97, 120] hp hl.len
 simp only [hk, h1, h2, h3, h4, if_false, if_true, Bool.false_eq_true, or_true, true_or] at hh1 hh2 hm1 hm2 ⊢
 have hw1 := fun nx' (h : nx ≤ nx') => zeu hl [40] (q := (p + 1)) (i := i) (nx := nx') (by omega) hp2
 cases hr0 : zbs l (p + 1) [[40]] with
 | stop pos e =>
  simp only [hr0] at hw1
  (refine RetX.of_bodyW Tryz.func133 rfl (by simp) fun Γ hn hpan => ?_); simp only [entry, ziC, ziN, maC, maN, oA, Tryz.ntmps133]
  repeat' (first
  | ((first | refine zaf ?_ | refine zaj ?_ | fail); simp [hne, hk, del, nAA])
  | (refine ⟨by omega, ?_⟩)
  | ((first | refine zag ?_ | refine zai ?_ | fail); simp [hne, hk, del, nAA])
  | (refine zap ?_; simp only [zao])
  | (refine CallP.fE (hnx) (by first | rfl | fail) (by first | simp [hne, hk, del, nAA] <;> rfl | fail) ?_; (try simp [hne, hk, del, nAA]))
  | (refine CallP.fE (hm1) (by first | rfl | fail) (by first | simp [hne, hk, del, nAA] <;> rfl | fail) ?_; (try simp [hne, hk, del, nAA]))
  | (refine CallP.fE (hm2) (by first | rfl | fail) (by first | simp [hne, hk, del, nAA] <;> rfl | fail) ?_; (try simp [hne, hk, del, nAA]))
  | (refine CallP.ok1 (hh1 _ (by first | omega | simp <;> omega | fail)) (by first | (simp [hne, hk, del, nAA, zaa, getK, zab, zac]; done) | fail) (by rfl) (by rfl) ?_; (try simp [hne, hk, del, nAA]))
  | (refine CallP.ok1 (hh2 _ (by first | omega | simp <;> omega | fail)) (by first | (simp [hne, hk, del, nAA, zaa, getK, zab, zac]; done) | fail) (by rfl) (by rfl) ?_; (try simp [hne, hk, del, nAA]))
  | (refine CallP.zd8 (hw1 _ (by first | omega | simp <;> omega | fail)) (by first | (simp [hne, hk, del, nAA, zaa, getK, zab, zac]; done) | fail) (by rfl) (by first | assumption | (simp; done) | fail) (by rfl) (by simp) ?_; rintro ob' ⟨q', rfl⟩; refine ⟨_, Wk.refl _, ?_⟩)
  | (refine zar (by first | rfl | fail) ?_; simp [hne, hk, del, nAA, frzN, frz1, zaA, zaz, St.frz, St.frzS, frzS, fv, zaE, zaY, za1, zaD, zas, zal, del, frz, za2])
  | fail)
  (refine hpan _ _ ⟨{ n := _, env := [], obs := [(i, pOb l q')], next := nx }, (Wk.cut rfl (by simp [hn]) (by simp [wkO, zaa, getK, zab, zac, Ob.under, D.under, zad, zae, hi, hne, zab, zac, zaa, getK]) (by simp [wkU, zam, zaa, getK, D.under, hi, hne, zab, zac, zaa, getK]) (by simp [wkE, zam, zaa, getK, hi, hne, zab, zac, zaa, getK])), by simp [hn], ?_⟩; try simp)
  exact PPost.zay (by simp [PR.bind, *])
 | ok v0 q0 =>
  simp only [hr0] at hw1
  obtain ⟨g0a, g0b⟩ := zaS hl _ hr0 hp2
  have ha := fun nx' (h : nx ≤ nx') => hE q0 0 i nx' (by omega) g0b (by omega) (by omega) (by omega)
  cases hr1 : zdI l f q0 0 with
  | stop pos e =>
   simp only [hr1] at ha
   (refine RetX.of_bodyW Tryz.func133 rfl (by simp) fun Γ hn hpan => ?_); simp only [entry, ziC, ziN, maC, maN, oA, Tryz.ntmps133]
   repeat' (first
  | ((first | refine zaf ?_ | refine zaj ?_ | fail); simp [hne, hk, del, nAA])
  | (refine ⟨by omega, ?_⟩)
  | ((first | refine zag ?_ | refine zai ?_ | fail); simp [hne, hk, del, nAA])
  | (refine zap ?_; simp only [zao])
  | (refine CallP.fE (hnx) (by first | rfl | fail) (by first | simp [hne, hk, del, nAA] <;> rfl | fail) ?_; (try simp [hne, hk, del, nAA]))
  | (refine CallP.fE (hm1) (by first | rfl | fail) (by first | simp [hne, hk, del, nAA] <;> rfl | fail) ?_; (try simp [hne, hk, del, nAA]))
  | (refine CallP.fE (hm2) (by first | rfl | fail) (by first | simp [hne, hk, del, nAA] <;> rfl | fail) ?_; (try simp [hne, hk, del, nAA]))
  | (refine CallP.ok1 (hh1 _ (by first | omega | simp <;> omega | fail)) (by first | (simp [hne, hk, del, nAA, zaa, getK, zab, zac]; done) | fail) (by rfl) (by rfl) ?_; (try simp [hne, hk, del, nAA]))
  | (refine CallP.ok1 (hh2 _ (by first | omega | simp <;> omega | fail)) (by first | (simp [hne, hk, del, nAA, zaa, getK, zab, zac]; done) | fail) (by rfl) (by rfl) ?_; (try simp [hne, hk, del, nAA]))
  | (refine CallP.ok1 (hw1 _ (by first | omega | simp <;> omega | fail)) (by first | (simp [hne, hk, del, nAA, zaa, getK, zab, zac]; done) | fail) (by rfl) (by rfl) ?_; (try simp [hne, hk, del, nAA]))
  | (refine CallP.zd8 (ha _ (by first | omega | simp <;> omega | fail)) (by first | (simp [hne, hk, del, nAA, zaa, getK, zab, zac]; done) | fail) (by rfl) (by first | assumption | (simp; done) | fail) (by rfl) (by simp) ?_; rintro ob' ⟨q', rfl⟩; refine ⟨_, Wk.refl _, ?_⟩)
  | (refine zar (by first | rfl | fail) ?_; simp [hne, hk, del, nAA, frzN, frz1, zaA, zaz, St.frz, St.frzS, frzS, fv, zaE, zaY, za1, zaD, zas, zal, del, frz, za2])
  | fail)
   (refine hpan _ _ ⟨{ n := _, env := [], obs := [(i, pOb l q')], next := nx }, (Wk.cut rfl (by simp [hn]) (by simp [wkO, zaa, getK, zab, zac, Ob.under, D.under, zad, zae, hi, hne, zab, zac, zaa, getK]) (by simp [wkU, zam, zaa, getK, D.under, hi, hne, zab, zac, zaa, getK]) (by simp [wkE, zam, zaa, getK, hi, hne, zab, zac, zaa, getK])), by simp [hn], ?_⟩; try simp)
   exact PPost.zay (by simp [PR.bind, *])
  | ok v1 q1 =>
   have ha := fun nx' h => zcL (ha nx' h) hr1
   obtain ⟨g1a, g1b⟩ := (zbV hl f).1 _ _ _ _ hr1 g0b
   have hw2 := fun nx' (h : nx ≤ nx') => zeu hl [44] (q := q1) (i := i) (nx := nx') (by omega) g1b
   cases hr2 : zbs l q1 [[44]] with
   | stop pos e =>
    simp only [hr2] at hw2
    (refine RetX.of_bodyW Tryz.func133 rfl (by simp) fun Γ hn hpan => ?_); simp only [entry, ziC, ziN, maC, maN, oA, Tryz.ntmps133]
    repeat' (first
  | ((first | refine zaf ?_ | refine zaj ?_ | fail); simp [hne, hk, del, nAA])
  | (refine ⟨by omega, ?_⟩)
  | ((first | refine zag ?_ | refine zai ?_ | fail); simp [hne, hk, del, nAA])
  | (refine zap ?_; simp only [zao])
  | (refine CallP.fE (hnx) (by first | rfl | fail) (by first | simp [hne, hk, del, nAA] <;> rfl | fail) ?_; (try simp [hne, hk, del, nAA]))
  | (refine CallP.fE (hm1) (by first | rfl | fail) (by first | simp [hne, hk, del, nAA] <;> rfl | fail) ?_; (try simp [hne, hk, del, nAA]))
  | (refine CallP.fE (hm2) (by first | rfl | fail) (by first | simp [hne, hk, del, nAA] <;> rfl | fail) ?_; (try simp [hne, hk, del, nAA]))
  | (refine CallP.ok1 (hh1 _ (by first | omega | simp <;> omega | fail)) (by first | (simp [hne, hk, del, nAA, zaa, getK, zab, zac]; done) | fail) (by rfl) (by rfl) ?_; (try simp [hne, hk, del, nAA]))
  | (refine CallP.ok1 (hh2 _ (by first | omega | simp <;> omega | fail)) (by first | (simp [hne, hk, del, nAA, zaa, getK, zab, zac]; done) | fail) (by rfl) (by rfl) ?_; (try simp [hne, hk, del, nAA]))
  | (refine CallP.ok1 (hw1 _ (by first | omega | simp <;> omega | fail)) (by first | (simp [hne, hk, del, nAA, zaa, getK, zab, zac]; done) | fail) (by rfl) (by rfl) ?_; (try simp [hne, hk, del, nAA]))
  | (refine CallP.ok1 (ha _ (by first | omega | simp <;> omega | fail)) (by first | (simp [hne, hk, del, nAA, zaa, getK, zab, zac]; done) | fail) (by rfl) (by rfl) ?_; (try simp [hne, hk, del, nAA]))
  | (refine CallP.zd8 (hw2 _ (by first | omega | simp <;> omega | fail)) (by first | (simp [hne, hk, del, nAA, zaa, getK, zab, zac]; done) | fail) (by rfl) (by first | assumption | (simp; done) | fail) (by rfl) (by simp) ?_; rintro ob' ⟨q', rfl⟩; refine ⟨_, Wk.refl _, ?_⟩)
  | (refine zar (by first | rfl | fail) ?_; simp [hne, hk, del, nAA, frzN, frz1, zaA, zaz, St.frz, St.frzS, frzS, fv, zaE, zaY, za1, zaD, zas, zal, del, frz, za2])
  | fail)
    (refine hpan _ _ ⟨{ n := _, env := [], obs := [(i, pOb l q')], next := nx }, (Wk.cut rfl (by simp [hn]) (by simp [wkO, zaa, getK, zab, zac, Ob.under, D.under, zad, zae, hi, hne, zab, zac, zaa, getK]) (by simp [wkU, zam, zaa, getK, D.under, hi, hne, zab, zac, zaa, getK]) (by simp [wkE, zam, zaa, getK, hi, hne, zab, zac, zaa, getK])), by simp [hn], ?_⟩; try simp)
    exact PPost.zay (by simp [PR.bind, *])
   | ok v2 q2 =>
    simp only [hr2] at hw2
    obtain ⟨g2a, g2b⟩ := zaS hl _ hr2 g1b
    have hb := fun nx' (h : nx ≤ nx') => hE q2 0 i nx' (by omega) g2b (by omega) (by omega) (by omega)
    cases hr3 : zdI l f q2 0 with
    | stop pos e =>
     simp only [hr3] at hb
     (refine RetX.of_bodyW Tryz.func133 rfl (by simp) fun Γ hn hpan => ?_); simp only [entry, ziC, ziN, maC, maN, oA, Tryz.ntmps133]
     repeat' (first
  | ((first | refine zaf ?_ | refine zaj ?_ | fail); simp [hne, hk, del, nAA])
  | (refine ⟨by omega, ?_⟩)
  | ((first | refine zag ?_ | refine zai ?_ | fail); simp [hne, hk, del, nAA])
  | (refine zap ?_; simp only [zao])
  | (refine CallP.fE (hnx) (by first | rfl | fail) (by first | simp [hne, hk, del, nAA] <;> rfl | fail) ?_; (try simp [hne, hk, del, nAA]))
  | (refine CallP.fE (hm1) (by first | rfl | fail) (by first | simp [hne, hk, del, nAA] <;> rfl | fail) ?_; (try simp [hne, hk, del, nAA]))
  | (refine CallP.fE (hm2) (by first | rfl | fail) (by first | simp [hne, hk, del, nAA] <;> rfl | fail) ?_; (try simp [hne, hk, del, nAA]))
  | (refine CallP.ok1 (hh1 _ (by first | omega | simp <;> omega | fail)) (by first | (simp [hne, hk, del, nAA, zaa, getK, zab, zac]; done) | fail) (by rfl) (by rfl) ?_; (try simp [hne, hk, del, nAA]))
  | (refine CallP.ok1 (hh2 _ (by first | omega | simp <;> omega | fail)) (by first | (simp [hne, hk, del, nAA, zaa, getK, zab, zac]; done) | fail) (by rfl) (by rfl) ?_; (try simp [hne, hk, del, nAA]))
  | (refine CallP.ok1 (hw1 _ (by first | omega | simp <;> omega | fail)) (by first | (simp [hne, hk, del, nAA, zaa, getK, zab, zac]; done) | fail) (by rfl) (by rfl) ?_; (try simp [hne, hk, del, nAA]))
  | (refine CallP.ok1 (ha _ (by first | omega | simp <;> omega | fail)) (by first | (simp [hne, hk, del, nAA, zaa, getK, zab, zac]; done) | fail) (by rfl) (by rfl) ?_; (try simp [hne, hk, del, nAA]))
  | (refine CallP.ok1 (hw2 _ (by first | omega | simp <;> omega | fail)) (by first | (simp [hne, hk, del, nAA, zaa, getK, zab, zac]; done) | fail) (by rfl) (by rfl) ?_; (try simp [hne, hk, del, nAA]))
  | (refine CallP.zd8 (hb _ (by first | omega | simp <;> omega | fail)) (by first | (simp [hne, hk, del, nAA, zaa, getK, zab, zac]; done) | fail) (by rfl) (by first | assumption | (simp; done) | fail) (by rfl) (by simp) ?_; rintro ob' ⟨q', rfl⟩; refine ⟨_, Wk.refl _, ?_⟩)
  | (refine zar (by first | rfl | fail) ?_; simp [hne, hk, del, nAA, frzN, frz1, zaA, zaz, St.frz, St.frzS, frzS, fv, zaE, zaY, za1, zaD, zas, zal, del, frz, za2])
  | fail)
     (refine hpan _ _ ⟨{ n := _, env := [], obs := [(i, pOb l q')], next := nx }, (Wk.cut rfl (by simp [hn]) (by simp [wkO, zaa, getK, zab, zac, Ob.under, D.under, zad, zae, hi, hne, zab, zac, zaa, getK]) (by simp [wkU, zam, zaa, getK, D.under, hi, hne, zab, zac, zaa, getK]) (by simp [wkE, zam, zaa, getK, hi, hne, zab, zac, zaa, getK])), by simp [hn], ?_⟩; try simp)
     exact PPost.zay (by simp [PR.bind, *])
    | ok v3 q3 =>
     have hb := fun nx' h => zcL (hb nx' h) hr3
     obtain ⟨g3a, g3b⟩ := (zbV hl f).1 _ _ _ _ hr3 g2b
     have hw3 := fun nx' (h : nx ≤ nx') => zeu hl [41] (q := q3) (i := i) (nx := nx') (by omega) g3b
     cases hr4 : zbs l q3 [[41]] with
     | stop pos e =>
      simp only [hr4] at hw3
      (refine RetX.of_bodyW Tryz.func133 rfl (by simp) fun Γ hn hpan => ?_); simp only [entry, ziC, ziN, maC, maN, oA, Tryz.ntmps133]
      repeat' (first
  | ((first | refine zaf ?_ | refine zaj ?_ | fail); simp [hne, hk, del, nAA])
  | (refine ⟨by omega, ?_⟩)
  | ((first | refine zag ?_ | refine zai ?_ | fail); simp [hne, hk, del, nAA])
  | (refine zap ?_; simp only [zao])
  | (refine CallP.fE (hnx) (by first | rfl | fail) (by first | simp [hne, hk, del, nAA] <;> rfl | fail) ?_; (try simp [hne, hk, del, nAA]))
  | (refine CallP.fE (hm1) (by first | rfl | fail) (by first | simp [hne, hk, del, nAA] <;> rfl | fail) ?_; (try simp [hne, hk, del, nAA]))
  | (refine CallP.fE (hm2) (by first | rfl | fail) (by first | simp [hne, hk, del, nAA] <;> rfl | fail) ?_; (try simp [hne, hk, del, nAA]))
  | (refine CallP.ok1 (hh1 _ (by first | omega | simp <;> omega | fail)) (by first | (simp [hne, hk, del, nAA, zaa, getK, zab, zac]; done) | fail) (by rfl) (by rfl) ?_; (try simp [hne, hk, del, nAA]))
  | (refine CallP.ok1 (hh2 _ (by first | omega | simp <;> omega | fail)) (by first | (simp [hne, hk, del, nAA, zaa, getK, zab, zac]; done) | fail) (by rfl) (by rfl) ?_; (try simp [hne, hk, del, nAA]))
  | (refine CallP.ok1 (hw1 _ (by first | omega | simp <;> omega | fail)) (by first | (simp [hne, hk, del, nAA, zaa, getK, zab, zac]; done) | fail) (by rfl) (by rfl) ?_; (try simp [hne, hk, del, nAA]))
  | (refine CallP.ok1 (ha _ (by first | omega | simp <;> omega | fail)) (by first | (simp [hne, hk, del, nAA, zaa, getK, zab, zac]; done) | fail) (by rfl) (by rfl) ?_; (try simp [hne, hk, del, nAA]))
  | (refine CallP.ok1 (hw2 _ (by first | omega | simp <;> omega | fail)) (by first | (simp [hne, hk, del, nAA, zaa, getK, zab, zac]; done) | fail) (by rfl) (by rfl) ?_; (try simp [hne, hk, del, nAA]))
  | (refine CallP.ok1 (hb _ (by first | omega | simp <;> omega | fail)) (by first | (simp [hne, hk, del, nAA, zaa, getK, zab, zac]; done) | fail) (by rfl) (by rfl) ?_; (try simp [hne, hk, del, nAA]))
  | (refine CallP.zd8 (hw3 _ (by first | omega | simp <;> omega | fail)) (by first | (simp [hne, hk, del, nAA, zaa, getK, zab, zac]; done) | fail) (by rfl) (by first | assumption | (simp; done) | fail) (by rfl) (by simp) ?_; rintro ob' ⟨q', rfl⟩; refine ⟨_, Wk.refl _, ?_⟩)
  | (refine zar (by first | rfl | fail) ?_; simp [hne, hk, del, nAA, frzN, frz1, zaA, zaz, St.frz, St.frzS, frzS, fv, zaE, zaY, za1, zaD, zas, zal, del, frz, za2])
  | fail)
      (refine hpan _ _ ⟨{ n := _, env := [], obs := [(i, pOb l q')], next := nx }, (Wk.cut rfl (by simp [hn]) (by simp [wkO, zaa, getK, zab, zac, Ob.under, D.under, zad, zae, hi, hne, zab, zac, zaa, getK]) (by simp [wkU, zam, zaa, getK, D.under, hi, hne, zab, zac, zaa, getK]) (by simp [wkE, zam, zaa, getK, hi, hne, zab, zac, zaa, getK])), by simp [hn], ?_⟩; try simp)
      exact PPost.zay (by simp [PR.bind, *])
     | ok v4 q4 =>
      simp only [hr4] at hw3
      obtain ⟨g4a, g4b⟩ := zaS hl _ hr4 g3b
      (refine RetX.of_bodyW Tryz.func133 rfl (by simp) fun Γ hn hpan => ?_); simp only [entry, ziC, ziN, maC, maN, oA, Tryz.ntmps133]
      repeat' (first
  | ((first | refine zaf ?_ | refine zaj ?_ | fail); simp [hne, hk, del, nAA])
  | (refine ⟨by omega, ?_⟩)
  | ((first | refine zag ?_ | refine zai ?_ | fail); simp [hne, hk, del, nAA])
  | ((first | refine zaq ?_ | refine zap ?_ | fail); simp only [zao])
  | (refine CallP.fE (hnx) (by first | rfl | fail) (by first | simp [hne, hk, del, nAA] <;> rfl | fail) ?_; (try simp [hne, hk, del, nAA]))
  | (refine CallP.fE (hm1) (by first | rfl | fail) (by first | simp [hne, hk, del, nAA] <;> rfl | fail) ?_; (try simp [hne, hk, del, nAA]))
  | (refine CallP.fE (hm2) (by first | rfl | fail) (by first | simp [hne, hk, del, nAA] <;> rfl | fail) ?_; (try simp [hne, hk, del, nAA]))
  | (refine CallP.ok1 (hh1 _ (by first | omega | simp <;> omega | fail)) (by first | (simp [hne, hk, del, nAA, zaa, getK, zab, zac]; done) | fail) (by rfl) (by rfl) ?_; (try simp [hne, hk, del, nAA]))
  | (refine CallP.ok1 (hh2 _ (by first | omega | simp <;> omega | fail)) (by first | (simp [hne, hk, del, nAA, zaa, getK, zab, zac]; done) | fail) (by rfl) (by rfl) ?_; (try simp [hne, hk, del, nAA]))
  | (refine CallP.ok1 (hw1 _ (by first | omega | simp <;> omega | fail)) (by first | (simp [hne, hk, del, nAA, zaa, getK, zab, zac]; done) | fail) (by rfl) (by rfl) ?_; (try simp [hne, hk, del, nAA]))
  | (refine CallP.ok1 (ha _ (by first | omega | simp <;> omega | fail)) (by first | (simp [hne, hk, del, nAA, zaa, getK, zab, zac]; done) | fail) (by rfl) (by rfl) ?_; (try simp [hne, hk, del, nAA]))
  | (refine CallP.ok1 (hw2 _ (by first | omega | simp <;> omega | fail)) (by first | (simp [hne, hk, del, nAA, zaa, getK, zab, zac]; done) | fail) (by rfl) (by rfl) ?_; (try simp [hne, hk, del, nAA]))
  | (refine CallP.ok1 (hb _ (by first | omega | simp <;> omega | fail)) (by first | (simp [hne, hk, del, nAA, zaa, getK, zab, zac]; done) | fail) (by rfl) (by rfl) ?_; (try simp [hne, hk, del, nAA]))
  | (refine CallP.ok1 (hw3 _ (by first | omega | simp <;> omega | fail)) (by first | (simp [hne, hk, del, nAA, zaa, getK, zab, zac]; done) | fail) (by rfl) (by rfl) ?_; (try simp [hne, hk, del, nAA]))
  | (refine zar (by first | rfl | fail) ?_; simp [hne, hk, del, nAA, frzN, frz1, zaA, zaz, St.frz, St.frzS, frzS, fv, zaE, zaY, za1, zaD, zas, zal, del, frz, za2])
  | fail)
      (refine EndW.frzN 1 ?_; simp [frzN, frz1, zaA, zaz, St.frz, St.frzS, frzS, fv, zaE, zaY, za1, zaD, zas, zal, del, frz, za2, hne, nAA])
      refine EndW.norm ?_
      simp [St.norm, zbh, zbZ, zcj, zck, hne, nAA]
      (refine EndW.here ?_; (first | (refine EndOK.fin (.inr rfl) ?_) | (refine EndOK.fin (.inl rfl) ?_)); simp [zaJ, zah, Tryz.results133, hne, hi]; refine FinOK.cut [(i, pOb l q4)] (nx) (by simp [zaa, getK, zab, zac, Ob.under, D.under, zad, zae, hne, hi] <;> omega) (by simp [D.under]) (by simp [hn]) ?_; try simp)
      exact PPost.zcf (by simp [PR.bind, *]; rfl) (by simp [Exp.row_eq, Exp.op, Exp.n, Exp.unit, Exp.s, Exp.args]) rfl
theorem zjg {l : List Tok} (hl : TokOK l) {f p : Nat} {t : Tok} (ht : l[p]? = some t) (hk : ¬ t.kind = 2) (h1 : isB l p [116, 114, 117, 101] = false) (h2 : isB l p [102, 97, 108, 115, 101] = false)
  (h3 : isB l p [109, 105, 110] = false) (h4 : isB l p [109, 97, 120] = false) (h5 : isB l p [40] = false) {i nx : Nat} (hi : i < nx) :
  RetX Tryz.prog 133 [.ptr i 0] [(i, pOb l p)] nx (PPost l i nx zex (zaU l (f + 1) p)) := by
 have hne := zaB hi
 have hp := (lGE.1 ht).1
 have hnx := zbM l p t ht hl.len
 have hll := hl.len
 rw [zaU, ht]
 have hh1 := fun nx' (h : nx ≤ nx') => zbc l p [116, 114, 117, 101] i nx' (by omega) hp hl.len
 have hh2 := fun nx' (h : nx ≤ nx') => zbc l p [102, 97, 108, 115, 101] i nx' (by omega) hp hl.len
 have hm1 := zdH l p [109, 105, 110] hp hl.len
 have hm2 := zdH l p [109, 97, 120] hp hl.len
 have hh3 := fun nx' (h : nx ≤ nx') => zbc l p [40] i nx' (by omega) hp hl.len
 have hnm := zeT t.text
 have hc1 := fun nx' (h : nx ≤ nx') => zdM l p 12 i nx' (by omega)
 have hc2 := fun nx' (h : nx ≤ nx') => zcG l p t 12 i nx' (by omega) ht hl.len
 simp only [hk, h1, h2, h3, h4, h5, if_false, if_true, Bool.false_eq_true, or_self] at hh1 hh2 hm1 hm2 hh3 ⊢
 by_cases hw : t.kind = 1
 ·cases hb : zcy t.text with
  | true =>
   simp only [hb, hw, and_self, if_true] at hnm ⊢
   (refine RetX.of_bodyW Tryz.func133 rfl (by simp) fun Γ hn hpan => ?_); simp only [entry, ziC, ziN, maC, maN, oA, Tryz.ntmps133]
   repeat' (first
  | ((first | refine zaf ?_ | refine zaj ?_ | fail); simp [hne, hk, hw, del, nAA])
  | (refine ⟨by omega, ?_⟩)
  | ((first | refine zag ?_ | refine zai ?_ | fail); simp [hne, hk, hw, del, nAA])
  | ((first | refine zaq ?_ | refine zap ?_ | fail); simp only [zao])
  | (refine CallP.fE (hnx) (by first | rfl | fail) (by first | simp [hne, hk, hw, del, nAA] <;> rfl | fail) ?_; (try simp [hne, hk, hw, del, nAA]))
  | (refine CallP.fE (hm1) (by first | rfl | fail) (by first | simp [hne, hk, hw, del, nAA] <;> rfl | fail) ?_; (try simp [hne, hk, hw, del, nAA]))
  | (refine CallP.fE (hm2) (by first | rfl | fail) (by first | simp [hne, hk, hw, del, nAA] <;> rfl | fail) ?_; (try simp [hne, hk, hw, del, nAA]))
  | (refine CallP.fE (hnm) (by first | rfl | fail) (by first | simp [hne, hk, hw, del, nAA] <;> rfl | fail) ?_; (try simp [hne, hk, hw, del, nAA]))
  | (refine CallP.ok1 (hh1 _ (by first | omega | simp <;> omega | fail)) (by first | (simp [hne, hk, hw, del, nAA, zaa, getK, zab, zac]; done) | fail) (by rfl) (by rfl) ?_; (try simp [hne, hk, hw, del, nAA]))
  | (refine CallP.ok1 (hh2 _ (by first | omega | simp <;> omega | fail)) (by first | (simp [hne, hk, hw, del, nAA, zaa, getK, zab, zac]; done) | fail) (by rfl) (by rfl) ?_; (try simp [hne, hk, hw, del, nAA]))
  | (refine CallP.ok1 (hh3 _ (by first | omega | simp <;> omega | fail)) (by first | (simp [hne, hk, hw, del, nAA, zaa, getK, zab, zac]; done) | fail) (by rfl) (by rfl) ?_; (try simp [hne, hk, hw, del, nAA]))
  | (refine CallP.ok1 (hc1 _ (by first | omega | simp <;> omega | fail)) (by first | (simp [hne, hk, hw, del, nAA, zaa, getK, zab, zac]; done) | fail) (by rfl) (by rfl) ?_; (try simp [hne, hk, hw, del, nAA]))
  | fail)
   refine EndW.norm ?_
   simp [St.norm, zbh, zbZ, zcj, zck, hne]
   (refine EndW.here ?_; (first | (refine EndOK.fin (.inr rfl) ?_) | (refine EndOK.fin (.inl rfl) ?_)); simp [zaJ, zah, Tryz.results133, hne, hi]; refine FinOK.cut [(i, pOb l (p + 1))] (nx) (by simp [zaa, getK, zab, zac, Ob.under, D.under, zad, zae, hne, hi] <;> omega) (by simp [D.under]) (by simp [hn]) ?_; try simp)
   exact PPost.zcf rfl (by simp [Exp.row]) rfl
  | false =>
   simp only [hb, hw, Bool.false_eq_true, and_false, if_false] at hnm ⊢
   (refine RetX.of_bodyW Tryz.func133 rfl (by simp) fun Γ hn hpan => ?_); simp only [entry, ziC, ziN, maC, maN, oA, Tryz.ntmps133]
   repeat' (first
  | ((first | refine zaf ?_ | refine zaj ?_ | refine zag ?_ | refine zai ?_ | fail); simp [hne, hk, hw, del, nAA])
  | (refine zap ?_; simp only [zao])
  | (refine CallP.fE (hnx) (by first | rfl | fail) (by first | simp [hne, hk, hw, del, nAA] <;> rfl | fail) ?_; (try simp [hne, hk, hw, del, nAA]))
  | (refine CallP.fE (hm1) (by first | rfl | fail) (by first | simp [hne, hk, hw, del, nAA] <;> rfl | fail) ?_; (try simp [hne, hk, hw, del, nAA]))
  | (refine CallP.fE (hm2) (by first | rfl | fail) (by first | simp [hne, hk, hw, del, nAA] <;> rfl | fail) ?_; (try simp [hne, hk, hw, del, nAA]))
  | (refine CallP.fE (hnm) (by first | rfl | fail) (by first | simp [hne, hk, hw, del, nAA] <;> rfl | fail) ?_; (try simp [hne, hk, hw, del, nAA]))
  | (refine CallP.ok1 (hh1 _ (by first | omega | simp <;> omega | fail)) (by first | (simp [hne, hk, hw, del, nAA, zaa, getK, zab, zac]; done) | fail) (by rfl) (by rfl) ?_; (try simp [hne, hk, hw, del, nAA]))
  | (refine CallP.ok1 (hh2 _ (by first | omega | simp <;> omega | fail)) (by first | (simp [hne, hk, hw, del, nAA, zaa, getK, zab, zac]; done) | fail) (by rfl) (by rfl) ?_; (try simp [hne, hk, hw, del, nAA]))
  | (refine CallP.ok1 (hh3 _ (by first | omega | simp <;> omega | fail)) (by first | (simp [hne, hk, hw, del, nAA, zaa, getK, zab, zac]; done) | fail) (by rfl) (by rfl) ?_; (try simp [hne, hk, hw, del, nAA]))
  | (refine CallP.zd8 (hc2 _ (by first | omega | simp <;> omega | fail)) (by first | (simp [hne, hk, hw, del, nAA, zaa, getK, zab, zac]; done) | fail) (by rfl) (by first | assumption | (simp; done) | fail) (by rfl) (by simp) ?_; rintro ob' ⟨q', rfl⟩; refine ⟨_, Wk.refl _, ?_⟩)
  | fail)
   (refine hpan _ _ ⟨{ n := _, env := [], obs := [(i, pOb l q')], next := nx }, (Wk.cut rfl (by simp [hn]) (by simp [wkO, zaa, getK, zab, zac, Ob.under, D.under, zad, zae, hi, hne, zab, zac, zaa, getK]) (by simp [wkU, zam, zaa, getK, D.under, hi, hne, zab, zac, zaa, getK]) (by simp [wkE, zam, zaa, getK, hi, hne, zab, zac, zaa, getK])), by simp [hn], ?_⟩; try simp)
   exact PPost.zay rfl
 ·simp only [hw, false_and, if_false]
  (refine RetX.of_bodyW Tryz.func133 rfl (by simp) fun Γ hn hpan => ?_); simp only [entry, ziC, ziN, maC, maN, oA, Tryz.ntmps133]
  repeat' (first
  | ((first | refine zaf ?_ | refine zaj ?_ | refine zag ?_ | refine zai ?_ | fail); simp [hne, hk, hw, del, nAA])
  | (refine zap ?_; simp only [zao])
  | (refine CallP.fE (hnx) (by first | rfl | fail) (by first | simp [hne, hk, hw, del, nAA] <;> rfl | fail) ?_; (try simp [hne, hk, hw, del, nAA]))
  | (refine CallP.fE (hm1) (by first | rfl | fail) (by first | simp [hne, hk, hw, del, nAA] <;> rfl | fail) ?_; (try simp [hne, hk, hw, del, nAA]))
  | (refine CallP.fE (hm2) (by first | rfl | fail) (by first | simp [hne, hk, hw, del, nAA] <;> rfl | fail) ?_; (try simp [hne, hk, hw, del, nAA]))
  | (refine CallP.ok1 (hh1 _ (by first | omega | simp <;> omega | fail)) (by first | (simp [hne, hk, hw, del, nAA, zaa, getK, zab, zac]; done) | fail) (by rfl) (by rfl) ?_; (try simp [hne, hk, hw, del, nAA]))
  | (refine CallP.ok1 (hh2 _ (by first | omega | simp <;> omega | fail)) (by first | (simp [hne, hk, hw, del, nAA, zaa, getK, zab, zac]; done) | fail) (by rfl) (by rfl) ?_; (try simp [hne, hk, hw, del, nAA]))
  | (refine CallP.ok1 (hh3 _ (by first | omega | simp <;> omega | fail)) (by first | (simp [hne, hk, hw, del, nAA, zaa, getK, zab, zac]; done) | fail) (by rfl) (by rfl) ?_; (try simp [hne, hk, hw, del, nAA]))
  | (refine CallP.zd8 (hc2 _ (by first | omega | simp <;> omega | fail)) (by first | (simp [hne, hk, hw, del, nAA, zaa, getK, zab, zac]; done) | fail) (by rfl) (by first | assumption | (simp; done) | fail) (by rfl) (by simp) ?_; rintro ob' ⟨q', rfl⟩; refine ⟨_, Wk.refl _, ?_⟩)
  | fail)
  (refine hpan _ _ ⟨{ n := _, env := [], obs := [(i, pOb l q')], next := nx }, (Wk.cut rfl (by simp [hn]) (by simp [wkO, zaa, getK, zab, zac, Ob.under, D.under, zad, zae, hi, hne, zab, zac, zaa, getK]) (by simp [wkU, zam, zaa, getK, D.under, hi, hne, zab, zac, zaa, getK]) (by simp [wkE, zam, zaa, getK, hi, hne, zab, zac, zaa, getK])), by simp [hn], ?_⟩; try simp)
  exact PPost.zay rfl
theorem zlk {l : List Tok} {p : Nat} {w : List UInt8} {t : Tok} (ht : l[p]? = some t) (h : isB l p w = true) : t.text = w := by
 unfold isB at h
 rw [ht] at h
 simp only [Bool.and_eq_true, decide_eq_true_eq] at h
 exact h.2
theorem zjf {l : List Tok} (hl : TokOK l) {f : Nat} (hE : zhc l f) : zhS l (f + 1) := by
 intro p i nx hi hp hf
 obtain ⟨t, ht⟩ : ∃ t, l[p]? = some t := ⟨_, List.getElem?_eq_getElem hp⟩
 by_cases hk : t.kind = 2
 ·exact zkm hl ht hk hi
 cases h1 : isB l p [116, 114, 117, 101] with
 | true => exact zje hl ht hk h1 hi
 | false =>
 cases h2 : isB l p [102, 97, 108, 115, 101] with
 | true => exact zh7 hl ht hk h1 h2 hi
 | false =>
 cases h3 : isB l p [109, 105, 110] with
 | true =>
  cases h4 : isB l p [109, 97, 120] with
  | true => exact absurd ((zlk ht h3).symm.trans (zlk ht h4)) (by decide)
  | false => exact zkn hl hE (by omega) ht hk h1 h2 h3 h4 hi
 | false =>
 cases h4 : isB l p [109, 97, 120] with
 | true => exact zko hl hE (by omega) ht hk h1 h2 h3 h4 hi
 | false =>
 cases h5 : isB l p [40] with
 | true => exact zh6 hl hE (by omega) ht hk h1 h2 h3 h4 h5 hi
 | false => exact zjg hl ht hk h1 h2 h3 h4 h5 hi
theorem zmZ {l : List Tok} (hl : TokOK l) {f p : Nat} {form : Int} (hE : zhc l f) (hp : p < l.length) (hf : 4 * (l.length - p) + 1 ≤ f)
  (hf0 : form = 0) (h1 : isB l p [105, 102] = true) {i nx : Nat} (hi : i < nx) :
  RetX Tryz.prog 95 [.ptr i 0, zio form] [(i, pOb l p)] nx (PPost l i nx zjp (zbo l (f + 1) p form)) := by
 have hne := zaB hi
 have hll := hl.len
 rw [zbo]
 have hp2 := zba hl h1
 subst hf0
 have hf0 : (0 : Int) = 0 := rfl
 have hf3 : (0 : Int) ≤ 3 := by omega
 have hh1 := fun nx' (h : nx ≤ nx') => zbc l p [105, 102] i nx' (by omega) hp hl.len
 simp only [h1, if_true] at hh1
 rw [if_pos ⟨rfl, h1⟩]
 have ha := fun nx' (h : nx ≤ nx') => hE (p + 1) 0 i nx' (by omega) hp2 (by omega) (by omega) (by omega)
 cases hr0 : zdI l f (p + 1) 0 with
 | stop pos e =>
  simp only [hr0] at ha
  (refine RetX.of_bodyW Tryz.func95 rfl (by simp) fun Γ hn hpan => ?_); simp only [entry, ziC, ziN, maC, maN, oA, Tryz.ntmps95]
  repeat' (first
  | ((first | refine zaf ?_ | refine zaj ?_ | refine zag ?_ | refine zai ?_ | fail); simp [hne, hf0, hf3, del, nAA])
  | (refine CallP.ok1 (hh1 _ (by first | omega | simp <;> omega | fail)) (by first | (simp [hne, hf0, hf3, del, nAA, zaa, getK, zab, zac]; done) | fail) (by rfl) (by rfl) ?_; (try simp [hne, hf0, hf3, del, nAA]))
  | (refine CallP.zd8 (ha _ (by first | omega | simp <;> omega | fail)) (by first | (simp [hne, hf0, hf3, del, nAA, zaa, getK, zab, zac]; done) | fail) (by rfl) (by first | assumption | (simp; done) | fail) (by rfl) (by simp) ?_; rintro ob' ⟨q', rfl⟩; refine ⟨_, Wk.refl _, ?_⟩)
  | fail)
  (refine hpan _ _ ⟨{ n := _, env := [], obs := [(i, pOb l q')], next := nx }, (Wk.cut rfl (by simp [hn]) (by simp [wkO, zaa, getK, zab, zac, Ob.under, D.under, zad, zae, hi, hne, zab, zac, zaa, getK]) (by simp [wkU, zam, zaa, getK, D.under, hi, hne, zab, zac, zaa, getK]) (by simp [wkE, zam, zaa, getK, hi, hne, zab, zac, zaa, getK])), by simp [hn], ?_⟩; try simp)
  exact PPost.zay (by simp [PR.bind, *])
 | ok v0 q0 =>
  have ha := fun nx' h => zcL (ha nx' h) hr0
  obtain ⟨g0a, g0b⟩ := (zbV hl f).1 _ _ _ _ hr0 hp2
  have hw1 := fun nx' (h : nx ≤ nx') => zeu hl [116, 104, 101, 110] (q := q0) (i := i) (nx := nx') (by omega) g0b
  cases hr1 : zbs l q0 [[116, 104, 101, 110]] with
  | stop pos e =>
   simp only [hr1] at hw1
   (refine RetX.of_bodyW Tryz.func95 rfl (by simp) fun Γ hn hpan => ?_); simp only [entry, ziC, ziN, maC, maN, oA, Tryz.ntmps95]
   repeat' (first
  | ((first | refine zaf ?_ | refine zaj ?_ | refine zag ?_ | refine zai ?_ | fail); simp [hne, hf0, hf3, del, nAA])
  | (refine CallP.ok1 (hh1 _ (by first | omega | simp <;> omega | fail)) (by first | (simp [hne, hf0, hf3, del, nAA, zaa, getK, zab, zac]; done) | fail) (by rfl) (by rfl) ?_; (try simp [hne, hf0, hf3, del, nAA]))
  | (refine CallP.ok1 (ha _ (by first | omega | simp <;> omega | fail)) (by first | (simp [hne, hf0, hf3, del, nAA, zaa, getK, zab, zac]; done) | fail) (by rfl) (by rfl) ?_; (try simp [hne, hf0, hf3, del, nAA]))
  | (refine CallP.zd8 (hw1 _ (by first | omega | simp <;> omega | fail)) (by first | (simp [hne, hf0, hf3, del, nAA, zaa, getK, zab, zac]; done) | fail) (by rfl) (by first | assumption | (simp; done) | fail) (by rfl) (by simp) ?_; rintro ob' ⟨q', rfl⟩; refine ⟨_, Wk.refl _, ?_⟩)
  | (refine zar (by first | rfl | fail) ?_; simp [hne, hf0, hf3, del, nAA, frzN, frz1, zaA, zaz, St.frz, St.frzS, frzS, fv, zaE, zaY, za1, zaD, zas, zal, del, frz, za2])
  | fail)
   (refine hpan _ _ ⟨{ n := _, env := [], obs := [(i, pOb l q')], next := nx }, (Wk.cut rfl (by simp [hn]) (by simp [wkO, zaa, getK, zab, zac, Ob.under, D.under, zad, zae, hi, hne, zab, zac, zaa, getK]) (by simp [wkU, zam, zaa, getK, D.under, hi, hne, zab, zac, zaa, getK]) (by simp [wkE, zam, zaa, getK, hi, hne, zab, zac, zaa, getK])), by simp [hn], ?_⟩; try simp)
   exact PPost.zay (by simp [PR.bind, *])
  | ok v1 q1 =>
   simp only [hr1] at hw1
   obtain ⟨g1a, g1b⟩ := zaS hl _ hr1 g0b
   have hb := fun nx' (h : nx ≤ nx') => hE q1 0 i nx' (by omega) g1b (by omega) (by omega) (by omega)
   cases hr2 : zdI l f q1 0 with
   | stop pos e =>
    simp only [hr2] at hb
    (refine RetX.of_bodyW Tryz.func95 rfl (by simp) fun Γ hn hpan => ?_); simp only [entry, ziC, ziN, maC, maN, oA, Tryz.ntmps95]
    repeat' (first
  | ((first | refine zaf ?_ | refine zaj ?_ | refine zag ?_ | refine zai ?_ | fail); simp [hne, hf0, hf3, del, nAA])
  | (refine CallP.ok1 (hh1 _ (by first | omega | simp <;> omega | fail)) (by first | (simp [hne, hf0, hf3, del, nAA, zaa, getK, zab, zac]; done) | fail) (by rfl) (by rfl) ?_; (try simp [hne, hf0, hf3, del, nAA]))
  | (refine CallP.ok1 (ha _ (by first | omega | simp <;> omega | fail)) (by first | (simp [hne, hf0, hf3, del, nAA, zaa, getK, zab, zac]; done) | fail) (by rfl) (by rfl) ?_; (try simp [hne, hf0, hf3, del, nAA]))
  | (refine CallP.ok1 (hw1 _ (by first | omega | simp <;> omega | fail)) (by first | (simp [hne, hf0, hf3, del, nAA, zaa, getK, zab, zac]; done) | fail) (by rfl) (by rfl) ?_; (try simp [hne, hf0, hf3, del, nAA]))
  | (refine CallP.zd8 (hb _ (by first | omega | simp <;> omega | fail)) (by first | (simp [hne, hf0, hf3, del, nAA, zaa, getK, zab, zac]; done) | fail) (by rfl) (by first | assumption | (simp; done) | fail) (by rfl) (by simp) ?_; rintro ob' ⟨q', rfl⟩; refine ⟨_, Wk.refl _, ?_⟩)
  | (refine zar (by first | rfl | fail) ?_; simp [hne, hf0, hf3, del, nAA, frzN, frz1, zaA, zaz, St.frz, St.frzS, frzS, fv, zaE, zaY, za1, zaD, zas, zal, del, frz, za2])
  | fail)
    (refine hpan _ _ ⟨{ n := _, env := [], obs := [(i, pOb l q')], next := nx }, (Wk.cut rfl (by simp [hn]) (by simp [wkO, zaa, getK, zab, zac, Ob.under, D.under, zad, zae, hi, hne, zab, zac, zaa, getK]) (by simp [wkU, zam, zaa, getK, D.under, hi, hne, zab, zac, zaa, getK]) (by simp [wkE, zam, zaa, getK, hi, hne, zab, zac, zaa, getK])), by simp [hn], ?_⟩; try simp)
    exact PPost.zay (by simp [PR.bind, *])
   | ok v2 q2 =>
    have hb := fun nx' h => zcL (hb nx' h) hr2
    obtain ⟨g2a, g2b⟩ := (zbV hl f).1 _ _ _ _ hr2 g1b
    have hw2 := fun nx' (h : nx ≤ nx') => zeu hl [101, 108, 115, 101] (q := q2) (i := i) (nx := nx') (by omega) g2b
    cases hr3 : zbs l q2 [[101, 108, 115, 101]] with
    | stop pos e =>
     simp only [hr3] at hw2
     (refine RetX.of_bodyW Tryz.func95 rfl (by simp) fun Γ hn hpan => ?_); simp only [entry, ziC, ziN, maC, maN, oA, Tryz.ntmps95]
     repeat' (first
  | ((first | refine zaf ?_ | refine zaj ?_ | refine zag ?_ | refine zai ?_ | fail); simp [hne, hf0, hf3, del, nAA])
  | (refine CallP.ok1 (hh1 _ (by first | omega | simp <;> omega | fail)) (by first | (simp [hne, hf0, hf3, del, nAA, zaa, getK, zab, zac]; done) | fail) (by rfl) (by rfl) ?_; (try simp [hne, hf0, hf3, del, nAA]))
  | (refine CallP.ok1 (ha _ (by first | omega | simp <;> omega | fail)) (by first | (simp [hne, hf0, hf3, del, nAA, zaa, getK, zab, zac]; done) | fail) (by rfl) (by rfl) ?_; (try simp [hne, hf0, hf3, del, nAA]))
  | (refine CallP.ok1 (hw1 _ (by first | omega | simp <;> omega | fail)) (by first | (simp [hne, hf0, hf3, del, nAA, zaa, getK, zab, zac]; done) | fail) (by rfl) (by rfl) ?_; (try simp [hne, hf0, hf3, del, nAA]))
  | (refine CallP.ok1 (hb _ (by first | omega | simp <;> omega | fail)) (by first | (simp [hne, hf0, hf3, del, nAA, zaa, getK, zab, zac]; done) | fail) (by rfl) (by rfl) ?_; (try simp [hne, hf0, hf3, del, nAA]))
  | (refine CallP.zd8 (hw2 _ (by first | omega | simp <;> omega | fail)) (by first | (simp [hne, hf0, hf3, del, nAA, zaa, getK, zab, zac]; done) | fail) (by rfl) (by first | assumption | (simp; done) | fail) (by rfl) (by simp) ?_; rintro ob' ⟨q', rfl⟩; refine ⟨_, Wk.refl _, ?_⟩)
  | (refine zar (by first | rfl | fail) ?_; simp [hne, hf0, hf3, del, nAA, frzN, frz1, zaA, zaz, St.frz, St.frzS, frzS, fv, zaE, zaY, za1, zaD, zas, zal, del, frz, za2])
  | fail)
     (refine hpan _ _ ⟨{ n := _, env := [], obs := [(i, pOb l q')], next := nx }, (Wk.cut rfl (by simp [hn]) (by simp [wkO, zaa, getK, zab, zac, Ob.under, D.under, zad, zae, hi, hne, zab, zac, zaa, getK]) (by simp [wkU, zam, zaa, getK, D.under, hi, hne, zab, zac, zaa, getK]) (by simp [wkE, zam, zaa, getK, hi, hne, zab, zac, zaa, getK])), by simp [hn], ?_⟩; try simp)
     exact PPost.zay (by simp [PR.bind, *])
    | ok v3 q3 =>
     simp only [hr3] at hw2
     obtain ⟨g3a, g3b⟩ := zaS hl _ hr3 g2b
     have hc := fun nx' (h : nx ≤ nx') => hE q3 0 i nx' (by omega) g3b (by omega) (by omega) (by omega)
     cases hr4 : zdI l f q3 0 with
     | stop pos e =>
      simp only [hr4] at hc
      (refine RetX.of_bodyW Tryz.func95 rfl (by simp) fun Γ hn hpan => ?_); simp only [entry, ziC, ziN, maC, maN, oA, Tryz.ntmps95]
      repeat' (first
  | (refine zfB (fun nx' h' => hc nx' (by simp at h'; omega)) (by first | (simp [hne, hf0, hf3, del, nAA, zaa, getK, zab, zac, zak, zaK]; done) | fail) (by rfl) (by first | assumption | simp) (by rfl) (by simp) ?_ ?_; rintro env' ob' n' hn' ⟨q', rfl⟩; refine ⟨_, Wk.refl _, ?_⟩)
  | (refine zeQ rfl (by simp) ?_; simp)
  | ((first | refine zaf ?_ | refine zaO rfl ?_ | refine zaj ?_ | refine zag ?_ | refine zai ?_ | fail); simp [hne, hf0, hf3, del, nAA])
  | (refine zfC (hC _ (zcc [i] nx (by simp <;> omega) (by simp <;> omega) (by apply Exists.intro; apply And.intro; (focus (repeat' (first | exact KF.nil | exact KL.nil | apply KF.cons | apply KL.cons 0 rfl | apply KL.cons 1 rfl | apply KL.cons 2 rfl | apply KL.cons 3 rfl | apply KL.cons 4 rfl | apply KL.cons 5 rfl | apply KL.cons 6 rfl | apply KL.cons 7 rfl | apply KL.cons 8 rfl | apply KL.cons 9 rfl))); kernel_rfl))) rfl; done)
  | (refine za0 rfl (by kernel_rfl) (by first | (simp [hn]; done) | (simp [hn]; omega) | fail) fun C k hC hk => ?_; simp [hne, hf0, hf3, del, nAA])
  | (refine CallP.ok1 (hh1 _ (by first | omega | simp <;> omega | fail)) (by first | (simp [hne, hf0, hf3, del, nAA, zaa, getK, zab, zac]; done) | fail) (by rfl) (by rfl) ?_; (try simp [hne, hf0, hf3, del, nAA]))
  | (refine CallP.ok1 (ha _ (by first | omega | simp <;> omega | fail)) (by first | (simp [hne, hf0, hf3, del, nAA, zaa, getK, zab, zac]; done) | fail) (by rfl) (by rfl) ?_; (try simp [hne, hf0, hf3, del, nAA]))
  | (refine CallP.ok1 (hw1 _ (by first | omega | simp <;> omega | fail)) (by first | (simp [hne, hf0, hf3, del, nAA, zaa, getK, zab, zac]; done) | fail) (by rfl) (by rfl) ?_; (try simp [hne, hf0, hf3, del, nAA]))
  | (refine CallP.ok1 (hb _ (by first | omega | simp <;> omega | fail)) (by first | (simp [hne, hf0, hf3, del, nAA, zaa, getK, zab, zac]; done) | fail) (by rfl) (by rfl) ?_; (try simp [hne, hf0, hf3, del, nAA]))
  | (refine CallP.ok1 (hw2 _ (by first | omega | simp <;> omega | fail)) (by first | (simp [hne, hf0, hf3, del, nAA, zaa, getK, zab, zac]; done) | fail) (by rfl) (by rfl) ?_; (try simp [hne, hf0, hf3, del, nAA]))
  | (refine zar (by first | rfl | fail) ?_; simp [hne, hf0, hf3, del, nAA, frzN, frz1, zaA, zaz, St.frz, St.frzS, frzS, fv, zaE, zaY, za1, zaD, zas, zal, del, frz, za2])
  | fail)
      (refine hpan _ _ ⟨{ n := _, env := [], obs := [(i, pOb l q')], next := nx }, (Wk.cut rfl (by simp [hn]) (by simp [wkO, zaa, getK, zab, zac, Ob.under, D.under, zad, zae, hi, hne, zab, zac, zaa, getK]) (by simp [wkU, zam, zaa, getK, D.under, hi, hne, zab, zac, zaa, getK]) (by simp [wkE, zam, zaa, getK, hi, hne, zab, zac, zaa, getK])), by simp [hn], ?_⟩; try simp)
      exact PPost.zay (by simp [PR.bind, *])
     | ok v4 q4 =>
      have hc := fun nx' h => zcL (hc nx' h) hr4
      obtain ⟨g4a, g4b⟩ := (zbV hl f).1 _ _ _ _ hr4 g3b
      (refine RetX.of_bodyW Tryz.func95 rfl (by simp) fun Γ hn hpan => ?_); simp only [entry, ziC, ziN, maC, maN, oA, Tryz.ntmps95]
      repeat' (first
  | (refine zhb (fun nx' h' => hc nx' (by simp at h'; omega)) (by first | (simp [hne, hf0, hf3, del, nAA, zaa, getK, zab, zac, zak, zaK]; done) | fail) (by rfl) (by first | assumption | simp) (by rfl) (by simp [D.under, Ob.under]) (by simp) ?_; (try simp [hne, hf0, hf3, del, nAA]))
  | ((first | refine zaf ?_ | refine zaO rfl ?_ | refine za3 rfl ?_ | refine zaj ?_ | refine zag ?_ | refine zai ?_ | fail); simp [hne, hf0, hf3, del, nAA])
  | (refine zaX (hC _ (zcc [i] nx (by simp <;> omega) (by simp <;> omega) (by apply Exists.intro; apply And.intro; (focus (repeat' (first | exact KF.nil | exact KL.nil | apply KF.cons | apply KL.cons 0 rfl | apply KL.cons 1 rfl | apply KL.cons 2 rfl | apply KL.cons 3 rfl | apply KL.cons 4 rfl | apply KL.cons 5 rfl | apply KL.cons 6 rfl | apply KL.cons 7 rfl | apply KL.cons 8 rfl | apply KL.cons 9 rfl))); kernel_rfl))) (hk _ ?_); clear hC hk C k; simp only [zao])
  | (refine za0 rfl (by kernel_rfl) (by first | (simp [hn]; done) | (simp [hn]; omega) | fail) fun C k hC hk => ?_; simp [hne, hf0, hf3, del, nAA])
  | (refine zaq ?_; simp only [zao])
  | (refine CallP.ok1 (hh1 _ (by first | omega | simp <;> omega | fail)) (by first | (simp [hne, hf0, hf3, del, nAA, zaa, getK, zab, zac]; done) | fail) (by rfl) (by rfl) ?_; (try simp [hne, hf0, hf3, del, nAA]))
  | (refine CallP.ok1 (ha _ (by first | omega | simp <;> omega | fail)) (by first | (simp [hne, hf0, hf3, del, nAA, zaa, getK, zab, zac]; done) | fail) (by rfl) (by rfl) ?_; (try simp [hne, hf0, hf3, del, nAA]))
  | (refine CallP.ok1 (hw1 _ (by first | omega | simp <;> omega | fail)) (by first | (simp [hne, hf0, hf3, del, nAA, zaa, getK, zab, zac]; done) | fail) (by rfl) (by rfl) ?_; (try simp [hne, hf0, hf3, del, nAA]))
  | (refine CallP.ok1 (hb _ (by first | omega | simp <;> omega | fail)) (by first | (simp [hne, hf0, hf3, del, nAA, zaa, getK, zab, zac]; done) | fail) (by rfl) (by rfl) ?_; (try simp [hne, hf0, hf3, del, nAA]))
  | (refine CallP.ok1 (hw2 _ (by first | omega | simp <;> omega | fail)) (by first | (simp [hne, hf0, hf3, del, nAA, zaa, getK, zab, zac]; done) | fail) (by rfl) (by rfl) ?_; (try simp [hne, hf0, hf3, del, nAA]))
  | (refine zar (by first | rfl | fail) ?_; simp [hne, hf0, hf3, del, nAA, frzN, frz1, zaA, zaz, St.frz, St.frzS, frzS, fv, zaE, zaY, za1, zaD, zas, zal, del, frz, za2])
  | fail)
      (refine EndW.frzN 1 ?_; simp [frzN, frz1, zaA, zaz, St.frz, St.frzS, frzS, fv, zaE, zaY, za1, zaD, zas, zal, del, frz, za2, hne, nAA])
      refine EndW.norm ?_
      simp [St.norm, zbh, zbZ, zcj, zck, hne, nAA]
      (refine EndW.here ?_; (first | (refine EndOK.fin (.inr rfl) ?_) | (refine EndOK.fin (.inl rfl) ?_)); simp [zaJ, zah, Tryz.results95, hne, hi]; refine FinOK.cut [(i, pOb l q4)] (nx) (by simp [zaa, getK, zab, zac, Ob.under, D.under, zad, zae, hne, hi] <;> omega) (by simp [D.under]) (by simp [hn]) ?_; try simp)
      exact PPost.zcf (by simp [PR.bind, *]; rfl) (by simp [Exp.row_eq, Exp.op, Exp.n, Exp.unit, Exp.s, Exp.args]) rfl
theorem zkr {l : List Tok} (hl : TokOK l) {f p : Nat} {form : Int} (hE : zhc l f) (hp : p < l.length) (hf : 4 * (l.length - p) + 1 ≤ f)
  (hf0 : form = 0) (hf3 : form ≤ 3) (h1 : isB l p [105, 102] = false) (h2 : isB l p [110, 111, 116] = true) {i nx : Nat} (hi : i < nx) :
  RetX Tryz.prog 95 [.ptr i 0, zio form] [(i, pOb l p)] nx (PPost l i nx zjp (zbo l (f + 1) p form)) := by
 have hne := zaB hi
 have hll := hl.len
 rw [zbo]
 have hh1 := fun nx' (h : nx ≤ nx') => zbc l p [105, 102] i nx' (by omega) hp hl.len
 rw [h1] at hh1
 simp only [if_true, Bool.false_eq_true, if_false] at hh1
 have hp2 := zba hl h2
 have hh2 := fun nx' (h : nx ≤ nx') => zbc l p [110, 111, 116] i nx' (by omega) hp hl.len
 rw [h2] at hh2
 simp only [if_true, Bool.false_eq_true, if_false] at hh2
 rw [if_neg (by simp [*]), if_pos ⟨hf3, h2⟩]
 have ha := fun nx' (h : nx ≤ nx') => hE (p + 1) 3 i nx' (by omega) hp2 (by omega) (by omega) (by omega)
 cases hr0 : zdI l f (p + 1) 3 with
 | stop pos e =>
  simp only [hr0] at ha
  (refine RetX.of_bodyW Tryz.func95 rfl (by simp) fun Γ hn hpan => ?_); simp only [entry, ziC, ziN, maC, maN, oA, Tryz.ntmps95]
  repeat' (first
  | ((first | refine zaf ?_ | refine zaj ?_ | refine zag ?_ | refine zai ?_ | fail); simp [hne, hf0, hf3, del, nAA])
  | (refine zap ?_; simp only [zao])
  | (refine CallP.ok1 (hh1 _ (by first | omega | simp <;> omega | fail)) (by first | (simp [hne, hf0, hf3, del, nAA, zaa, getK, zab, zac]; done) | fail) (by rfl) (by rfl) ?_; (try simp [hne, hf0, hf3, del, nAA]))
  | (refine CallP.ok1 (hh2 _ (by first | omega | simp <;> omega | fail)) (by first | (simp [hne, hf0, hf3, del, nAA, zaa, getK, zab, zac]; done) | fail) (by rfl) (by rfl) ?_; (try simp [hne, hf0, hf3, del, nAA]))
  | (refine CallP.zd8 (ha _ (by first | omega | simp <;> omega | fail)) (by first | (simp [hne, hf0, hf3, del, nAA, zaa, getK, zab, zac]; done) | fail) (by rfl) (by first | assumption | (simp; done) | fail) (by rfl) (by simp) ?_; rintro ob' ⟨q', rfl⟩; refine ⟨_, Wk.refl _, ?_⟩)
  | fail)
  (refine hpan _ _ ⟨{ n := _, env := [], obs := [(i, pOb l q')], next := nx }, (Wk.cut rfl (by simp [hn]) (by simp [wkO, zaa, getK, zab, zac, Ob.under, D.under, zad, zae, hi, hne, zab, zac, zaa, getK]) (by simp [wkU, zam, zaa, getK, D.under, hi, hne, zab, zac, zaa, getK]) (by simp [wkE, zam, zaa, getK, hi, hne, zab, zac, zaa, getK])), by simp [hn], ?_⟩; try simp)
  exact PPost.zay (by simp [PR.bind, *])
 | ok v0 q0 =>
  have ha := fun nx' h => zcL (ha nx' h) hr0
  (refine RetX.of_bodyW Tryz.func95 rfl (by simp) fun Γ hn hpan => ?_); simp only [entry, ziC, ziN, maC, maN, oA, Tryz.ntmps95]
  repeat' (first
  | ((first | refine zaf ?_ | refine zaj ?_ | refine zag ?_ | refine zai ?_ | fail); simp [hne, hf0, hf3, del, nAA])
  | ((first | refine zaq ?_ | refine zap ?_ | fail); simp only [zao])
  | (refine CallP.ok1 (hh1 _ (by first | omega | simp <;> omega | fail)) (by first | (simp [hne, hf0, hf3, del, nAA, zaa, getK, zab, zac]; done) | fail) (by rfl) (by rfl) ?_; (try simp [hne, hf0, hf3, del, nAA]))
  | (refine CallP.ok1 (hh2 _ (by first | omega | simp <;> omega | fail)) (by first | (simp [hne, hf0, hf3, del, nAA, zaa, getK, zab, zac]; done) | fail) (by rfl) (by rfl) ?_; (try simp [hne, hf0, hf3, del, nAA]))
  | (refine CallP.ok1 (ha _ (by first | omega | simp <;> omega | fail)) (by first | (simp [hne, hf0, hf3, del, nAA, zaa, getK, zab, zac]; done) | fail) (by rfl) (by rfl) ?_; (try simp [hne, hf0, hf3, del, nAA]))
  | fail)
  (refine EndW.frzN 1 ?_; simp [frzN, frz1, zaA, zaz, St.frz, St.frzS, frzS, fv, zaE, zaY, za1, zaD, zas, zal, del, frz, za2, hne, nAA])
  refine EndW.norm ?_
  simp [St.norm, zbh, zbZ, zcj, zck, hne, nAA]
  (refine EndW.here ?_; (first | (refine EndOK.fin (.inr rfl) ?_) | (refine EndOK.fin (.inl rfl) ?_)); simp [zaJ, zah, Tryz.results95, hne, hi]; refine FinOK.cut [(i, pOb l q0)] (nx) (by simp [zaa, getK, zab, zac, Ob.under, D.under, zad, zae, hne, hi] <;> omega) (by simp [D.under]) (by simp [hn]) ?_; try simp)
  exact PPost.zcf (by simp [PR.bind, *]; rfl) (by simp [Exp.row_eq, Exp.op, Exp.n, Exp.unit, Exp.s, Exp.args]) rfl
theorem zkq {l : List Tok} (hl : TokOK l) {f p : Nat} {form : Int} (hE : zhc l f) (hp : p < l.length) (hf : 4 * (l.length - p) + 1 ≤ f)
  (hf0 : ¬ form = 0) (hf3 : form ≤ 3) (h2 : isB l p [110, 111, 116] = true) {i nx : Nat} (hi : i < nx) :
  RetX Tryz.prog 95 [.ptr i 0, zio form] [(i, pOb l p)] nx (PPost l i nx zjp (zbo l (f + 1) p form)) := by
 have hne := zaB hi
 have hll := hl.len
 rw [zbo]
 have hp2 := zba hl h2
 have hh2 := fun nx' (h : nx ≤ nx') => zbc l p [110, 111, 116] i nx' (by omega) hp hl.len
 rw [h2] at hh2
 simp only [if_true, Bool.false_eq_true, if_false] at hh2
 rw [if_neg (by simp [*]), if_pos ⟨hf3, h2⟩]
 have ha := fun nx' (h : nx ≤ nx') => hE (p + 1) 3 i nx' (by omega) hp2 (by omega) (by omega) (by omega)
 cases hr0 : zdI l f (p + 1) 3 with
 | stop pos e =>
  simp only [hr0] at ha
  (refine RetX.of_bodyW Tryz.func95 rfl (by simp) fun Γ hn hpan => ?_); simp only [entry, ziC, ziN, maC, maN, oA, Tryz.ntmps95]
  repeat' (first
  | ((first | refine zaf ?_ | refine zaj ?_ | refine zag ?_ | refine zai ?_ | fail); simp [hne, hf0, hf3, del, nAA])
  | (refine zap ?_; simp only [zao])
  | (refine CallP.ok1 (hh2 _ (by first | omega | simp <;> omega | fail)) (by first | (simp [hne, hf0, hf3, del, nAA, zaa, getK, zab, zac]; done) | fail) (by rfl) (by rfl) ?_; (try simp [hne, hf0, hf3, del, nAA]))
  | (refine CallP.zd8 (ha _ (by first | omega | simp <;> omega | fail)) (by first | (simp [hne, hf0, hf3, del, nAA, zaa, getK, zab, zac]; done) | fail) (by rfl) (by first | assumption | (simp; done) | fail) (by rfl) (by simp) ?_; rintro ob' ⟨q', rfl⟩; refine ⟨_, Wk.refl _, ?_⟩)
  | fail)
  (refine hpan _ _ ⟨{ n := _, env := [], obs := [(i, pOb l q')], next := nx }, (Wk.cut rfl (by simp [hn]) (by simp [wkO, zaa, getK, zab, zac, Ob.under, D.under, zad, zae, hi, hne, zab, zac, zaa, getK]) (by simp [wkU, zam, zaa, getK, D.under, hi, hne, zab, zac, zaa, getK]) (by simp [wkE, zam, zaa, getK, hi, hne, zab, zac, zaa, getK])), by simp [hn], ?_⟩; try simp)
  exact PPost.zay (by simp [PR.bind, *])
 | ok v0 q0 =>
  have ha := fun nx' h => zcL (ha nx' h) hr0
  (refine RetX.of_bodyW Tryz.func95 rfl (by simp) fun Γ hn hpan => ?_); simp only [entry, ziC, ziN, maC, maN, oA, Tryz.ntmps95]
  repeat' (first
  | ((first | refine zaf ?_ | refine zaj ?_ | refine zag ?_ | refine zai ?_ | fail); simp [hne, hf0, hf3, del, nAA])
  | ((first | refine zaq ?_ | refine zap ?_ | fail); simp only [zao])
  | (refine CallP.ok1 (hh2 _ (by first | omega | simp <;> omega | fail)) (by first | (simp [hne, hf0, hf3, del, nAA, zaa, getK, zab, zac]; done) | fail) (by rfl) (by rfl) ?_; (try simp [hne, hf0, hf3, del, nAA]))
  | (refine CallP.ok1 (ha _ (by first | omega | simp <;> omega | fail)) (by first | (simp [hne, hf0, hf3, del, nAA, zaa, getK, zab, zac]; done) | fail) (by rfl) (by rfl) ?_; (try simp [hne, hf0, hf3, del, nAA]))
  | fail)
  (refine EndW.frzN 1 ?_; simp [frzN, frz1, zaA, zaz, St.frz, St.frzS, frzS, fv, zaE, zaY, za1, zaD, zas, zal, del, frz, za2, hne, nAA])
  refine EndW.norm ?_
  simp [St.norm, zbh, zbZ, zcj, zck, hne, nAA]
  (refine EndW.here ?_; (first | (refine EndOK.fin (.inr rfl) ?_) | (refine EndOK.fin (.inl rfl) ?_)); simp [zaJ, zah, Tryz.results95, hne, hi]; refine FinOK.cut [(i, pOb l q0)] (nx) (by simp [zaa, getK, zab, zac, Ob.under, D.under, zad, zae, hne, hi] <;> omega) (by simp [D.under]) (by simp [hn]) ?_; try simp)
  exact PPost.zcf (by simp [PR.bind, *]; rfl) (by simp [Exp.row_eq, Exp.op, Exp.n, Exp.unit, Exp.s, Exp.args]) rfl
theorem zjj {l : List Tok} (hl : TokOK l) {f p : Nat} {form : Int} (hP : zhS l f) (hp : p < l.length) (hf : 4 * (l.length - p) + 1 ≤ f)
  (hf0 : form = 0) (hf3 : form ≤ 3) (h1 : isB l p [105, 102] = false) (h2 : isB l p [110, 111, 116] = false) {i nx : Nat} (hi : i < nx) :
  RetX Tryz.prog 95 [.ptr i 0, zio form] [(i, pOb l p)] nx (PPost l i nx zjp (zbo l (f + 1) p form)) := by
 have hne := zaB hi
 have hll := hl.len
 rw [zbo]
 have hh1 := fun nx' (h : nx ≤ nx') => zbc l p [105, 102] i nx' (by omega) hp hl.len
 rw [h1] at hh1
 simp only [if_true, Bool.false_eq_true, if_false] at hh1
 have hh2 := fun nx' (h : nx ≤ nx') => zbc l p [110, 111, 116] i nx' (by omega) hp hl.len
 rw [h2] at hh2
 simp only [if_true, Bool.false_eq_true, if_false] at hh2
 rw [if_neg (by simp [*]), if_neg (by simp [*])]
 have ha := fun nx' (h : nx ≤ nx') => hP p i nx' (by omega) hp (by omega)
 cases hr0 : zaU l f p with
 | stop pos e =>
  simp only [hr0] at ha
  (refine RetX.of_bodyW Tryz.func95 rfl (by simp) fun Γ hn hpan => ?_); simp only [entry, ziC, ziN, maC, maN, oA, Tryz.ntmps95]
  repeat' (first
  | ((first | refine zaf ?_ | refine zaj ?_ | refine zag ?_ | refine zai ?_ | fail); simp [hne, hf0, hf3, del, nAA])
  | (refine zap ?_; simp only [zao])
  | (refine CallP.ok1 (hh1 _ (by first | omega | simp <;> omega | fail)) (by first | (simp [hne, hf0, hf3, del, nAA, zaa, getK, zab, zac]; done) | fail) (by rfl) (by rfl) ?_; (try simp [hne, hf0, hf3, del, nAA]))
  | (refine CallP.ok1 (hh2 _ (by first | omega | simp <;> omega | fail)) (by first | (simp [hne, hf0, hf3, del, nAA, zaa, getK, zab, zac]; done) | fail) (by rfl) (by rfl) ?_; (try simp [hne, hf0, hf3, del, nAA]))
  | (refine CallP.zd8 (ha _ (by first | omega | simp <;> omega | fail)) (by first | (simp [hne, hf0, hf3, del, nAA, zaa, getK, zab, zac]; done) | fail) (by rfl) (by first | assumption | (simp; done) | fail) (by rfl) (by simp) ?_; rintro ob' ⟨q', rfl⟩; refine ⟨_, Wk.refl _, ?_⟩)
  | fail)
  (refine hpan _ _ ⟨{ n := _, env := [], obs := [(i, pOb l q')], next := nx }, (Wk.cut rfl (by simp [hn]) (by simp [wkO, zaa, getK, zab, zac, Ob.under, D.under, zad, zae, hi, hne, zab, zac, zaa, getK]) (by simp [wkU, zam, zaa, getK, D.under, hi, hne, zab, zac, zaa, getK]) (by simp [wkE, zam, zaa, getK, hi, hne, zab, zac, zaa, getK])), by simp [hn], ?_⟩; try simp)
  exact PPost.zay (by simp [PR.bind, *])
 | ok v0 q0 =>
  have ha := fun nx' h => zcL (ha nx' h) hr0
  (refine RetX.of_bodyW Tryz.func95 rfl (by simp) fun Γ hn hpan => ?_); simp only [entry, ziC, ziN, maC, maN, oA, Tryz.ntmps95]
  repeat' (first
  | ((first | refine zaf ?_ | refine zaj ?_ | refine zag ?_ | refine zai ?_ | fail); simp [hne, hf0, hf3, del, nAA])
  | ((first | refine zaq ?_ | refine zap ?_ | fail); simp only [zao])
  | (refine CallP.ok1 (hh1 _ (by first | omega | simp <;> omega | fail)) (by first | (simp [hne, hf0, hf3, del, nAA, zaa, getK, zab, zac]; done) | fail) (by rfl) (by rfl) ?_; (try simp [hne, hf0, hf3, del, nAA]))
  | (refine CallP.ok1 (hh2 _ (by first | omega | simp <;> omega | fail)) (by first | (simp [hne, hf0, hf3, del, nAA, zaa, getK, zab, zac]; done) | fail) (by rfl) (by rfl) ?_; (try simp [hne, hf0, hf3, del, nAA]))
  | (refine CallP.ok1 (ha _ (by first | omega | simp <;> omega | fail)) (by first | (simp [hne, hf0, hf3, del, nAA, zaa, getK, zab, zac]; done) | fail) (by rfl) (by rfl) ?_; (try simp [hne, hf0, hf3, del, nAA]))
  | fail)
  refine EndW.norm ?_
  simp [St.norm, zbh, zbZ, zcj, zck, hne, nAA]
  (refine EndW.here ?_; (first | (refine EndOK.fin (.inr rfl) ?_) | (refine EndOK.fin (.inl rfl) ?_)); simp [zaJ, zah, Tryz.results95, hne, hi]; refine FinOK.cut [(i, pOb l q0)] (nx) (by simp [zaa, getK, zab, zac, Ob.under, D.under, zad, zae, hne, hi] <;> omega) (by simp [D.under]) (by simp [hn]) ?_; try simp)
  exact PPost.zcf (by simp [PR.bind, *]; rfl) (by simp [Exp.row_eq, Exp.op, Exp.n, Exp.unit, Exp.s, Exp.args]) rfl
theorem zji {l : List Tok} (hl : TokOK l) {f p : Nat} {form : Int} (hP : zhS l f) (hp : p < l.length) (hf : 4 * (l.length - p) + 1 ≤ f)
  (hf0 : ¬ form = 0) (hf3 : form ≤ 3) (h2 : isB l p [110, 111, 116] = false) {i nx : Nat} (hi : i < nx) :
  RetX Tryz.prog 95 [.ptr i 0, zio form] [(i, pOb l p)] nx (PPost l i nx zjp (zbo l (f + 1) p form)) := by
 have hne := zaB hi
 have hll := hl.len
 rw [zbo]
 have hh2 := fun nx' (h : nx ≤ nx') => zbc l p [110, 111, 116] i nx' (by omega) hp hl.len
 rw [h2] at hh2
 simp only [if_true, Bool.false_eq_true, if_false] at hh2
 rw [if_neg (by simp [*]), if_neg (by simp [*])]
 have ha := fun nx' (h : nx ≤ nx') => hP p i nx' (by omega) hp (by omega)
 cases hr0 : zaU l f p with
 | stop pos e =>
  simp only [hr0] at ha
  (refine RetX.of_bodyW Tryz.func95 rfl (by simp) fun Γ hn hpan => ?_); simp only [entry, ziC, ziN, maC, maN, oA, Tryz.ntmps95]
  repeat' (first
  | ((first | refine zaf ?_ | refine zaj ?_ | refine zag ?_ | refine zai ?_ | fail); simp [hne, hf0, hf3, del, nAA])
  | (refine zap ?_; simp only [zao])
  | (refine CallP.ok1 (hh2 _ (by first | omega | simp <;> omega | fail)) (by first | (simp [hne, hf0, hf3, del, nAA, zaa, getK, zab, zac]; done) | fail) (by rfl) (by rfl) ?_; (try simp [hne, hf0, hf3, del, nAA]))
  | (refine CallP.zd8 (ha _ (by first | omega | simp <;> omega | fail)) (by first | (simp [hne, hf0, hf3, del, nAA, zaa, getK, zab, zac]; done) | fail) (by rfl) (by first | assumption | (simp; done) | fail) (by rfl) (by simp) ?_; rintro ob' ⟨q', rfl⟩; refine ⟨_, Wk.refl _, ?_⟩)
  | fail)
  (refine hpan _ _ ⟨{ n := _, env := [], obs := [(i, pOb l q')], next := nx }, (Wk.cut rfl (by simp [hn]) (by simp [wkO, zaa, getK, zab, zac, Ob.under, D.under, zad, zae, hi, hne, zab, zac, zaa, getK]) (by simp [wkU, zam, zaa, getK, D.under, hi, hne, zab, zac, zaa, getK]) (by simp [wkE, zam, zaa, getK, hi, hne, zab, zac, zaa, getK])), by simp [hn], ?_⟩; try simp)
  exact PPost.zay (by simp [PR.bind, *])
 | ok v0 q0 =>
  have ha := fun nx' h => zcL (ha nx' h) hr0
  (refine RetX.of_bodyW Tryz.func95 rfl (by simp) fun Γ hn hpan => ?_); simp only [entry, ziC, ziN, maC, maN, oA, Tryz.ntmps95]
  repeat' (first
  | ((first | refine zaf ?_ | refine zaj ?_ | refine zag ?_ | refine zai ?_ | fail); simp [hne, hf0, hf3, del, nAA])
  | ((first | refine zaq ?_ | refine zap ?_ | fail); simp only [zao])
  | (refine CallP.ok1 (hh2 _ (by first | omega | simp <;> omega | fail)) (by first | (simp [hne, hf0, hf3, del, nAA, zaa, getK, zab, zac]; done) | fail) (by rfl) (by rfl) ?_; (try simp [hne, hf0, hf3, del, nAA]))
  | (refine CallP.ok1 (ha _ (by first | omega | simp <;> omega | fail)) (by first | (simp [hne, hf0, hf3, del, nAA, zaa, getK, zab, zac]; done) | fail) (by rfl) (by rfl) ?_; (try simp [hne, hf0, hf3, del, nAA]))
  | fail)
  refine EndW.norm ?_
  simp [St.norm, zbh, zbZ, zcj, zck, hne, nAA]
  (refine EndW.here ?_; (first | (refine EndOK.fin (.inr rfl) ?_) | (refine EndOK.fin (.inl rfl) ?_)); simp [zaJ, zah, Tryz.results95, hne, hi]; refine FinOK.cut [(i, pOb l q0)] (nx) (by simp [zaa, getK, zab, zac, Ob.under, D.under, zad, zae, hne, hi] <;> omega) (by simp [D.under]) (by simp [hn]) ?_; try simp)
  exact PPost.zcf (by simp [PR.bind, *]; rfl) (by simp [Exp.row_eq, Exp.op, Exp.n, Exp.unit, Exp.s, Exp.args]) rfl
theorem zjh {l : List Tok} (hl : TokOK l) {f p : Nat} {form : Int} (hP : zhS l f) (hp : p < l.length) (hf : 4 * (l.length - p) + 1 ≤ f)
  (hf0 : ¬ form = 0) (hf3 : ¬ form ≤ 3) {i nx : Nat} (hi : i < nx) :
  RetX Tryz.prog 95 [.ptr i 0, zio form] [(i, pOb l p)] nx (PPost l i nx zjp (zbo l (f + 1) p form)) := by
 have hne := zaB hi
 have hll := hl.len
 rw [zbo]
 rw [if_neg (by simp [*]), if_neg (by simp [*])]
 have ha := fun nx' (h : nx ≤ nx') => hP p i nx' (by omega) hp (by omega)
 cases hr0 : zaU l f p with
 | stop pos e =>
  simp only [hr0] at ha
  (refine RetX.of_bodyW Tryz.func95 rfl (by simp) fun Γ hn hpan => ?_); simp only [entry, ziC, ziN, maC, maN, oA, Tryz.ntmps95]
  repeat' (first
  | ((first | refine zaf ?_ | refine zaj ?_ | refine zag ?_ | refine zai ?_ | fail); simp [hne, hf0, hf3, del, nAA])
  | (refine zap ?_; simp only [zao])
  | (refine CallP.zd8 (ha _ (by first | omega | simp <;> omega | fail)) (by first | (simp [hne, hf0, hf3, del, nAA, zaa, getK, zab, zac]; done) | fail) (by rfl) (by first | assumption | (simp; done) | fail) (by rfl) (by simp) ?_; rintro ob' ⟨q', rfl⟩; refine ⟨_, Wk.refl _, ?_⟩)
  | fail)
  (refine hpan _ _ ⟨{ n := _, env := [], obs := [(i, pOb l q')], next := nx }, (Wk.cut rfl (by simp [hn]) (by simp [wkO, zaa, getK, zab, zac, Ob.under, D.under, zad, zae, hi, hne, zab, zac, zaa, getK]) (by simp [wkU, zam, zaa, getK, D.under, hi, hne, zab, zac, zaa, getK]) (by simp [wkE, zam, zaa, getK, hi, hne, zab, zac, zaa, getK])), by simp [hn], ?_⟩; try simp)
  exact PPost.zay (by simp [PR.bind, *])
 | ok v0 q0 =>
  have ha := fun nx' h => zcL (ha nx' h) hr0
  (refine RetX.of_bodyW Tryz.func95 rfl (by simp) fun Γ hn hpan => ?_); simp only [entry, ziC, ziN, maC, maN, oA, Tryz.ntmps95]
  repeat' (first
  | ((first | refine zaf ?_ | refine zaj ?_ | refine zag ?_ | refine zai ?_ | fail); simp [hne, hf0, hf3, del, nAA])
  | ((first | refine zaq ?_ | refine zap ?_ | fail); simp only [zao])
  | (refine CallP.ok1 (ha _ (by first | omega | simp <;> omega | fail)) (by first | (simp [hne, hf0, hf3, del, nAA, zaa, getK, zab, zac]; done) | fail) (by rfl) (by rfl) ?_; (try simp [hne, hf0, hf3, del, nAA]))
  | fail)
  refine EndW.norm ?_
  simp [St.norm, zbh, zbZ, zcj, zck, hne, nAA]
  (refine EndW.here ?_; (first | (refine EndOK.fin (.inr rfl) ?_) | (refine EndOK.fin (.inl rfl) ?_)); simp [zaJ, zah, Tryz.results95, hne, hi]; refine FinOK.cut [(i, pOb l q0)] (nx) (by simp [zaa, getK, zab, zac, Ob.under, D.under, zad, zae, hne, hi] <;> omega) (by simp [D.under]) (by simp [hn]) ?_; try simp)
  exact PPost.zcf (by simp [PR.bind, *]; rfl) (by simp [Exp.row_eq, Exp.op, Exp.n, Exp.unit, Exp.s, Exp.args]) rfl
theorem zkp {l : List Tok} (hl : TokOK l) {f : Nat} (hE : zhc l f) (hP : zhS l f) : zqb l (f + 1) := by
 intro p form i nx hi hp hf hm0 hm7
 have hf' : 4 * (l.length - p) + 1 ≤ f := by omega
 by_cases hf0 : form = 0
 ·have hf3 : form ≤ 3 := by omega
  cases h1 : isB l p [105, 102] with
  | true => exact zmZ hl hE hp hf' hf0 h1 hi
  | false =>
   cases h2 : isB l p [110, 111, 116] with
   | true => exact zkr hl hE hp hf' hf0 hf3 h1 h2 hi
   | false => exact zjj hl hP hp hf' hf0 hf3 h1 h2 hi
 ·by_cases hf3 : form ≤ 3
  ·cases h2 : isB l p [110, 111, 116] with
   | true => exact zkq hl hE hp hf' hf0 hf3 h2 hi
   | false => exact zji hl hP hp hf' hf0 hf3 h2 hi
  ·exact zjh hl hP hp hf' hf0 hf3 hi
theorem zm9 (s : List UInt8) (l : List Tok) (nx : Nat) (h : zgS s = .ok l) :
  RetX Tryz.prog 34 [.u (.str s)] [] nx (fun r o n => r = .val (.tup [.ptr nx 0, .u (.int .i64 0), .u (.int .i64 0)]) ∧ o = [(nx, pOb l 0)] ∧ n = nx + 1) := by
 have h1 := zkC s
 rw [h] at h1
 simp only [zgR] at h1
 (refine RetX.of_bodyW Tryz.func34 rfl (by simp) fun Γ hn hpan => ?_); simp only [entry, ziC, ziN, maC, maN, oA, Tryz.ntmps34]
 repeat' (first
  | ((first | refine zaf ?_ | refine zaj ?_ | refine zag ?_ | fail); simp)
  | (refine zaq ?_; simp only [zao])
  | (refine CallP.fE (h1) (by first | rfl | fail) (by first | (simp; done) | (simp; rfl) | fail) ?_; (try simp))
  | fail)
 (refine EndW.here ?_; (first | (refine EndOK.fin (.inr rfl) ?_) | (refine EndOK.fin (.inl rfl) ?_)); simp [zaJ, zah, Tryz.results34]; refine FinOK.here (by simp) ?_; try simp)
theorem zkZ (s : List UInt8) (p : Nat) (e : Int) (nx : Nat) (h : zgS s = .error (p, e)) :
  RetX Tryz.prog 34 [.u (.str s)] [] nx (fun r o n => r = .val (.tup [.ptr nx 0, .u (.int .i64 p), .u (.int .i64 e)]) ∧ o = [(nx, pOb [] 0)] ∧ n = nx + 1) := by
 have h1 := zkC s
 rw [h] at h1
 simp only [zgR] at h1
 (refine RetX.of_bodyW Tryz.func34 rfl (by simp) fun Γ hn hpan => ?_); simp only [entry, ziC, ziN, maC, maN, oA, Tryz.ntmps34]
 repeat' (first
  | ((first | refine zaf ?_ | refine zaj ?_ | refine zag ?_ | fail); simp)
  | (refine zaq ?_; simp only [zao])
  | (refine CallP.fE (h1) (by first | rfl | fail) (by first | (simp; done) | (simp; rfl) | fail) ?_; (try simp))
  | fail)
 (refine EndW.here ?_; (first | (refine EndOK.fin (.inr rfl) ?_) | (refine EndOK.fin (.inl rfl) ?_)); simp [zaJ, zah, Tryz.results34]; refine FinOK.here (by simp) ?_; try simp)
theorem zg8 (i j nx : Nat) (hi : i < nx) (hj : j < nx) (hij : i ≠ j) (p e : Int) :
  RetX Tryz.prog 36 [.u (.oth .nilIface), .ptr i 0, .ptr j 0] [(i, .box [.u (.int .i64 p)]), (j, .box [.u (.int .i64 e)])] nx
   (fun r o n => r = .val (.u (.bool false)) ∧ o = [(i, .box [.u (.int .i64 p)]), (j, .box [.u (.int .i64 e)])] ∧ n = nx) := by
 have hne := zaB hi
 have hne2 := zaB hj
 (refine RetX.of_bodyW Tryz.func36 rfl (by simp) fun Γ hn hpan => ?_); simp only [entry, ziC, ziN, maC, maN, oA, Tryz.ntmps36]
 repeat' (first
  | ((first | refine zaf ?_ | refine zaj ?_ | refine zag ?_ | fail); simp [hne, hne2, hij, Ne.symm hij])
  | fail)
 refine ⟨[.int .i64 0, .int .i64 0], rfl, ?_⟩
 repeat' (first
  | ((first | refine zaf ?_ | refine zaj ?_ | refine zag ?_ | refine zai ?_ | fail); simp [hne, hne2, hij, Ne.symm hij])
  | ((first | refine zaq ?_ | refine zap ?_ | fail); simp only [zao])
  | fail)
 (refine EndW.here ?_; (first | (refine EndOK.fin (.inr rfl) ?_) | (refine EndOK.fin (.inl rfl) ?_)); simp [zaJ, zah, Tryz.results36, hne, hne2, hij, Ne.symm hij, hi, hj]; refine FinOK.cut [(i, .box [.u (.int .i64 p)]), (j, .box [.u (.int .i64 e)])] (nx) (by simp [zaa, getK, zab, zac, Ob.under, D.under, zad, zae, hne, hne2, hij, Ne.symm hij, hi, hj] <;> omega) (by simp [D.under]) (by simp [hn]) ?_; try simp)
theorem zg7 (i j nx : Nat) (hi : i < nx) (hj : j < nx) (hij : i ≠ j) (p e pos err : Int) :
  RetX Tryz.prog 36 [.u (.oth (.iface 105 (.agg #[.int .i64 pos, .int .i64 err]))), .ptr i 0, .ptr j 0] [(i, .box [.u (.int .i64 p)]), (j, .box [.u (.int .i64 e)])] nx
   (fun r o n => r = .val (.u (.bool true)) ∧ o = [(i, .box [.u (.int .i64 pos)]), (j, .box [.u (.int .i64 err)])] ∧ n = nx) := by
 have hne := zaB hi
 have hne2 := zaB hj
 (refine RetX.of_bodyW Tryz.func36 rfl (by simp) fun Γ hn hpan => ?_); simp only [entry, ziC, ziN, maC, maN, oA, Tryz.ntmps36]
 repeat' (first
  | ((first | refine zaf ?_ | refine zaO rfl ?_ | refine za3 rfl ?_ | refine zaj ?_ | refine zag ?_ | refine zai ?_ | fail); simp [hne, hne2, hij, Ne.symm hij])
  | (refine zaX (hC _ (zcc [i, j] nx (by simp <;> omega) (by simp <;> omega) (by apply Exists.intro; apply And.intro; (focus (repeat' (first | exact KF.nil | exact KL.nil | apply KF.cons | apply KL.cons 0 rfl | apply KL.cons 1 rfl | apply KL.cons 2 rfl | apply KL.cons 3 rfl | apply KL.cons 4 rfl | apply KL.cons 5 rfl | apply KL.cons 6 rfl | apply KL.cons 7 rfl | apply KL.cons 8 rfl | apply KL.cons 9 rfl))); kernel_rfl))) (hk _ ?_); clear hC hk C k; simp only [zao])
  | (refine za0 rfl (by kernel_rfl) (by first | (simp [hn]; done) | (simp [hn]; omega) | fail) fun C k hC hk => ?_; simp [hne, hne2, hij, Ne.symm hij])
  | ((first | refine zaq ?_ | refine zap ?_ | fail); simp only [zao])
  | fail)
 (refine EndW.here ?_; (first | (refine EndOK.fin (.inr rfl) ?_) | (refine EndOK.fin (.inl rfl) ?_)); simp [zaJ, zah, Tryz.results36, hne, hne2, hij, Ne.symm hij, hi, hj]; refine FinOK.cut [(i, .box [.u (.int .i64 pos)]), (j, .box [.u (.int .i64 err)])] (nx) (by simp [zaa, getK, zab, zac, Ob.under, D.under, zad, zae, hne, hne2, hij, Ne.symm hij, hi, hj] <;> omega) (by simp [D.under]) (by simp [hn]) ?_; try simp)
theorem zos (i j q nx : Nat) (hi : i < nx) (hj : j < nx) (hq : q < nx) (hij : i ≠ j) (hiq : i ≠ q) (hjq : j ≠ q) (p e : Int) (cells : List U) :
  RetDf Tryz.prog 40 [.ptr i 0, .ptr j 0, .ptr q 0] [(i, .box [.u (.int .i64 p)]), (j, .box [.u (.int .i64 e)]), (q, .box (cells.map .u))] nx .returning
   (fun u o n => settle u = .returning ∧ n = nx ∧ o = [(i, .box [.u (.int .i64 p)]), (j, .box [.u (.int .i64 e)]), (q, .box (cells.map .u))]) := by
 have hne := zaB hi
 have hne2 := zaB hj
 have hne3 := zaB hq
 have hc0 := zg8 i j nx hi hj hij p e
 refine RetDf.of_body Tryz.func40 rfl (by simp) (by simp) rfl fun Γ hn => ?_
 simp [entry, zkl, Tryz.ntmps40]
 refine CallP.x2 hc0 (by simp [getK]) (by simp [getK, hij, Ne.symm hij]) hij rfl rfl (by simp) (by simp) (fun d o1 nx' hnx h => ?_) (fun ch o1 nx' hnx h => by cases h.1)
 obtain ⟨h1, rfl, h4⟩ := h
 have h4 := h4.symm
 subst h4
 cases h1
 simp [del, hij, Ne.symm hij, hiq, hjq, Ne.symm hiq, Ne.symm hjq]
 repeat' (first
  | (refine zai ?_; simp [hij, hiq, hjq])
  | (refine zap ?_; simp only [zao])
  | fail)
 (refine ⟨by simp, { n := _, env := [], obs := [(i, .box [.u (.int .i64 p)]), (j, .box [.u (.int .i64 e)]), (q, .box (cells.map .u))], next := nx }, (Wk.cut rfl (by simp [hn]) (by simp [wkO, zaa, getK, zab, zac, Ob.under, D.under, zad, zae, hi, hj, hq, hne, hne2, hne3, hij, hiq, hjq, Ne.symm hij, Ne.symm hiq, Ne.symm hjq]) (by simp [wkU, zam, zaa, getK, D.under, hi, hj, hq, hne, hne2, hne3, hij, hiq, hjq, Ne.symm hij, Ne.symm hiq, Ne.symm hjq]) (by simp [wkE, zam, zaa, getK, hi, hj, hq, hne, hne2, hne3, hij, hiq, hjq, Ne.symm hij, Ne.symm hiq, Ne.symm hjq])), by simp [hn], ?_⟩; try simp)
 all_goals rfl
end Go.Proofs.YthnemhfamhnfjaaGreatDoor
namespace Go.Proofs.YthnemhfamhnfjaaGreatDoor
open Go Go.VL Go.Shelf Go.RowKit
attribute [local simp] HS zde zb7 evPure opd uOf zaF St.put St.at getK binD binI binS binB nilD aggD zhn ziD lookD lookR zcB Go.VL.nextD zcF ziQ ziP zgW zcz mkV zdB zbq zbB mapEff zev zgg Key.kk shiftI arith unD convD zeg loadD cellsAt fieldAddrD fieldD indexAddrD indexD sliceD cutD lenD minmaxD nilCheckD buildD fillD zbU zdn ze5 setAll zcU zff zcx zhN zct St.add zaR zbR rowsOf zd0 zcJ zak zac zaa za9 zcI zaP entry zbO zbY valD zb8 zcA zhf zdz zdA zb1 zbQ zax zaW zbu delAll effD St.effS zdj zbl za5 zdk zbm za7 zcl za6 zaV zcm zdh zbJ zci zbt zcg zch zaK mkD zbL zbC zbP zax zcv D.ids Op.operands Call.operands zbI makeIfD makeFuncD typeAssertD ziB zdR zdS zhX zcD IntKind.bits zcV List.take_of_length_le List.range_succ
attribute [local irreducible] V G H HD HD2 HD4 zmC RetX zao Eff CallP CallV EndOK Fun Ret FinOK LoopI LoopW EndW
theorem zlz : zkJ Tryz.prog 74 9 = some u8T := by kernel_rfl
theorem zlG (l s : W8) (i j nx : Nat) (hi : i < nx) (hj : j < nx) (hij : i ≠ j) (hlen : l.length + s.length ≤ 140737488355328) :
  RetX Tryz.prog 53 [.ptr i 0, .u (.str s)] [(i, .box [.ptr i 0, .vec j l.length]), (j, .vec u8T 1 (zcn l))] nx
   (fun r o n => r = .val (.tup [.u (.int .i64 s.length), .u (.oth .nilIface)]) ∧ o = [(i, .box [.ptr i 0, .vec nx (l.length + s.length)]), (nx, .vec u8T 1 (zcn (l ++ s)))] ∧ n = nx + 1) := by
 have hne := zaB hi
 have hne2 := zaB hj
 have hcp := fun nx' (h : nx ≤ nx') => znX i nx' (by omega) (.vec j l.length)
 have hbi := zlz
 have hca : zan Tryz.prog 108 = true := by kernel_rfl
 have hbl := zmx l
 rw [show zcn (l ++ s) = rowsD (zd6 l ++ zd6 s) by rw [zcn, zmy]]
 (refine RetX.of_bodyW Tryz.func53 rfl (by simp) fun Γ hn hpan => ?_); simp only [entry, ziC, ziN, maC, maN, oA, Tryz.ntmps53]
 repeat' (first
  | (refine zkb ?_; simp [zfA, hne, hne2, hij, Ne.symm hij, del, hbi, hbl, hlen])
  | ((first | refine zaf ?_ | refine zaj ?_ | refine zag ?_ | fail); simp [hne, hne2, hij, Ne.symm hij, del, hbi, hbl, hlen])
  | (refine zaq ?_; simp only [zao])
  | (refine CallP.ok1 (hcp _ (by first | omega | simp <;> omega | fail)) (by first | (simp [hne, hne2, hij, Ne.symm hij, del, hbi, hbl, hlen, zaa, getK, zab, zac]; done) | fail) (by rfl) (by rfl) ⟨by first | assumption | (simp; done) | fail, by simp, ?_⟩; (try simp [hne, hne2, hij, Ne.symm hij, del, hbi, hbl, hlen]))
  | fail)
 (refine EndW.here ?_; (first | (refine EndOK.fin (.inr rfl) ?_) | (refine EndOK.fin (.inl rfl) ?_)); simp [zaJ, zah, Tryz.results53, hne, hne2, hi, hj, hij, Ne.symm hij]; refine FinOK.cut [(i, .box [.ptr i 0, .vec nx (l.length + s.length)]), (nx, .vec u8T 1 (rowsD (zd6 l) ++ rowsD (zd6 s)))] (nx + 1) (by simp [zaa, getK, zab, zac, Ob.under, D.under, zad, zae, hne, hne2, hi, hj, hij, Ne.symm hij] <;> omega) (by simp [D.under]) (by simp [hn]) ?_; try simp)
theorem zmF (s : W8) (i nx : Nat) (hi : i < nx) (hlen : s.length ≤ 140737488355328) :
  RetX Tryz.prog 53 [.ptr i 0, .u (.str s)] [(i, .nw bT)] nx
   (fun r o n => r = .val (.tup [.u (.int .i64 s.length), .u (.oth .nilIface)]) ∧ o = [(i, .box [.ptr i 0, .vec (nx + 1) s.length]), (nx + 1, .vec u8T 1 (zcn s))] ∧ n = nx + 2) := by
 have hne := zaB hi
 have hcp := fun nx' (h : nx ≤ nx') => zoW i nx' (by omega)
 have hbi := zlz
 have hca : zan Tryz.prog 108 = true := by kernel_rfl
 (refine RetX.of_bodyW Tryz.func53 rfl (by simp) fun Γ hn hpan => ?_); simp only [entry, ziC, ziN, maC, maN, oA, Tryz.ntmps53]
 repeat' (first
  | (refine zkb ?_; simp [zfA, hne, del, hbi, hlen])
  | ((first | refine zaf ?_ | refine zaj ?_ | refine zag ?_ | fail); simp [hne, del, hbi, hlen])
  | (refine zaq ?_; simp only [zao])
  | (refine CallP.okL (hcp _ (by first | omega | simp <;> omega | fail)) (by first | (simp [hne, del, hbi, hlen, zaa, getK, zab, zac, zak, zaK, del]; done) | fail) (by rfl) (by rfl) ⟨by first | assumption | (simp; done) | fail, by simp, ?_⟩; (try simp [hne, del, hbi, hlen, zc1, del]))
  | fail)
 (refine EndW.here ?_; (first | (refine EndOK.fin (.inr rfl) ?_) | (refine EndOK.fin (.inl rfl) ?_)); simp [zaJ, zah, Tryz.results53, hne, hi]; refine FinOK.cut [(i, .box [.ptr i 0, .vec (nx + 1) s.length]), (nx + 1, .vec u8T 1 (zcn s))] (nx + 2) (by simp [zaa, getK, zab, zac, Ob.under, D.under, zad, zae, hne, hi] <;> omega) (by simp [D.under]) (by simp [hn]) ?_; try simp)
def zb0 (ws : List W8) : W8 := zbg ws ++ [32, 59, 10]
theorem zno (l : W8) (ws : List W8) (i j nx : Nat) (hi : i < nx) (hj : j < nx) (hij : i ≠ j) (hlen : l.length + (zb0 ws).length ≤ 140737488355328) (hN : ws.length ≤ 140737488355328) :
  RetX Tryz.prog 52 [.u (.sl (ws.map fun w => [.str w])), .ptr i 0] [(i, .box [.ptr i 0, .vec j l.length]), (j, .vec u8T 1 (zcn l))] nx
   (fun r o n => r = .val (.tup []) ∧ o = [(i, .box [.ptr i 0, .vec nx (l ++ zb0 ws).length]), (nx, .vec u8T 1 (zcn (l ++ zb0 ws)))] ∧ n = nx + 1) := by
 have hne := zaB hi
 have hne2 := zaB hj
 have hjl : (zbg ws).length ≤ 140737488355328 := by simp only [zb0, List.length_append] at hlen; omega
 have hjn := zim ws hjl hN
 have hwr := fun nx' (h : nx ≤ nx') => zlG l (zb0 ws) i j nx' (by omega) (by omega) hij hlen
 have hca : zan Tryz.prog 53 = true := by kernel_rfl
 rw [List.length_append]
 have hlt : zbg ws ++ [32, 59, 10] = zb0 ws := rfl
 generalize zb0 ws = T at *
 clear hlen
 (refine RetX.of_bodyW Tryz.func52 rfl (by simp) fun Γ hn hpan => ?_); simp only [entry, ziC, ziN, maC, maN, oA, Tryz.ntmps52]
 repeat' (first
  | ((first | refine zaf ?_ | refine zaj ?_ | fail); simp [hne, hne2, hij, Ne.symm hij, del, hlt])
  | (refine ⟨by omega, ?_⟩)
  | (refine zat ?_; simp [hne, hne2, hij, Ne.symm hij, del, hlt])
  | (refine CallP.fE (hjn) (by first | rfl | fail) (by first | simp [hne, hne2, hij, Ne.symm hij, del, hlt] <;> rfl | fail) ⟨by first | assumption | (simp; done) | fail, by simp, ?_⟩; (try simp [hne, hne2, hij, Ne.symm hij, del, hlt]))
  | (refine CallP.okL (hwr _ (by first | omega | simp <;> omega | fail)) (by first | (simp [hne, hne2, hij, Ne.symm hij, del, hlt, zaa, getK, zab, zac, zak, zaK, del]; done) | fail) (by rfl) (by rfl) ⟨by first | assumption | (simp; done) | fail, by simp, ?_⟩; (try simp [hne, hne2, hij, Ne.symm hij, del, hlt, zc1, del]))
  | fail)
 (refine EndW.here ?_; (first | (refine EndOK.fin (.inr rfl) ?_) | (refine EndOK.fin (.inl rfl) ?_)); simp [zaJ, zah, Tryz.results52, hne, hne2, hi, hj, hij, Ne.symm hij]; refine FinOK.cut [(i, .box [.ptr i 0, .vec nx (l.length + T.length)]), (nx, .vec u8T 1 (zcn (l ++ T)))] (nx + 1) (by simp [zaa, getK, zab, zac, Ob.under, D.under, zad, zae, hne, hne2, hi, hj, hij, Ne.symm hij] <;> omega) (by simp [D.under]) (by simp [hn]) ?_; try simp)
theorem zgo (ws : List W8) (i nx : Nat) (hi : i < nx) (hlen : (zb0 ws).length ≤ 140737488355328) (hN : ws.length ≤ 140737488355328) :
  RetX Tryz.prog 52 [.u (.sl (ws.map fun w => [.str w])), .ptr i 0] [(i, .nw bT)] nx
   (fun r o n => r = .val (.tup []) ∧ o = [(i, .box [.ptr i 0, .vec (nx + 1) (zb0 ws).length]), (nx + 1, .vec u8T 1 (zcn (zb0 ws)))] ∧ n = nx + 2) := by
 have hne := zaB hi
 have hjl : (zbg ws).length ≤ 140737488355328 := by simp only [zb0, List.length_append] at hlen; omega
 have hjn := zim ws hjl hN
 have hwr := fun nx' (h : nx ≤ nx') => zmF (zb0 ws) i nx' (by omega) hlen
 have hca : zan Tryz.prog 53 = true := by kernel_rfl
 have hlt : zbg ws ++ [32, 59, 10] = zb0 ws := rfl
 generalize zb0 ws = T at *
 clear hlen
 (refine RetX.of_bodyW Tryz.func52 rfl (by simp) fun Γ hn hpan => ?_); simp only [entry, ziC, ziN, maC, maN, oA, Tryz.ntmps52]
 repeat' (first
  | ((first | refine zaf ?_ | refine zaj ?_ | fail); simp [hne, del, hlt])
  | (refine ⟨by omega, ?_⟩)
  | (refine zat ?_; simp [hne, del, hlt])
  | (refine CallP.fE (hjn) (by first | rfl | fail) (by first | simp [hne, del, hlt] <;> rfl | fail) ⟨by first | assumption | (simp; done) | fail, by simp, ?_⟩; (try simp [hne, del, hlt]))
  | (refine CallP.okL (hwr _ (by first | omega | simp <;> omega | fail)) (by first | (simp [hne, del, hlt, zaa, getK, zab, zac, zak, zaK, del]; done) | fail) (by rfl) (by rfl) ⟨by first | assumption | (simp; done) | fail, by simp, ?_⟩; (try simp [hne, del, hlt, zc1, del]))
  | fail)
 (refine EndW.here ?_; (first | (refine EndOK.fin (.inr rfl) ?_) | (refine EndOK.fin (.inl rfl) ?_)); simp [zaJ, zah, Tryz.results52, hne, hi]; refine FinOK.cut [(i, .box [.ptr i 0, .vec (nx + 1) T.length]), (nx + 1, .vec u8T 1 (zcn T))] (nx + 2) (by simp [zaa, getK, zab, zac, Ob.under, D.under, zad, zae, hne, hi] <;> omega) (by simp [D.under]) (by simp [hn]) ?_; try simp)
end Go.Proofs.YthnemhfamhnfjaaGreatDoor
namespace Go.Proofs.YthnemhfamhnfjaaGreatDoor
open Go Go.VL
attribute [local simp] zde zb7 evPure opd uOf zaF St.put St.at getK binD binI binS binB nilD aggD zhn ziD lookD lookR zcB Go.VL.nextD zcF ziQ ziP zgW zcz mkV zdB zbq zbB mapEff zev zgg Key.kk shiftI arith unD convD zeg loadD cellsAt fieldAddrD fieldD indexAddrD indexD sliceD cutD lenD minmaxD nilCheckD buildD fillD zbU zdn ze5 setAll zcU zff zcx zhN zct St.add zaR zbR rowsOf zd0 zcJ zak zac zaa za9 zcI zaP entry zbO zbY valD zb8 zcA zhf zdz zdA zb1 zbQ zax zaW zbu delAll effD St.effS zdj zbl za5 zdk zbm za7 zcl za6 zaV zcm zdh zbJ zci zbt zcg zch zaK mkD zbL zbC zbP zax zcv D.ids Op.operands Call.operands zbI makeIfD makeFuncD typeAssertD ziB zdR zdS zhX zcD IntKind.bits zcV List.take_of_length_le List.range_succ
attribute [local irreducible] V G H HD HD2 zao Eff CallP CallV EndOK Fun Ret FinOK LoopI LoopW EndW
abbrev zql (o : Opr) : D := .u (.agg [.str o.text, .int .i64 o.op, .int .i64 o.form])
abbrev zlW (l : List Opr) : U := .sl (l.map fun o => [.str o.text, .int .i64 o.op, .int .i64 o.form])
theorem zeh : Fun Tryz.prog 97 [] (· = .u (zlW oprs)) := by
 unfold zlW oprs
 (refine Fun.of_bodyW Tryz.func97 rfl (by simp) fun Γ hn => ?_); simp only [entry, ziC, ziN, maC, maN, oA, Tryz.ntmps97]
 repeat' (first
  | ((first | refine zaf ?_ | refine zaj ?_ | refine zag ?_ | fail); simp [zbY, zbO])
  | (refine zaq ?_; simp only [zao])
  | fail)
 (refine EndW.frzN 1 ?_; simp [frzN, frz1, zaA, zaz, St.frz, St.frzS, frzS, fv, zaE, zaY, za1, zaD, zas, zal, del, frz, za2])
 refine EndW.here ?_
 (refine EndOK.val (.inr rfl) ?_; simp [zaJ, zah, zau, Tryz.results97])
theorem zoT (l : List Tok) (q : Nat) (o : Opr) (hq : q < l.length) (hl : l.length ≤ 1000000) : Fun Tryz.prog 98 (zql o :: [U.row [zpo l q] 0].map .u) (· = .u (.bool (isB l q o.text))) := by
 have h1 := zdH l q o.text hq hl
 simp only [List.map_cons, List.map_nil, zql]
 (refine Fun.of_body Tryz.func98 rfl (by simp) fun Γ hn => ?_); simp only [entry, ziC, ziN, maC, maN, oA, Tryz.ntmps98]
 repeat' (first
  | ((first | refine zaf ?_ | refine zaj ?_ | refine zag ?_ | fail); simp)
  | (refine zaq ?_; simp only [zao])
  | (refine CallP.fE (h1) (by first | rfl | fail) (by first | (simp; done) | (simp; rfl) | fail) ?_; (try simp))
  | fail)
 (refine EndOK.val (.inr rfl) ?_; simp [zaJ, zah, zau, Tryz.results98])
theorem zhG (l : List (Opr)) (f : FuncId) (caps : List U) (p : Opr → Bool) (hf : ∀ n ∈ l, Fun Tryz.prog f (zql n :: caps.map .u) (· = .u (.bool (p n)))) (hcl : zan Tryz.prog f = true)
  (hca : ∀ o, zcA o (caps.map .u) = some (caps.map .u, [])) : Fun Tryz.prog 96 [.u (zlW l), .fnc (.func f) (caps.map .u)] (· = .u (.int .i64 (zhj p l 0))) := by
 (refine Fun.of_body Tryz.func96 rfl (by simp) fun Γ hn => ?_); simp only [entry, ziC, ziN, maC, maN, oA, Tryz.ntmps96]
 simp only [zlW]
 refine zj7 (x := 0) rfl fun hl => ?_
 simp at hl
 repeat' (first
  | ((first | refine zaf ?_ | refine zaj ?_ | refine zag ?_ | refine zav ?_ | fail); simp)
  | fail)
 refine zdg (α := { i : Nat // i ≤ l.length ∧ ∀ c ∈ l.take i, p c = false }) [0, 1, 7] (fun i => [(8, .u (.int .i64 i.1))]) (fun i => l.length - i.1) ⟨0, by omega, by simp⟩ ?_ ?_
 ·exact (Wk.env rfl rfl rfl (by simp [wkE, St.lp, zam, zaa, getK] <;> (try (intros; simp_all; done)) <;> (try (intros; omega)) <;> (try grind)))
 rintro ⟨i, hi, hb⟩
 simp [St.lp, St.only, zam, zaa, getK]
 rcases hx : l[i]? with _ | n
 ·have hge : l.length ≤ i := by simpa using hx
  repeat' (first
  | ((first | refine zaf ?_ | refine zaj ?_ | fail); simp [hx])
  | (refine ⟨by omega, ?_⟩)
  | (refine zag ?_; simp [hx])
  | (refine zaq ?_; simp only [zao])
  | (refine zbb ?_; simp [zao])
  | (intro hc <;> (try (exfalso; omega)))
  | fail)
  (refine EndOK.val (.inr rfl) ?_; simp [zaJ, zah, zau, Tryz.results96])
  rw [List.take_of_length_le hge] at hb
  exact (zfq hb).symm
 ·have hlt : i < l.length := (lGE.1 hx).1
  have h1 := hf n (List.mem_of_getElem? hx)
  simp only [zql] at h1
  cases hp : p n
  ·rw [hp] at h1
   repeat' (first
  | ((first | refine zaf ?_ | refine zaj ?_ | fail); simp [hx, hca])
  | (refine ⟨by omega, ?_⟩)
  | ((first | refine zag ?_ | refine zai ?_ | refine zat ?_ | fail); simp [hx, hca])
  | (refine zap ?_; simp only [zao])
  | (refine ⟨?_, by omega⟩)
  | (intro hc <;> (try (exfalso; omega)))
  | (refine CallP.fE (h1) (by first | rfl | fail) (by first | simp [hx, hca] <;> rfl | fail) ?_; (try simp [hcl, hx, hca]))
  | fail)
   refine LoopW.next ⟨i + 1, by omega, zbE hx hb hp⟩ (by simp; omega) ?_
   exact (Wk.env rfl rfl rfl (by simp [wkE, St.lp, zam, zaa, getK] <;> (try (intros; simp_all; done)) <;> (try (intros; omega)) <;> (try grind)))
  ·rw [hp] at h1
   repeat' (first
  | ((first | refine zaf ?_ | refine zaj ?_ | refine zag ?_ | refine zai ?_ | fail); simp [hx, hca])
  | ((first | refine zaq ?_ | refine zap ?_ | fail); simp only [zao])
  | (refine ⟨?_, by omega⟩)
  | (intro hc <;> (try (exfalso; omega)))
  | (refine CallP.fE (h1) (by first | rfl | fail) (by first | simp [hx, hca] <;> rfl | fail) ?_; (try simp [hcl, hx, hca]))
  | fail)
   (refine EndOK.val (.inr rfl) ?_; simp [zaJ, zah, zau, Tryz.results96])
   rw [zip hb hx hp]
   omega
theorem zfr {p : Opr → Bool} : ∀ (L : List Opr) (k : Int), (L.find? p = none → zhj p L k = -1) ∧ ∀ x, L.find? p = some x → ∃ j : Nat, L[j]? = some x ∧ zhj p L k = k + j
 | [], k => ⟨fun _ => rfl, fun x h => by simp at h⟩
 | a :: L, k => by
  by_cases h : p a = true
  ·refine ⟨fun h1 => by simp [h] at h1, fun x h1 => ?_⟩
   rw [List.find?_cons, h] at h1
   cases h1
   exact ⟨0, rfl, by rw [zhj, if_pos h]; simp⟩
  ·have h' : p a = false := by simpa using h
   obtain ⟨h1, h2⟩ := zfr L (k + 1)
   refine ⟨fun h3 => ?_, fun x h3 => ?_⟩
   ·rw [List.find?_cons, h'] at h3
    rw [zhj, if_neg h]
    exact h1 h3
   ·rw [List.find?_cons, h'] at h3
    obtain ⟨j, h4, h5⟩ := h2 x h3
    exact ⟨j + 1, h4, by rw [zhj, if_neg h, h5]; omega⟩
theorem zmj (l : List Tok) (q : Nat) (hq : q < l.length) (hl : l.length ≤ 1000000) : Fun Tryz.prog 96 [.u (zlW oprs), .fnc (.func 98) [.u (.row [zpo l q] 0)]]
  (· = .u (.int .i64 (zhj (fun o => isB l q o.text) oprs 0))) :=
 zhG oprs 98 [U.row [zpo l q] 0] (fun o => isB l q o.text) (fun o _ => zoT l q o hq hl) rfl (fun o => rfl)
end Go.Proofs.YthnemhfamhnfjaaGreatDoor
namespace Go.Proofs.YthnemhfamhnfjaaGreatDoor
open Go Go.VL
attribute [local simp] HS zde zb7 evPure opd uOf zaF St.put St.at getK binD binI binS binB nilD aggD zhn ziD lookD lookR zcB Go.VL.nextD zcF ziQ ziP zgW zcz mkV zdB zbq zbB mapEff zev zgg Key.kk shiftI arith unD convD zeg loadD cellsAt fieldAddrD fieldD indexAddrD indexD sliceD cutD lenD minmaxD nilCheckD buildD fillD zbU zdn ze5 setAll zcU zff zcx zhN zct St.add zaR zbR rowsOf zd0 zcJ zak zac zaa za9 zcI zaP entry zbO zbY valD zb8 zcA zhf zdz zdA zb1 zbQ zax zaW zbu delAll effD St.effS zdj zbl za5 zdk zbm za7 zcl za6 zaV zcm zdh zbJ zci zbt zcg zch zaK mkD zbL zbC zbP zax zcv D.ids Op.operands Call.operands zbI makeIfD makeFuncD typeAssertD ziB zdR zdS zhX zcD IntKind.bits zcV List.take_of_length_le List.range_succ
attribute [local irreducible] V G H HD HD2 HD4 zmC RetX zao Eff CallP CallV EndOK Fun Ret FinOK LoopI LoopW EndW
theorem zqy {l : List Tok} {F : FuncId} {r : PR (Exp × Int)} {e : Exp × Int} {q i nx : Nat} {ds : List D} {obs : List (Nat × Ob)} (h : RetX Tryz.prog F ds obs nx (PPost l i nx zjp r)) (hr : r = .ok e q) :
  RetX Tryz.prog F ds obs nx fun r o n => r = .val (.tup [.u (.agg [.int .i64 e.1.op, .int .i64 e.1.n, .int .i64 e.1.unit, .str e.1.s, .sl (e.1.args.map Exp.row)]), .u (.int .i64 e.2)]) ∧ o = [(i, pOb l q)] ∧ n = nx := by
 subst hr
 rw [← Exp.row_eq]
 exact h
abbrev zrs (e : Exp) : Ob := .box [.u (.int .i64 e.op), .u (.int .i64 e.n), .u (.int .i64 e.unit), .u (.str e.s), .u (.sl (e.args.map Exp.row))]
theorem zoS {l : List Tok} (hl : TokOK l) {f : Nat} (hE : ∀ g, g < f → zhc l g) (hP : zqb l f) : zhc l (f + 1) := by
 intro p form i nx hi hp hf hm0 hm7
 have hne := zaB hi
 have hll := hl.len
 rw [zdI]
 have ha := fun nx' (h : nx ≤ nx') => hP p form i nx' (by omega) hp (by omega) hm0 hm7
 have hop := zeh
 cases hr0 : zbo l f p form with
 | stop pos e =>
  simp only [hr0] at ha
  (refine RetX.of_bodyW Tryz.func41 rfl (by simp) fun Γ hn hpan => ?_); simp only [entry, ziC, ziN, maC, maN, oA, Tryz.ntmps41]
  repeat' (first
  | ((first | refine zaf ?_ | refine zaj ?_ | refine zag ?_ | fail); simp [hne, del, nAA])
  | (refine CallP.zd8 (ha _ (by first | omega | simp <;> omega | fail)) (by first | (simp [hne, del, nAA, zaa, getK, zab, zac]; done) | fail) (by rfl) (by first | assumption | (simp; done) | fail) (by rfl) (by simp) ?_; rintro ob' ⟨q', rfl⟩; refine ⟨_, Wk.refl _, ?_⟩)
  | fail)
  (refine hpan _ _ ⟨{ n := _, env := [], obs := [(i, pOb l q')], next := nx }, (Wk.cut rfl (by simp [hn]) (by simp [wkO, zaa, getK, zab, zac, Ob.under, D.under, zad, zae, hi, hne, zab, zac, zaa, getK]) (by simp [wkU, zam, zaa, getK, D.under, hi, hne, zab, zac, zaa, getK]) (by simp [wkE, zam, zaa, getK, hi, hne, zab, zac, zaa, getK])), by simp [hn], ?_⟩; try simp)
  exact PPost.zay (by simp [PR.bind, *])
 | ok v0 q0 =>
  have ha := fun nx' h => zqy (ha nx' h) hr0
  obtain ⟨g0a, g0b⟩ := (zbV hl f).2.2.1 _ _ _ _ hr0 hp
  generalize hR : (PR.ok v0 q0).bind (fun e q => zel l f form e.1 e.2 q) = R
  have hR' : R = zel l f form v0.1 v0.2 q0 := hR.symm
  (refine RetX.of_bodyW Tryz.func41 rfl (by simp) fun Γ hn hpan => ?_); simp only [entry, ziC, ziN, maC, maN, oA, Tryz.ntmps41]
  repeat' (first
  | ((first | refine zaf ?_ | refine zaj ?_ | refine zag ?_ | refine zav ?_ | fail); simp [hne, del, nAA])
  | (refine CallP.ok1 (ha _ (by first | omega | simp <;> omega | fail)) (by first | (simp [hne, del, nAA, zaa, getK, zab, zac]; done) | fail) (by rfl) (by rfl) ?_; (try simp [hne, del, nAA]))
  | fail)
  refine zcW (α := { x : Exp × Int × Nat × Nat // x.2.2.1 < l.length ∧ 4 * (l.length - x.2.2.1) + 2 ≤ x.2.2.2 ∧ x.2.2.2 ≤ f ∧ R = zel l x.2.2.2 form x.1 x.2.1 x.2.2.1 }) [0, 1, 2, 4, 5] (fun x => [(6, .u (.int .i64 x.1.2.1))])
   (fun x => [(nx + 2, zrs x.1.1), (nx + 1, .box [.u (.int .i64 0), .u (.int .i64 0), .u (.int .i64 0), .u (.str []), .u .nil]), (nx, .box [.ptr i 0]), (i, pOb l x.1.2.2.1)]) (nx + 3) (fun x => x.1.2.2.2) ⟨(v0.1, v0.2, q0, f), g0b, (by show 4 * (l.length - q0) + 2 ≤ f; omega), (by show f ≤ f; omega), hR'⟩ ?_ ?_
  ·have hi3 : i < nx + 3 := by omega
   exact (Wk.cut rfl (by simp [hn, St.lp]) (by simp [wkO, St.lp, zaa, getK, Ob.under, D.under, zad, zae, hi, hi3, hne]) (by simp [wkU, St.lp, zam, zaa, getK, D.under, hi, hi3, hne]) (by simp [wkE, St.lp, zam, zaa, getK, hi, hi3, hne] <;> (try (intros; simp_all; done)) <;> (try (intros; omega)) <;> (try grind)))
  rintro ⟨⟨e, own, q, g⟩, h1, h2, h2b, h3⟩
  simp only at h1 h2 h2b h3
  simp [St.lp, St.only, zam, zaa, getK]
  obtain ⟨g, rfl⟩ : ∃ g', g = g' + 1 := ⟨g - 1, by omega⟩
  rw [zel] at h3
  have hix := zmj l q h1 hl.len
  cases hx : zqz l q with
  | none =>
   rw [(zfr oprs 0).1 hx] at hix
   rw [hx] at h3
   repeat' (first
  | ((first | refine zaf ?_ | refine zaj ?_ | refine zag ?_ | refine zai ?_ | refine zav ?_ | fail); simp [hne, del, nAA])
  | (refine zaq ?_; simp only [zao])
  | (refine CallP.fE (hop) (by first | rfl | fail) (by first | simp [hne, del, nAA] <;> rfl | fail) ?_; (try simp [hne, del, nAA]))
  | (refine CallP.fE (hix) (by first | rfl | fail) (by first | simp [hne, del, nAA] <;> rfl | fail) ?_; (try simp [hne, del, nAA]))
  | fail)
   refine EndW.norm ?_
   simp [St.norm, zbh, zbZ, zcj, zck, hne, nAA]
   (refine EndW.here ?_; (first | (refine EndOK.fin (.inr rfl) ?_) | (refine EndOK.fin (.inl rfl) ?_)); simp [zaJ, zah, Tryz.results41, hne, hi]; refine FinOK.cut [(i, pOb l q)] (nx) (by simp [zaa, getK, zab, zac, Ob.under, D.under, zad, zae, hne, hi] <;> omega) (by simp [D.under]) (by simp [hn]) ?_; try simp)
   exact PPost.zcf h3 (by simp [Exp.row_eq]) rfl
  | some x =>
   obtain ⟨k, hk1, hk2⟩ := (zfr oprs 0).2 x hx
   rw [hk2] at hix
   rw [hx] at h3
   simp only at h3
   have hqb := zba hl (by have := List.find?_some (p := fun o : Opr => isB l q o.text) hx; exact this)
   have hk0 : ¬ ((k : Int) < 0) := by omega
   have hkl : k < 8 := (lGE.1 hk1).1
   rw [show (0 : Int) + k = (k : Int) by omega] at hix
   have hfm : 0 ≤ x.form ∧ x.form ≤ 6 := by
    have := List.mem_of_getElem? hk1
    simp only [oprs, List.mem_cons, List.not_mem_nil, or_false] at this
    rcases this with rfl | rfl | rfl | rfl | rfl | rfl | rfl | rfl <;> decide
   obtain ⟨hf0, hf6⟩ := hfm
   generalize hL : oprs = L at hop hix hk1
   by_cases c1 : x.form < form
   ·rw [if_pos (Or.inl c1)] at h3
    repeat' (first
  | ((first | refine zaf ?_ | refine zaj ?_ | refine zag ?_ | refine zai ?_ | refine zav ?_ | fail); simp [hne, del, nAA, hk0, hk1, c1])
  | ((first | refine zaq ?_ | refine zap ?_ | fail); simp only [zao])
  | (refine CallP.fE (hop) (by first | rfl | fail) (by first | simp [hne, del, nAA, hk0, hk1, c1] <;> rfl | fail) ?_; (try simp [hne, del, nAA, hk0, hk1, c1]))
  | (refine CallP.fE (hix) (by first | rfl | fail) (by first | simp [hne, del, nAA, hk0, hk1, c1] <;> rfl | fail) ?_; (try simp [hne, del, nAA, hk0, hk1, c1]))
  | fail)
    refine EndW.norm ?_
    simp [St.norm, zbh, zbZ, zcj, zck, hne, nAA]
    (refine EndW.here ?_; (first | (refine EndOK.fin (.inr rfl) ?_) | (refine EndOK.fin (.inl rfl) ?_)); simp [zaJ, zah, Tryz.results41, hne, hi]; refine FinOK.cut [(i, pOb l q)] (nx) (by simp [zaa, getK, zab, zac, Ob.under, D.under, zad, zae, hne, hi] <;> omega) (by simp [D.under]) (by simp [hn]) ?_; try simp)
    exact PPost.zcf h3 (by simp [Exp.row_eq]) rfl
   ·by_cases c2 : own < x.form
    ·rw [if_pos (Or.inr (Or.inl c2))] at h3
     repeat' (first
  | ((first | refine zaf ?_ | refine zaj ?_ | refine zag ?_ | refine zai ?_ | refine zav ?_ | fail); simp [hne, del, nAA, hk0, hk1, c1, c2])
  | ((first | refine zaq ?_ | refine zap ?_ | fail); simp only [zao])
  | (refine CallP.fE (hop) (by first | rfl | fail) (by first | simp [hne, del, nAA, hk0, hk1, c1, c2] <;> rfl | fail) ?_; (try simp [hne, del, nAA, hk0, hk1, c1, c2]))
  | (refine CallP.fE (hix) (by first | rfl | fail) (by first | simp [hne, del, nAA, hk0, hk1, c1, c2] <;> rfl | fail) ?_; (try simp [hne, del, nAA, hk0, hk1, c1, c2]))
  | fail)
     refine EndW.norm ?_
     simp [St.norm, zbh, zbZ, zcj, zck, hne, nAA]
     (refine EndW.here ?_; (first | (refine EndOK.fin (.inr rfl) ?_) | (refine EndOK.fin (.inl rfl) ?_)); simp [zaJ, zah, Tryz.results41, hne, hi]; refine FinOK.cut [(i, pOb l q)] (nx) (by simp [zaa, getK, zab, zac, Ob.under, D.under, zad, zae, hne, hi] <;> omega) (by simp [D.under]) (by simp [hn]) ?_; try simp)
     exact PPost.zcf h3 (by simp [Exp.row_eq]) rfl
    ·by_cases c3 : own = 4 ∧ x.form = 4
     ·rw [if_pos (Or.inr (Or.inr c3))] at h3
      obtain ⟨c4, c5⟩ := c3
      repeat' (first
  | ((first | refine zaf ?_ | refine zaj ?_ | refine zag ?_ | refine zai ?_ | refine zav ?_ | fail); simp [hne, del, nAA, hk0, hk1, c1, c2, c4, c5])
  | ((first | refine zaq ?_ | refine zap ?_ | fail); simp only [zao])
  | (refine ⟨?_, by omega⟩)
  | (intro hc <;> (try (exfalso; omega)))
  | (refine CallP.fE (hop) (by first | rfl | fail) (by first | simp [hne, del, nAA, hk0, hk1, c1, c2, c4, c5] <;> rfl | fail) ?_; (try simp [hne, del, nAA, hk0, hk1, c1, c2, c4, c5]))
  | (refine CallP.fE (hix) (by first | rfl | fail) (by first | simp [hne, del, nAA, hk0, hk1, c1, c2, c4, c5] <;> rfl | fail) ?_; (try simp [hne, del, nAA, hk0, hk1, c1, c2, c4, c5]))
  | fail)
      refine EndW.norm ?_
      simp [St.norm, zbh, zbZ, zcj, zck, hne, nAA]
      (refine EndW.here ?_; (first | (refine EndOK.fin (.inr rfl) ?_) | (refine EndOK.fin (.inl rfl) ?_)); simp [zaJ, zah, Tryz.results41, hne, hi]; refine FinOK.cut [(i, pOb l q)] (nx) (by simp [zaa, getK, zab, zac, Ob.under, D.under, zad, zae, hne, hi] <;> omega) (by simp [D.under]) (by simp [hn]) ?_; try simp)
      exact PPost.zcf h3 (by simp [Exp.row_eq]) rfl
     ·rw [if_neg (by rintro (h | h | h) <;> contradiction)] at h3
      have hb := fun nx' (h : nx ≤ nx') => hE g (by omega) (q + 1) (x.form + 1) i nx' (by omega) hqb (by omega) (by omega) (by omega)
      cases hr1 : zdI l g (q + 1) (x.form + 1) with
      | stop pos err =>
       simp only [hr1] at hb
       rw [hr1] at h3
       by_cases c4 : own = 4
       ·have c5 : ¬ x.form = 4 := fun h => c3 ⟨c4, h⟩
        repeat' (first
  | (refine zfB (fun nx' h' => hb nx' (by simp at h'; omega)) (by first | (simp [hne, del, nAA, hk0, hk1, c1, c2, c4, c5, zaa, getK, zab, zac, zak, zaK]; done) | fail) (by rfl) (by first | assumption | simp) (by rfl) (by simp) ?_ ?_; rintro env' ob' n' hn' ⟨q', rfl⟩; refine ⟨_, Wk.refl _, ?_⟩)
  | (refine zeQ rfl (by simp) ?_; simp)
  | ((first | refine zaf ?_ | refine zaO rfl ?_ | refine zaj ?_ | fail); simp [hne, del, nAA, hk0, hk1, c1, c2, c4, c5])
  | (refine ⟨by omega, ?_⟩)
  | ((first | refine zag ?_ | refine zai ?_ | fail); simp [hne, del, nAA, hk0, hk1, c1, c2, c4, c5])
  | (refine zfC (hC _ (zcc [i] nx (by simp <;> omega) (by simp <;> omega) (by apply Exists.intro; apply And.intro; (focus (repeat' (first | exact KF.nil | exact KL.nil | apply KF.cons | apply KL.cons 0 rfl | apply KL.cons 1 rfl | apply KL.cons 2 rfl | apply KL.cons 3 rfl | apply KL.cons 4 rfl | apply KL.cons 5 rfl | apply KL.cons 6 rfl | apply KL.cons 7 rfl | apply KL.cons 8 rfl | apply KL.cons 9 rfl))); kernel_rfl))) rfl; done)
  | (refine za0 rfl (by kernel_rfl) (by first | (simp [hn]; done) | (simp [hn]; omega) | fail) fun C k hC hk => ?_; simp [hne, del, nAA, hk0, hk1, c1, c2, c4, c5])
  | (refine zav ?_; simp [hne, del, nAA, hk0, hk1, c1, c2, c4, c5])
  | (refine zap ?_; simp only [zao])
  | (refine ⟨?_, by omega⟩)
  | (intro hc <;> (try (exfalso; omega)))
  | (refine CallP.fE (hop) (by first | rfl | fail) (by first | simp [hne, del, nAA, hk0, hk1, c1, c2, c4, c5] <;> rfl | fail) ?_; (try simp [hne, del, nAA, hk0, hk1, c1, c2, c4, c5]))
  | (refine CallP.fE (hix) (by first | rfl | fail) (by first | simp [hne, del, nAA, hk0, hk1, c1, c2, c4, c5] <;> rfl | fail) ?_; (try simp [hne, del, nAA, hk0, hk1, c1, c2, c4, c5]))
  | fail)
        (refine hpan _ _ ⟨{ n := _, env := [], obs := [(i, pOb l q')], next := nx }, (Wk.cut rfl (by simp [hn]) (by simp [wkO, zaa, getK, zab, zac, Ob.under, D.under, zad, zae, hi, hne, zab, zac, zaa, getK]) (by simp [wkU, zam, zaa, getK, D.under, hi, hne, zab, zac, zaa, getK]) (by simp [wkE, zam, zaa, getK, hi, hne, zab, zac, zaa, getK])), by simp [hn], ?_⟩; try simp)
        exact PPost.zay h3
       ·repeat' (first
  | (refine zfB (fun nx' h' => hb nx' (by simp at h'; omega)) (by first | (simp [hne, del, nAA, hk0, hk1, c1, c2, c4, zaa, getK, zab, zac, zak, zaK]; done) | fail) (by rfl) (by first | assumption | simp) (by rfl) (by simp) ?_ ?_; rintro env' ob' n' hn' ⟨q', rfl⟩; refine ⟨_, Wk.refl _, ?_⟩)
  | (refine zeQ rfl (by simp) ?_; simp)
  | ((first | refine zaf ?_ | refine zaO rfl ?_ | refine zaj ?_ | fail); simp [hne, del, nAA, hk0, hk1, c1, c2, c4])
  | (refine ⟨by omega, ?_⟩)
  | ((first | refine zag ?_ | refine zai ?_ | fail); simp [hne, del, nAA, hk0, hk1, c1, c2, c4])
  | (refine zfC (hC _ (zcc [i] nx (by simp <;> omega) (by simp <;> omega) (by apply Exists.intro; apply And.intro; (focus (repeat' (first | exact KF.nil | exact KL.nil | apply KF.cons | apply KL.cons 0 rfl | apply KL.cons 1 rfl | apply KL.cons 2 rfl | apply KL.cons 3 rfl | apply KL.cons 4 rfl | apply KL.cons 5 rfl | apply KL.cons 6 rfl | apply KL.cons 7 rfl | apply KL.cons 8 rfl | apply KL.cons 9 rfl))); kernel_rfl))) rfl; done)
  | (refine za0 rfl (by kernel_rfl) (by first | (simp [hn]; done) | (simp [hn]; omega) | fail) fun C k hC hk => ?_; simp [hne, del, nAA, hk0, hk1, c1, c2, c4])
  | (refine zav ?_; simp [hne, del, nAA, hk0, hk1, c1, c2, c4])
  | (refine zap ?_; simp only [zao])
  | (refine CallP.fE (hop) (by first | rfl | fail) (by first | simp [hne, del, nAA, hk0, hk1, c1, c2, c4] <;> rfl | fail) ?_; (try simp [hne, del, nAA, hk0, hk1, c1, c2, c4]))
  | (refine CallP.fE (hix) (by first | rfl | fail) (by first | simp [hne, del, nAA, hk0, hk1, c1, c2, c4] <;> rfl | fail) ?_; (try simp [hne, del, nAA, hk0, hk1, c1, c2, c4]))
  | fail)
        (refine hpan _ _ ⟨{ n := _, env := [], obs := [(i, pOb l q')], next := nx }, (Wk.cut rfl (by simp [hn]) (by simp [wkO, zaa, getK, zab, zac, Ob.under, D.under, zad, zae, hi, hne, zab, zac, zaa, getK]) (by simp [wkU, zam, zaa, getK, D.under, hi, hne, zab, zac, zaa, getK]) (by simp [wkE, zam, zaa, getK, hi, hne, zab, zac, zaa, getK])), by simp [hn], ?_⟩; try simp)
        exact PPost.zay h3
      | ok e2 q2 =>
       have hb := fun nx' h => zcL (hb nx' h) hr1
       obtain ⟨g1a, g1b⟩ := (zbV hl g).1 _ _ _ _ hr1 hqb
       rw [hr1] at h3
       by_cases c4 : own = 4
       ·have c5 : ¬ x.form = 4 := fun h => c3 ⟨c4, h⟩
        repeat' (first
  | (refine zhb (fun nx' h' => hb nx' (by simp at h'; omega)) (by first | (simp [hne, del, nAA, hk0, hk1, c1, c2, c4, c5, zaa, getK, zab, zac, zak, zaK]; done) | fail) (by rfl) (by first | assumption | simp) (by rfl) (by simp [D.under, Ob.under]) (by simp) ?_; (try simp [hne, del, nAA, hk0, hk1, c1, c2, c4, c5]))
  | ((first | refine zaf ?_ | refine zaO rfl ?_ | refine za3 rfl ?_ | refine zaj ?_ | fail); simp [hne, del, nAA, hk0, hk1, c1, c2, c4, c5])
  | (refine ⟨by omega, ?_⟩)
  | ((first | refine zag ?_ | refine zai ?_ | fail); simp [hne, del, nAA, hk0, hk1, c1, c2, c4, c5])
  | (refine zaX (hC _ (zcc [i] nx (by simp <;> omega) (by simp <;> omega) (by apply Exists.intro; apply And.intro; (focus (repeat' (first | exact KF.nil | exact KL.nil | apply KF.cons | apply KL.cons 0 rfl | apply KL.cons 1 rfl | apply KL.cons 2 rfl | apply KL.cons 3 rfl | apply KL.cons 4 rfl | apply KL.cons 5 rfl | apply KL.cons 6 rfl | apply KL.cons 7 rfl | apply KL.cons 8 rfl | apply KL.cons 9 rfl))); kernel_rfl))) (hk _ ?_); clear hC hk C k; simp only [zao])
  | (refine za0 rfl (by kernel_rfl) (by first | (simp [hn]; done) | (simp [hn]; omega) | fail) fun C k hC hk => ?_; simp [hne, del, nAA, hk0, hk1, c1, c2, c4, c5])
  | ((first | refine zav ?_ | refine zat ?_ | fail); simp [hne, del, nAA, hk0, hk1, c1, c2, c4, c5])
  | (refine zap ?_; simp only [zao])
  | (refine ⟨?_, by omega⟩)
  | (intro hc <;> (try (exfalso; omega)))
  | (refine CallP.fE (hop) (by first | rfl | fail) (by first | simp [hne, del, nAA, hk0, hk1, c1, c2, c4, c5] <;> rfl | fail) ?_; (try simp [hne, del, nAA, hk0, hk1, c1, c2, c4, c5]))
  | (refine CallP.fE (hix) (by first | rfl | fail) (by first | simp [hne, del, nAA, hk0, hk1, c1, c2, c4, c5] <;> rfl | fail) ?_; (try simp [hne, del, nAA, hk0, hk1, c1, c2, c4, c5]))
  | fail)
        have hi3 : i < nx + 3 := by omega
        refine LoopW.next ⟨(.mk x.op 0 0 [] [e, e2], x.form, q2, g), g1b, (by show 4 * (l.length - q2) + 2 ≤ g; omega), (by show g ≤ f; omega), h3⟩ (by show g < g + 1; omega) ?_
        refine Wk.trans (Wk.frzN 1 _) ?_
        simp [hne, nAA, frzN, frz1, zaA, zaz, St.frz, St.frzS, frzS, fv, zaE, zaY, za1, zaD, zas, zal, del, frz, za2]
        exact (Wk.cut rfl (by simp [hn, St.lp]) (by simp [wkO, St.lp, zaa, getK, Ob.under, D.under, zad, zae, hi, hi3, hne, Exp.row_eq, Exp.op, Exp.n, Exp.unit, Exp.s, Exp.args]) (by simp [wkU, St.lp, zam, zaa, getK, D.under, hi, hi3, hne, Exp.row_eq, Exp.op, Exp.n, Exp.unit, Exp.s, Exp.args]) (by simp [wkE, St.lp, zam, zaa, getK, hi, hi3, hne, Exp.row_eq, Exp.op, Exp.n, Exp.unit, Exp.s, Exp.args] <;> (try (intros; simp_all; done)) <;> (try (intros; omega)) <;> (try grind)))
       ·repeat' (first
  | (refine zhb (fun nx' h' => hb nx' (by simp at h'; omega)) (by first | (simp [hne, del, nAA, hk0, hk1, c1, c2, c4, zaa, getK, zab, zac, zak, zaK]; done) | fail) (by rfl) (by first | assumption | simp) (by rfl) (by simp [D.under, Ob.under]) (by simp) ?_; (try simp [hne, del, nAA, hk0, hk1, c1, c2, c4]))
  | ((first | refine zaf ?_ | refine zaO rfl ?_ | refine za3 rfl ?_ | refine zaj ?_ | fail); simp [hne, del, nAA, hk0, hk1, c1, c2, c4])
  | (refine ⟨by omega, ?_⟩)
  | ((first | refine zag ?_ | refine zai ?_ | fail); simp [hne, del, nAA, hk0, hk1, c1, c2, c4])
  | (refine zaX (hC _ (zcc [i] nx (by simp <;> omega) (by simp <;> omega) (by apply Exists.intro; apply And.intro; (focus (repeat' (first | exact KF.nil | exact KL.nil | apply KF.cons | apply KL.cons 0 rfl | apply KL.cons 1 rfl | apply KL.cons 2 rfl | apply KL.cons 3 rfl | apply KL.cons 4 rfl | apply KL.cons 5 rfl | apply KL.cons 6 rfl | apply KL.cons 7 rfl | apply KL.cons 8 rfl | apply KL.cons 9 rfl))); kernel_rfl))) (hk _ ?_); clear hC hk C k; simp only [zao])
  | (refine za0 rfl (by kernel_rfl) (by first | (simp [hn]; done) | (simp [hn]; omega) | fail) fun C k hC hk => ?_; simp [hne, del, nAA, hk0, hk1, c1, c2, c4])
  | ((first | refine zav ?_ | refine zat ?_ | fail); simp [hne, del, nAA, hk0, hk1, c1, c2, c4])
  | (refine zap ?_; simp only [zao])
  | (refine CallP.fE (hop) (by first | rfl | fail) (by first | simp [hne, del, nAA, hk0, hk1, c1, c2, c4] <;> rfl | fail) ?_; (try simp [hne, del, nAA, hk0, hk1, c1, c2, c4]))
  | (refine CallP.fE (hix) (by first | rfl | fail) (by first | simp [hne, del, nAA, hk0, hk1, c1, c2, c4] <;> rfl | fail) ?_; (try simp [hne, del, nAA, hk0, hk1, c1, c2, c4]))
  | fail)
        have hi3 : i < nx + 3 := by omega
        refine LoopW.next ⟨(.mk x.op 0 0 [] [e, e2], x.form, q2, g), g1b, (by show 4 * (l.length - q2) + 2 ≤ g; omega), (by show g ≤ f; omega), h3⟩ (by show g < g + 1; omega) ?_
        refine Wk.trans (Wk.frzN 1 _) ?_
        simp [hne, nAA, frzN, frz1, zaA, zaz, St.frz, St.frzS, frzS, fv, zaE, zaY, za1, zaD, zas, zal, del, frz, za2]
        exact (Wk.cut rfl (by simp [hn, St.lp]) (by simp [wkO, St.lp, zaa, getK, Ob.under, D.under, zad, zae, hi, hi3, hne, Exp.row_eq, Exp.op, Exp.n, Exp.unit, Exp.s, Exp.args]) (by simp [wkU, St.lp, zam, zaa, getK, D.under, hi, hi3, hne, Exp.row_eq, Exp.op, Exp.n, Exp.unit, Exp.s, Exp.args]) (by simp [wkE, St.lp, zam, zaa, getK, hi, hi3, hne, Exp.row_eq, Exp.op, Exp.n, Exp.unit, Exp.s, Exp.args] <;> (try (intros; simp_all; done)) <;> (try (intros; omega)) <;> (try grind)))
end Go.Proofs.YthnemhfamhnfjaaGreatDoor
namespace Go.VL
open Go
/-- A slice within a struct that came in has a length that an int holds. -/
theorem zoa {P : Program} {Γ : Ctx} {c : Code} {s : St} {Q : Exit → St → Prop} {x j : Nat} {cells : List U} {rows : List (List U)} (hx : getK s.env x = some (.u (.agg cells))) (hj : cells[j]? = some (.sl rows)) (h : rows.length ≤ 9223372036854775807 → V P Γ c s Q) : V P Γ c s Q :=
 zpA (fun K a w hs => by
  have hr := (hs.getK hx).2
  obtain ⟨vs, hl, _, hr⟩ := zef hr
  have hr := hr j _ hj
  generalize vs.getD j undef = v at hr
  cases hr with
  | slE => simp
  | sl _ b o sz c f hc hcx => unfold maxLen at hcx; omega) h
end Go.VL
namespace Go.Proofs.YthnemhfamhnfjaaGreatDoor
open Go Go.VL
attribute [local simp] zde zb7 evPure opd uOf zaF St.put St.at getK binD binI binS binB nilD aggD zhn ziD lookD lookR zcB Go.VL.nextD zcF ziQ ziP zgW zcz mkV zdB zbq zbB mapEff zev zgg Key.kk shiftI arith unD convD zeg loadD cellsAt fieldAddrD fieldD indexAddrD indexD sliceD cutD lenD minmaxD nilCheckD buildD fillD zbU zdn ze5 setAll zcU zff zcx zhN zct St.add zaR zbR rowsOf zd0 zcJ zak zac zaa za9 zcI zaP entry zbO zbY valD zb8 zcA zhf zdz zdA zb1 zbQ zax zaW zbu delAll effD St.effS zdj zbl za5 zdk zbm za7 zcl za6 zaV zcm zdh zbJ zci zbt zcg zch zaK mkD zbL zbC zbP zax zcv D.ids Op.operands Call.operands zbI makeIfD makeFuncD typeAssertD ziB zdR zdS zhX zcD IntKind.bits zcV List.take_of_length_le List.range_succ
attribute [local irreducible] V G H HD HD2 zao Eff CallP CallV EndOK Fun Ret FinOK LoopI LoopW EndW
theorem zjl {l : List Tok} (hl : TokOK l) : ∀ f, zhc l f ∧ zqb l f ∧ zhS l f := by
 intro f
 induction f using Nat.strongRecOn with
 | _ f ih =>
  cases f with
  | zero => exact ⟨fun p form i nx _ _ h => by omega, fun p form i nx _ _ h => by omega, fun p i nx _ _ h => by omega⟩
  | succ f =>
   obtain ⟨h1, h2, h3⟩ := ih f (by omega)
   exact ⟨zoS hl (fun g hg => (ih g (by omega)).1) h2, zkp hl h1 h3, zjf hl h1⟩
def Exp.lev : Exp → Int
 | .mk _ _ _ _ args => (args.map fun e => e.lev).foldl max 0 + 1
theorem Exp.zhd (e : Exp) : e.lev = (e.args.map Exp.lev).foldl max 0 + 1 := by
 cases e with
 | mk op n u s args => rw [Exp.lev]; rfl
theorem zcd : ∀ (l : List Int) (a : Int), a ≤ l.foldl max a ∧ ∀ x ∈ l, x ≤ l.foldl max a
 | [], a => ⟨by simp, fun x h => by simp at h⟩
 | b :: l, a => by
  obtain ⟨h1, h2⟩ := zcd l (max a b)
  refine ⟨by simp only [List.foldl_cons]; omega, fun x hx => ?_⟩
  rcases List.mem_cons.1 hx with rfl | hx
  ·simp only [List.foldl_cons]; omega
  ·exact h2 x hx
theorem Exp.lev_pos (e : Exp) : 1 ≤ e.lev := by
 rw [Exp.zhd]
 have := (zcd (e.args.map Exp.lev) 0).1
 omega
theorem Exp.zfh {e x : Exp} (h : x ∈ e.args) : SizeOf.sizeOf x < SizeOf.sizeOf e := by
 cases e with
 | mk op n u s args =>
  have := List.sizeOf_lt_of_mem h
  simp only [Exp.args] at this
  simp only [Exp.mk.sizeOf_spec]
  omega
theorem zhD : ∀ (n : Nat) (e : Exp), SizeOf.sizeOf e ≤ n → e.lev ≤ 1000000000 → Fun Tryz.prog 44 [.u (.agg e.row)] (· = .u (.int .i64 e.lev)) := by
 intro n
 induction n with
 | zero =>
  intro e h
  cases e with
  | mk op n u s args => simp only [Exp.mk.sizeOf_spec] at h; omega
 | succ n ih =>
  intro e hs he
  have hx : ∀ x ∈ e.args, Fun Tryz.prog 44 [.u (.agg [.int .i64 x.op, .int .i64 x.n, .int .i64 x.unit, .str x.s, .sl (x.args.map Exp.row)])] (· = .u (.int .i64 x.lev)) := fun x hx => by
   rw [← Exp.row_eq]
   refine ih x (by have := Exp.zfh hx; omega) ?_
   have := (zcd (e.args.map Exp.lev) 0).2 x.lev (List.mem_map.2 ⟨x, hx, rfl⟩)
   rw [Exp.zhd] at he
   omega
  have hlb : ∀ k, ((e.args.map Exp.lev).take k).foldl max 0 ≤ 1000000000 := fun k => by
   rw [← List.map_take]
   rw [Exp.zhd] at he
   have h2 : (e.args.map Exp.lev).foldl max 0 = (e.args.drop k |>.map Exp.lev).foldl max ((e.args.take k |>.map Exp.lev).foldl max 0) := by
    rw [← List.foldl_append, ← List.map_append, List.take_append_drop]
   have := (zcd (e.args.drop k |>.map Exp.lev) ((e.args.take k |>.map Exp.lev).foldl max 0)).1
   omega
  rw [Exp.row_eq, Exp.zhd]
  generalize hA : e.args = A at *
  rw [Exp.zhd, hA] at he
  (refine Fun.of_body Tryz.func44 rfl (by simp) fun Γ hn => ?_); simp only [entry, ziC, ziN, maC, maN, oA, Tryz.ntmps44]
  refine zoa (x := 0) (j := 4) rfl rfl fun hl => ?_
  simp at hl
  repeat' (first
  | ((first | refine zaf ?_ | refine zaj ?_ | refine zag ?_ | refine zav ?_ | fail); simp)
  | fail)
  refine zdg (α := { k : Nat // k ≤ A.length }) [0, 1, 2, 7, 8] (fun k => [(9, .u (.int .i64 k.1)), (3, .u (.int .i64 (((A.map Exp.lev).take k.1).foldl max 0)))]) (fun k => A.length - k.1) ⟨0, by omega⟩ ?_ ?_
  ·exact (Wk.env rfl rfl rfl (by simp [wkE, St.lp, zam, zaa, getK] <;> (try (intros; simp_all; done)) <;> (try (intros; omega)) <;> (try grind)))
  rintro ⟨k, hk⟩
  simp [St.lp, St.only, zam, zaa, getK]
  rcases hy : A[k]? with _ | y
  ·have hge : A.length ≤ k := by simpa using hy
   have hb := hlb k
   rw [List.take_of_length_le (by simpa using hge : (A.map Exp.lev).length ≤ k)] at hb ⊢
   have hb0 := (zcd (A.map Exp.lev) 0).1
   generalize (A.map Exp.lev).foldl max 0 = M at *
   repeat' (first
  | ((first | refine zaf ?_ | refine zaj ?_ | fail); simp [hy])
  | (refine ⟨by omega, ?_⟩)
  | (refine zag ?_; simp [hy])
  | (refine zaq ?_; simp only [zao])
  | (refine zbb ?_; simp [zao])
  | (intro hc <;> (try (exfalso; omega)))
  | fail)
   (refine EndOK.val (.inr rfl) ?_; simp [zaJ, zah, zau, Tryz.results44])
  ·have hlt : k < A.length := (lGE.1 hy).1
   have hfn := hx y (List.mem_of_getElem? hy)
   have ht : ((A.map Exp.lev).take (k + 1)).foldl max 0 = max (((A.map Exp.lev).take k).foldl max 0) y.lev := by
    rw [List.take_add_one, List.getElem?_map, hy]
    simp
   have hb := hlb (k + 1)
   rw [ht] at hb
   have hb0 := (zcd ((A.map Exp.lev).take k) 0).1
   generalize hM : ((A.map Exp.lev).take k).foldl max 0 = M at *
   have hyp := y.lev_pos
   repeat' (first
  | ((first | refine zaf ?_ | refine zaj ?_ | fail); simp [hy, Exp.row_eq])
  | (refine ⟨by omega, ?_⟩)
  | ((first | refine zag ?_ | refine zat ?_ | fail); simp [hy, Exp.row_eq])
  | (refine zap ?_; simp only [zao])
  | (refine ⟨?_, by omega⟩)
  | (intro hc <;> (try (exfalso; omega)))
  | (refine CallP.fE (hfn) (by first | rfl | fail) (by first | simp [hy, Exp.row_eq] <;> rfl | fail) ?_; (try simp [hy, Exp.row_eq]))
  | fail)
   refine LoopW.next ⟨k + 1, hlt⟩ (by show A.length - (k + 1) < A.length - k; omega) ?_
   exact (Wk.cut rfl (by simp [hn, St.lp]) (by simp [wkO, St.lp, zaa, getK, Ob.under, D.under, zad, zae, ht]) (by simp [wkU, St.lp, zam, zaa, getK, D.under, ht]) (by simp [wkE, St.lp, zam, zaa, getK, ht] <;> (try (intros; simp_all; done)) <;> (try (intros; omega)) <;> (try grind)))
end Go.Proofs.YthnemhfamhnfjaaGreatDoor
namespace Go.Proofs.YthnemhfamhnfjaaGreatDoor
open Go Go.VL
attribute [local simp] zde zb7 evPure opd uOf zaF St.put St.at getK binD binI binS binB nilD aggD zhn ziD lookD lookR zcB Go.VL.nextD zcF ziQ ziP zgW zcz mkV zdB zbq zbB mapEff zev zgg Key.kk shiftI arith unD convD zeg loadD cellsAt fieldAddrD fieldD indexAddrD indexD sliceD cutD lenD minmaxD nilCheckD buildD fillD zbU zdn ze5 setAll zcU zff zcx zhN zct St.add zaR zbR rowsOf zd0 zcJ zak zac zaa za9 zcI zaP entry zbO zbY valD zb8 zcA zhf zdz zdA zb1 zbQ zax zaW zbu delAll effD St.effS zdj zbl za5 zdk zbm za7 zcl za6 zaV zcm zdh zbJ zci zbt zcg zch zaK mkD zbL zbC zbP zax zcv D.ids Op.operands Call.operands zbI makeIfD makeFuncD typeAssertD ziB zdR zdS zhX zcD IntKind.bits zcV List.take_of_length_le List.range_succ
attribute [local irreducible] V G H HD HD2 zao Eff CallP CallV EndOK Fun Ret FinOK LoopI LoopW EndW
def zcK : Nat → Exp → Int → Int
 | 0, _, most => most + 1
 | L + 1, e, most => if 40 < e.s.length then most + 1 else e.args.foldl (fun n x => if n ≤ most then n + zcK L x (most - n) else n) 1
theorem zkv (L : Nat) (e : Exp) (most : Int) : zcK (L + 1) e most = if 40 < e.s.length then most + 1 else e.args.foldl (fun n x => if n ≤ most then n + zcK L x (most - n) else n) 1 := by rw [zcK]
theorem zgL : ∀ (L : Nat) (e : Exp) (most : Int), 0 ≤ most → 1 ≤ zcK L e most ∧ zcK L e most ≤ most + 1
 | 0, e, most, h => by rw [zcK]; omega
 | L + 1, e, most, h => by
  rw [zcK]
  split
  ·omega
  ·have : ∀ (l : List Exp) (n : Int), 1 ≤ n → n ≤ most + 1 → 1 ≤ l.foldl (fun n x => if n ≤ most then n + zcK L x (most - n) else n) n ∧ l.foldl (fun n x => if n ≤ most then n + zcK L x (most - n) else n) n ≤ most + 1 := by
    intro l
    induction l with
    | nil => intro n h1 h2; exact ⟨h1, h2⟩
    | cons a l ih =>
     intro n h1 h2
     rw [List.foldl_cons]
     split
     ·rename_i hn
      have := zgL L a (most - n) (by omega)
      exact ih _ (by omega) (by omega)
     ·exact ih n h1 h2
   exact this _ 1 (by omega) (by omega)
theorem zhI {L : Nat} {most : Int} : ∀ (l : List Exp) (n : Int), ¬ n ≤ most → l.foldl (fun n x => if n ≤ most then n + zcK L x (most - n) else n) n = n
 | [], _, _ => rfl
 | a :: l, n, h => by rw [List.foldl_cons, if_neg h]; exact zhI l n h
theorem zjv : ∀ (L : Nat) (e : Exp) (most : Int), 0 ≤ most → most ≤ 1000 → (L : Int) ≤ 100 → Fun Tryz.prog 74 [zhe e, .u (.int .i64 most), .u (.int .i64 L)] (· = .u (.int .i64 (zcK L e most)))
 | 0, e, most, _, _, _ => by
  rw [zcK]
  (refine Fun.of_body Tryz.func74 rfl (by simp) fun Γ hn => ?_); simp only [entry, ziC, ziN, maC, maN, oA, Tryz.ntmps74]
  simp only [zhe]
  repeat' (first
  | ((first | refine zaf ?_ | refine zaj ?_ | fail); simp)
  | (refine ⟨by omega, ?_⟩)
  | ((first | refine zag ?_ | refine zai ?_ | fail); simp)
  | (refine zaq ?_; simp only [zao])
  | fail)
  (refine EndOK.val (.inr rfl) ?_; simp [zaJ, zah, zau, Tryz.results74])
 | L + 1, e, most, h0, h1, hL => by
  rw [zkv]
  by_cases hs : 40 < e.s.length
  ·rw [if_pos hs]
   (refine Fun.of_body Tryz.func74 rfl (by simp) fun Γ hn => ?_); simp only [entry, ziC, ziN, maC, maN, oA, Tryz.ntmps74]
   simp only [zhe]
   repeat' (first
  | ((first | refine zaf ?_ | refine zaj ?_ | fail); simp)
  | (refine ⟨by omega, ?_⟩)
  | ((first | refine zag ?_ | refine zai ?_ | fail); simp)
  | (refine zaq ?_; simp only [zao])
  | (refine ⟨?_, by omega⟩)
  | (intro hc <;> (try (exfalso; omega)))
  | fail)
   all_goals first
    | (exfalso; omega)
    | ((refine EndOK.val (.inr rfl) ?_; simp [zaJ, zah, zau, Tryz.results74]); done)
  rw [if_neg hs]
  generalize hg : (e.args.foldl (fun n x => if n ≤ most then n + zcK L x (most - n) else n) 1) = g
  (refine Fun.of_body Tryz.func74 rfl (by simp) fun Γ hn => ?_); simp only [entry, ziC, ziN, maC, maN, oA, Tryz.ntmps74]
  simp only [zhe]
  refine zoa (x := 0) (j := 4) rfl rfl fun hl => ?_
  simp only [List.length_map] at hl
  repeat' (first
  | ((first | refine zaf ?_ | refine zaj ?_ | fail); simp)
  | (refine ⟨by omega, ?_⟩)
  | ((first | refine zag ?_ | refine zai ?_ | refine zav ?_ | fail); simp)
  | (refine zap ?_; simp only [zao])
  | (refine ⟨?_, by omega⟩)
  | (intro hc <;> (try (exfalso; omega)))
  | fail)
  refine zdg (α := { p : Nat × Int // p.1 ≤ e.args.length ∧ 1 ≤ p.2 ∧ p.2 ≤ most + 1 ∧ g = (e.args.drop p.1).foldl (fun n x => if n ≤ most then n + zcK L x (most - n) else n) p.2 }) [1, 2, 3] (fun p => [(7, .u (.int .i64 p.1.2)), (8, .u (.int .i64 p.1.1))]) (fun p => e.args.length - p.1.1) ⟨(0, 1), by simp, by simp, by simp; omega, by simp [hg]⟩ ?_ ?_
  ·exact (Wk.cut rfl (by simp [hn, St.lp]) (by simp [wkO, St.lp, zaa, getK, Ob.under, D.under, zad, zae]) (by simp [wkU, St.lp, zam, zaa, getK, D.under]) (by simp [wkE, St.lp, zam, zaa, getK] <;> (try (intros; simp_all; done)) <;> (try (intros; omega)) <;> (try grind)))
  rintro ⟨⟨i, n⟩, hi, hn1, hn2, hgn⟩
  simp only at hi hn1 hn2 hgn
  simp [St.lp, St.only, zam, zaa, getK]
  rcases hx : e.args[i]? with _ | x
  ·have hge : e.args.length ≤ i := by simpa using hx
   rw [List.drop_of_length_le hge] at hgn
   repeat' (first
  | ((first | refine zaf ?_ | refine zaj ?_ | fail); simp [hx])
  | (refine ⟨by omega, ?_⟩)
  | ((first | refine zag ?_ | refine zai ?_ | fail); simp [hx])
  | (refine zaq ?_; simp only [zao])
  | (refine zbb ?_; simp [zao])
  | (intro hc <;> (try (exfalso; omega)))
  | fail)
   (refine EndOK.val (.inr rfl) ?_; simp [zaJ, zah, zau, Tryz.results74])
   rw [hgn]; rfl
  ·have hlt : i < e.args.length := (lGE.1 hx).1
   by_cases hm : n ≤ most
   ·have h5 := zjv L x (most - n) (by omega) (by omega) (by omega)
    have hb := zgL L x (most - n) (by omega)
    simp only [zhe] at h5
    rw [List.drop_eq_getElem_cons hlt, List.foldl_cons, if_pos hm, (lGE.1 hx).2] at hgn
    generalize zcK L x (most - n) = y at h5 hb hgn
    repeat' (first
  | ((first | refine zaf ?_ | refine zaj ?_ | fail); simp [hx, x.row_eq])
  | (refine ⟨by omega, ?_⟩)
  | ((first | refine zag ?_ | refine zai ?_ | refine zat ?_ | fail); simp [hx, x.row_eq])
  | (refine zap ?_; simp only [zao])
  | (refine ⟨?_, by omega⟩)
  | (intro hc <;> (try (exfalso; omega)))
  | (refine CallP.fE (h5) (by first | rfl | fail) (by first | simp [hx, x.row_eq] <;> rfl | fail) ?_; (try simp [hx, x.row_eq]))
  | fail)
    refine LoopW.next ⟨(i + 1, n + y), (by omega : i + 1 ≤ e.args.length), (by omega : 1 ≤ n + y), (by omega : n + y ≤ most + 1), hgn⟩ (by simp; omega) ?_
    exact (Wk.cut rfl (by simp [hn, St.lp]) (by simp [wkO, St.lp, zaa, getK, Ob.under, D.under, zad, zae]) (by simp [wkU, St.lp, zam, zaa, getK, D.under]) (by simp [wkE, St.lp, zam, zaa, getK] <;> (try (intros; simp_all; done)) <;> (try (intros; omega)) <;> (try grind)))
   ·rw [zhI _ _ hm] at hgn
    repeat' (first
  | ((first | refine zaf ?_ | refine zaj ?_ | fail); simp [hx])
  | (refine ⟨by omega, ?_⟩)
  | ((first | refine zag ?_ | refine zai ?_ | fail); simp [hx])
  | (refine zaq ?_; simp only [zao])
  | (refine zbb ?_; simp [zao])
  | (refine ⟨?_, by omega⟩)
  | (intro hc <;> (try (exfalso; omega)))
  | fail)
    (refine EndOK.val (.inr rfl) ?_; simp [zaJ, zah, zau, Tryz.results74])
    rw [hgn]
def zrr (e : Exp) : Bool := decide (zcK 16 e 60 ≤ 60)
theorem zmr (e : Exp) : Fun Tryz.prog 31 [.u (.agg e.row)] (· = .u (.bool (zrr e))) := by
 have h2 := zjv 16 e 60 (by omega) (by omega) (by omega)
 unfold zrr
 rw [Exp.row_eq]
 simp only [zhe] at h2 ⊢
 generalize zcK 16 e 60 = y at h2 ⊢
 (refine Fun.of_body Tryz.func31 rfl (by simp) fun Γ hn => ?_); simp only [entry, ziC, ziN, maC, maN, oA, Tryz.ntmps31]
 repeat' (first
  | ((first | refine zaf ?_ | refine zaj ?_ | refine zag ?_ | fail); simp)
  | (refine zaq ?_; simp only [zao])
  | (refine CallP.fE (h2) (by first | rfl | fail) (by first | (simp; done) | (simp; rfl) | fail) ?_; (try simp))
  | fail)
 (refine EndOK.val (.inr rfl) ?_; simp [zaJ, zah, zau, Tryz.results31])
abbrev zj9 (a b : Exp) : Prop := Fun Tryz.prog 15 [.u (.agg a.row), .u (.agg b.row)] (· = .u (.bool (eqB a b)))
theorem zmS : ∀ (n : Nat) (a b : Exp), SizeOf.sizeOf a ≤ n → zj9 a b := by
 intro n
 induction n with
 | zero =>
  intro a b h
  cases a with
  | mk op n u s args => simp only [Exp.mk.sizeOf_spec] at h; omega
 | succ n ih =>
  intro a b hs
  have hch : ∀ x ∈ a.args, ∀ y, zj9 x y := fun x hx y => ih x y (by have := Exp.zfh hx; omega)
  unfold zj9
  have key : ∀ B : Bool, (B = true ↔ a = b) → eqB a b = B := fun B h => by
   cases B with
   | true => exact zcq.2 (h.1 rfl)
   | false => exact zdJ fun e => by have := h.2 e; cases this
  have hmk : a = b ↔ a.op = b.op ∧ a.n = b.n ∧ a.unit = b.unit ∧ a.s = b.s ∧ a.args = b.args := by
   cases a; cases b
   simp only [Exp.op, Exp.n, Exp.unit, Exp.s, Exp.args, Exp.mk.injEq]
  rw [Exp.row_eq, Exp.row_eq b]
  by_cases c1 : a.op = b.op
  ·by_cases c2 : a.n = b.n
   ·by_cases c3 : a.unit = b.unit
    ·by_cases c4 : a.s = b.s
     ·by_cases c5 : a.args.length = b.args.length
      ·have c5' : (a.args.length : Int) = b.args.length := by omega
       rw [key (eqB a.args b.args) (by rw [zcq, hmk]; exact ⟨fun h => ⟨c1, c2, c3, c4, h⟩, fun h => h.2.2.2.2⟩)]
       clear key hmk
       (refine Fun.of_body Tryz.func15 rfl (by simp) fun Γ hn => ?_); simp only [entry, ziC, ziN, maC, maN, oA, Tryz.ntmps15]
       refine zoa (x := 0) (j := 4) rfl rfl fun hll => ?_
       simp only [List.length_map] at hll
       repeat' (first
  | ((first | refine zaf ?_ | refine zaj ?_ | refine zag ?_ | refine zai ?_ | refine zav ?_ | fail); simp [c1, c2, c3, c4, c5, c5'])
  | (refine zap ?_; simp only [zao])
  | fail)
       refine zcW (α := { i : Nat // i ≤ a.args.length ∧ a.args.take i = b.args.take i }) [2, 3, 4] (fun x => [(5, .u (.int .i64 x.1))]) (fun x => [(1, .box [.u (.int .i64 b.op), .u (.int .i64 b.n), .u (.int .i64 b.unit), .u (.str b.s), .u (.sl (b.args.map Exp.row))]), (0, .box [.u (.int .i64 a.op), .u (.int .i64 a.n), .u (.int .i64 a.unit), .u (.str a.s), .u (.sl (a.args.map Exp.row))])]) 2 (fun x => a.args.length - x.1) ⟨0, by omega, by simp⟩ ?_ ?_
       ·exact (Wk.cut rfl (by simp [hn, St.lp]) (by simp [wkO, St.lp, zaa, getK, Ob.under, D.under, zad, zae, c1, c2, c3, c4, c5]) (by simp [wkU, St.lp, zam, zaa, getK, D.under, c1, c2, c3, c4, c5]) (by simp [wkE, St.lp, zam, zaa, getK, c1, c2, c3, c4, c5] <;> (try (intros; simp_all; done)) <;> (try (intros; omega)) <;> (try grind)))
       rintro ⟨i, hi, hb⟩
       simp [St.lp, St.only, zam, zaa, getK]
       rcases hx : a.args[i]? with _ | x
       ·have hge : a.args.length ≤ i := by simpa using hx
        obtain rfl : i = a.args.length := by omega
        rw [List.take_of_length_le (Nat.le_refl _), List.take_of_length_le (by omega)] at hb
        rw [zcq.2 hb]
        repeat' (first
  | ((first | refine zaf ?_ | refine zaj ?_ | refine zag ?_ | refine zai ?_ | fail); simp [hx, c5])
  | (refine zaq ?_; simp only [zao])
  | (refine zbb ?_; simp [zao])
  | fail)
        (refine EndOK.val (.inr rfl) ?_; simp [zaJ, zah, zau, Tryz.results15])
       ·have hlt : i < a.args.length := (lGE.1 hx).1
        have hlt2 : i < b.args.length := by omega
        obtain ⟨y, hy⟩ : ∃ y, b.args[i]? = some y := ⟨_, List.getElem?_eq_getElem hlt2⟩
        have hi2 : (i : Int) < b.args.length := by omega
        have hi1 : (i : Int) < a.args.length := by omega
        have h1 : zj9 x y := hch x (List.mem_of_getElem? hx) y
        unfold zj9 at h1
        by_cases hab : x = y
        ·rw [zcq.2 hab] at h1
         rw [Exp.row_eq, Exp.row_eq] at h1
         have hsn : a.args.take (i + 1) = b.args.take (i + 1) := by
          rw [List.take_succ_eq_append_getElem hlt, List.take_succ_eq_append_getElem hlt2, hb, (lGE.1 hx).2, (lGE.1 hy).2, hab]
         repeat' (first
  | ((first | refine zaf ?_ | refine zeP ?_ | refine zaj ?_ | fail); simp [hx, hy, hi1, hi2, c5, Exp.row_eq])
  | (refine ⟨by omega, ?_⟩)
  | ((first | refine zag ?_ | refine zai ?_ | fail); simp [hx, hy, hi1, hi2, c5, Exp.row_eq])
  | (refine zf8 ?_)
  | (refine hk _ ?_; clear hk k; simp only [zao])
  | (refine zeO rfl (by kernel_rfl) (by kernel_rfl) fun k hk => ?_; simp [hx, hy, hi1, hi2, c5, Exp.row_eq])
  | (refine zat ?_; simp [hx, hy, hi1, hi2, c5, Exp.row_eq])
  | (refine zap ?_; simp only [zao])
  | (refine CallV.fun_ (h1) (by first | rfl | fail) (by first | simp [hx, hy, hi1, hi2, c5, Exp.row_eq] <;> rfl | fail) ?_ <;> (try simp [hx, hy, hi1, hi2, c5, Exp.row_eq]))
  | fail)
         refine LoopW.next ⟨i + 1, by omega, hsn⟩ (by simp; omega) ?_
         exact (Wk.cut rfl (by simp [hn, St.lp]) (by simp [wkO, St.lp, zaa, getK, Ob.under, D.under, zad, zae, c5]) (by simp [wkU, St.lp, zam, zaa, getK, D.under, c5]) (by simp [wkE, St.lp, zam, zaa, getK, c5] <;> (try (intros; simp_all; done)) <;> (try (intros; omega)) <;> (try grind)))
        ·rw [zdJ hab] at h1
         rw [Exp.row_eq, Exp.row_eq] at h1
         have hne : a.args ≠ b.args := fun e => by rw [e] at hx; rw [hx] at hy; cases hy; exact hab rfl
         rw [zdJ hne]
         repeat' (first
  | ((first | refine zaf ?_ | refine zeP ?_ | refine zaj ?_ | refine zag ?_ | refine zai ?_ | fail); simp [hx, hy, hi1, hi2, c5, Exp.row_eq])
  | (refine zf8 ?_)
  | (refine hk _ ?_; clear hk k; simp only [zao])
  | (refine zeO rfl (by kernel_rfl) (by kernel_rfl) fun k hk => ?_; simp [hx, hy, hi1, hi2, c5, Exp.row_eq])
  | ((first | refine zaq ?_ | refine zap ?_ | fail); simp only [zao])
  | (refine CallV.fun_ (h1) (by first | rfl | fail) (by first | simp [hx, hy, hi1, hi2, c5, Exp.row_eq] <;> rfl | fail) ?_ <;> (try simp [hx, hy, hi1, hi2, c5, Exp.row_eq]))
  | fail)
         (refine EndOK.val (.inr rfl) ?_; simp [zaJ, zah, zau, Tryz.results15])
      ·have c5' : ¬ (a.args.length : Int) = b.args.length := by omega
       rw [key false (by rw [hmk]; simp; intro _ _ _ _ h; exact c5 (by rw [h]))]
       (refine Fun.of_body Tryz.func15 rfl (by simp) fun Γ hn => ?_); simp only [entry, ziC, ziN, maC, maN, oA, Tryz.ntmps15]
       repeat' (first
  | ((first | refine zaf ?_ | refine zaj ?_ | refine zag ?_ | refine zai ?_ | fail); simp [c1, c2, c3, c4, c5, c5'])
  | (refine zaq ?_; simp only [zao])
  | fail)
       (refine EndOK.val (.inr rfl) ?_; simp [zaJ, zah, zau, Tryz.results15])
     ·rw [key false (by rw [hmk]; simp [c4])]
      (refine Fun.of_body Tryz.func15 rfl (by simp) fun Γ hn => ?_); simp only [entry, ziC, ziN, maC, maN, oA, Tryz.ntmps15]
      repeat' (first
  | ((first | refine zaf ?_ | refine zaj ?_ | refine zag ?_ | refine zai ?_ | fail); simp [c1, c2, c3, c4])
  | (refine zaq ?_; simp only [zao])
  | fail)
      (refine EndOK.val (.inr rfl) ?_; simp [zaJ, zah, zau, Tryz.results15])
    ·rw [key false (by rw [hmk]; simp [c3])]
     (refine Fun.of_body Tryz.func15 rfl (by simp) fun Γ hn => ?_); simp only [entry, ziC, ziN, maC, maN, oA, Tryz.ntmps15]
     repeat' (first
  | ((first | refine zaf ?_ | refine zaj ?_ | refine zag ?_ | refine zai ?_ | fail); simp [c1, c2, c3])
  | (refine zaq ?_; simp only [zao])
  | fail)
     (refine EndOK.val (.inr rfl) ?_; simp [zaJ, zah, zau, Tryz.results15])
   ·rw [key false (by rw [hmk]; simp [c2])]
    (refine Fun.of_body Tryz.func15 rfl (by simp) fun Γ hn => ?_); simp only [entry, ziC, ziN, maC, maN, oA, Tryz.ntmps15]
    repeat' (first
  | ((first | refine zaf ?_ | refine zaj ?_ | refine zag ?_ | refine zai ?_ | fail); simp [c1, c2])
  | (refine zaq ?_; simp only [zao])
  | fail)
    (refine EndOK.val (.inr rfl) ?_; simp [zaJ, zah, zau, Tryz.results15])
  ·rw [key false (by rw [hmk]; simp [c1])]
   (refine Fun.of_body Tryz.func15 rfl (by simp) fun Γ hn => ?_); simp only [entry, ziC, ziN, maC, maN, oA, Tryz.ntmps15]
   repeat' (first
  | ((first | refine zaf ?_ | refine zaj ?_ | refine zag ?_ | refine zai ?_ | fail); simp [c1])
  | (refine zaq ?_; simp only [zao])
  | fail)
   (refine EndOK.val (.inr rfl) ?_; simp [zaJ, zah, zau, Tryz.results15])
theorem zi7 (a b : Exp) : zj9 a b := zmS (SizeOf.sizeOf a) a b (Nat.le_refl _)
end Go.Proofs.YthnemhfamhnfjaaGreatDoor
namespace Go.Proofs.YthnemhfamhnfjaaGreatDoor
open Go Go.VL
def zqn (l : List Tok) (p : Nat) (least most : Int) : PR Int := match l[p]? with
 | none => .stop 0 0
 | some t => if t.kind = 2 then if least ≤ t.n ∧ t.n ≤ most then .ok t.n (p + 1) else .stop t.pos 3 else .stop t.pos 12
def zdX (l : List Tok) (p : Nat) (word : W8) (least most : Int) (behind : List W8) : PR Int :=
 if isB l p word = true then (zqn l (p + 1) least most).bind fun n q => (zbs l q behind).bind fun _ r => .ok n r else .ok 0 p
def zeq (l : List Tok) (p : Nat) : PR Exp := (zdI l (4 * l.length + 3) p 0).bind fun e q =>
 if isB l q [59] = true then if e.lev ≤ 12 then .ok e (q + 1) else .stop (zcR l q) 6 else .stop (zcR l q) 12
def zkG (l : List Tok) (p : Nat) : PR (Int × Bool) := (zbs l p [[99, 105, 114, 99, 108, 101]]).bind fun _ q =>
 if isB l q [114, 111, 116, 97, 116, 105, 110, 103] = true then (zbs l (q + 1) [[59]]).bind fun _ r => .ok (0, false) r
 else if isB l q [115, 97, 118, 105, 110, 103] = true then (zbs l (q + 1) [[59]]).bind fun _ r => .ok (2, false) r
 else (zbs l q [[98, 105, 100, 100, 105, 110, 103]]).bind fun _ r => if isB l r [115, 101, 97, 108, 101, 100] = true then (zbs l (r + 1) [[59]]).bind fun _ r => .ok (1, true) r else (zbs l r [[59]]).bind fun _ r => .ok (1, false) r
def ordersW : List W8 := [[106, 111, 105, 110], [100, 114, 97, 119], [110, 101, 101, 100]]
def zgH (l : List Tok) (p : Nat) : PR Int :=
 if isB l p [111, 114, 100, 101, 114] = true then match ordersW.findIdx? fun w => isB l (p + 1) w with
  | some i => (zbs l (p + 2) [[59]]).bind fun _ r => .ok i r
  | none => .stop (zcR l (p + 1)) 12
 else .ok 0 p
def zgU (l : List Tok) : Nat → Nat → List Let → PR (List Let)
 | 0, _, _ => .stop 0 0
 | f + 1, p, acc => if isB l p [108, 101, 116] = true then
   if acc.length < 20 then match l[p + 1]? with
    | none => .stop 0 0
    | some t => if t.kind = 1 ∧ zcy t.text = true then
          if (acc.any fun x => decide (x.name = t.text)) = true then .stop t.pos 5
          else (zbs l (p + 2) [[61]]).bind fun _ q => (zeq l q).bind fun e r => zgU l f r (acc ++ [⟨t.text, e⟩])
     else .stop t.pos 12
   else .stop (zcR l p) 6
  else .ok acc p
def nothingE : Exp := .mk 0 0 3 [] []
def zdT (l : List Tok) (p : Nat) (word : W8) : PR Exp := if isB l p word = true then zeq l (p + 1) else .ok nothingE p
def zky (l : List Tok) (p : Nat) (word : W8) : PR Unit := if isB l p word = true then .ok () p else .stop (zcR l p) 12
def zp0 (l : List Tok) (p : Nat) : PR Unit := match l[p]? with | some t => if t.kind = 0 then .ok () p else .stop t.pos 12 | none => .stop 0 0
def zp3 (l : List Tok) : PR By :=
 (zkG l 0).bind fun k p => (zky l p [112, 101, 114, 105, 111, 100]).bind fun _ p => (zdX l p [112, 101, 114, 105, 111, 100] 1 1000 [[100, 97, 121, 115], [59]]).bind fun period p =>
 (zky l p [108, 97, 115, 116]).bind fun _ p => (zdX l p [108, 97, 115, 116] 1 1000 [[59]]).bind fun last p =>
 (zdX l p [103, 114, 97, 99, 101] 0 1000 [[100, 97, 121, 115], [59]]).bind fun grace p => (zdX l p [119, 97, 105, 116] 0 1000 [[100, 97, 121, 115], [59]]).bind fun wait p =>
 (zgH l p).bind fun order p => (zdX l p [98, 97, 99, 107, 115] 0 60 [[59]]).bind fun backs p => (zdX l p [118, 111, 105, 99, 101, 115] 0 1000 [[112, 101, 114], [109, 105, 108, 108, 101], [59]]).bind fun voices p =>
 (zdX l p [106, 117, 114, 121] 0 60 [[59]]).bind fun jury p => (zdX l p [102, 117, 110, 100] 0 1000 [[112, 101, 114], [109, 105, 108, 108, 101], [59]]).bind fun fund p =>
 (zgU l 21 p []).bind fun lets p => (zbs l p [[100, 117, 101]]).bind fun _ p => (zeq l p).bind fun due p =>
 (zdT l p [102, 105, 110, 101]).bind fun fine p => (zdT l p [112, 97, 121]).bind fun pay p => (zdT l p [99, 111, 118, 101, 114]).bind fun cover p => (zdT l p [104, 111, 108, 100]).bind fun hold p =>
 (zp0 l p).bind fun _ p => .ok ⟨k.1, period, grace, wait, last, order, k.2, backs, voices, jury, fund, lets, due, fine, pay, cover, hold⟩ p
/-- What may stand at a place: no other word. -/
def StopAt (l : List Tok) (p : Nat) (S : List W8) : Prop := ∀ v, v ∉ S → isB l p v = false
theorem StopAt.head {l p} {w : W8} {b : List W8} (h : Reads l p (w :: b)) : StopAt l p [w] := fun v hv => by
 rw [h.isB]; exact decide_eq_false fun e => hv (by simp [e])
theorem StopAt.more {l p} {S T : List W8} (h : StopAt l p S) (hs : ∀ v ∈ S, v ∈ T) : StopAt l p T := fun v hv => h v fun hm => hv (hs v hm)
end Go.Proofs.YthnemhfamhnfjaaGreatDoor
namespace Go.Proofs.YthnemhfamhnfjaaGreatDoor
open Go Go.VL
theorem Reads.lt {l p} {w : W8} {b : List W8} (h : Reads l p (w :: b)) : p < l.length := by
 obtain ⟨_, t, ht, _⟩ := h.head
 exact (lGE.1 ht).1
end Go.Proofs.YthnemhfamhnfjaaGreatDoor
namespace Go.Proofs.YthnemhfamhnfjaaGreatDoor
open Go Go.VL
end Go.Proofs.YthnemhfamhnfjaaGreatDoor
namespace Go.Proofs.YthnemhfamhnfjaaGreatDoor
open Go Go.VL
end Go.Proofs.YthnemhfamhnfjaaGreatDoor
namespace Go.Proofs.YthnemhfamhnfjaaGreatDoor
open Go Go.VL
def NoSemi (ws : List W8) : Prop := ∀ w ∈ ws, w ≠ [59]
theorem NoSemi.nil : NoSemi [] := fun _ h => by cases h
theorem NoSemi.cons {w : W8} {ws : List W8} (h : w ≠ [59]) (h2 : NoSemi ws) : NoSemi (w :: ws) := fun x hx => by
 rcases List.mem_cons.1 hx with rfl | hx
 ·exact h
 ·exact h2 x hx
theorem NoSemi.app {a b : List W8} (h : NoSemi a) (h2 : NoSemi b) : NoSemi (a ++ b) := fun x hx => by
 rcases List.mem_append.1 hx with hx | hx
 ·exact h x hx
 ·exact h2 x hx
end Go.Proofs.YthnemhfamhnfjaaGreatDoor
namespace Go.Proofs.YthnemhfamhnfjaaGreatDoor
open Go Go.VL
/-- Right, if it has not too many levels. -/
def RX (e : Exp) : Prop := ∀ d : Nat, e.lev ≤ d → zaH d e = true
/-- Numbers as Lex makes them. -/
def zr7 (l : List Tok) : Prop := ∀ (i : Nat) (t : Tok), l[i]? = some t → t.kind = 2 → 0 ≤ t.n ∧ t.n ≤ 1099511627776
end Go.Proofs.YthnemhfamhnfjaaGreatDoor
namespace Go.Proofs.YthnemhfamhnfjaaGreatDoor
open Go Go.VL
theorem znb {s : W8} {n : Int} (h : zdQ s = some n) : 0 ≤ n ∧ n ≤ 1099511627776 := by
 unfold zdQ at h
 split at h
 ·cases h
 ·rename_i hc
  split at h
  ·cases h
  ·cases h
   simp only [not_or] at hc
   have hsp : zbA zaI s = s.length := Classical.byContradiction hc.2.1
   have h3 : s.takeWhile zaI = s := (List.takeWhile_sublist _).eq_of_length hsp
   have hall : ∀ x ∈ s, zaI x = true := fun x hx => by
    rw [← h3] at hx
    exact List.all_eq_true.1 (List.all_takeWhile (l := s) (p := zaI)) x hx
   have := zem s.length s rfl hall
   omega
theorem zox {s : W8} {t : Tok} (h : ze3 s = .ok t) (hk : t.kind = 2) : 0 ≤ t.n ∧ t.n ≤ 1099511627776 := by
 unfold ze3 at h
 split at h
 ·cases h
 ·split at h
  ·split at h
   ·cases h; exact absurd hk (by simp)
   ·cases h
  ·split at h
   ·split at h
    ·rename_i n hn
     cases h
     exact znb hn
    ·cases h
   ·split at h
    ·cases h; exact absurd hk (by simp)
    ·cases h
theorem zk6 : ∀ (f : Nat) (s : W8) (p : Nat) (l : List Tok), zhC f s p = .ok l → zr7 l
 | 0, s, p, l, h => by
  rw [zhC] at h
  cases h
  intro i t hi
  simp at hi
 | f + 1, s, p, l, h => by
  rw [zhC] at h
  split at h
  ·cases h
   intro i t hi hk
   cases i with
   | zero => simp at hi; subst hi; exact absurd hk (by simp)
   | succ i => simp at hi
  ·split at h
   ·cases h
   ·rename_i t ht
    split at h
    ·cases h
    ·rename_i l' hl'
     cases h
     have ih := zk6 f _ _ _ hl'
     intro i x hi hk
     cases i with
     | zero =>
      simp only [List.getElem?_cons_zero, Option.some.injEq] at hi
      subst hi
      exact zox (t := t) ht hk
     | succ i => exact ih i x (by simpa using hi) hk
theorem zoG {s : W8} {l : List Tok} (h : zgS s = .ok l) : zr7 l := by
 unfold zgS at h
 split at h
 ·cases h
 ·exact zk6 _ _ _ _ h
end Go.Proofs.YthnemhfamhnfjaaGreatDoor
namespace Go.Proofs.YthnemhfamhnfjaaGreatDoor
open Go Go.VL
end Go.Proofs.YthnemhfamhnfjaaGreatDoor
namespace Go.Proofs.YthnemhfamhnfjaaGreatDoor
open Go Go.VL
/-- The text of an operand. -/
def txt (e : Exp) (least : Int) : W8 := zbg (zbS e least)
theorem zbi (w : W8) : zbg [w] = w := by simp [zbg, spW, zdf]
theorem zbD {w : W8} {l : List W8} (h : l ≠ []) : zbg (w :: l) = w ++ [32] ++ zbg l := by
 cases l with
 | nil => exact absurd rfl h
 | cons v l => exact zbe w v l
theorem zj1 {d : Nat} {e : Exp} (h : zaH d e = true) : zbj e ≠ [] := by
 cases d with
 | zero => rw [zaH] at h; cases h
 | succ d =>
  obtain ⟨op, n, u, s, args⟩ := e
  rcases zed h with ⟨rfl, rfl, rfl, hn⟩ | ⟨rfl, rfl, rfl, rfl, hn⟩ | ⟨rfl, rfl, rfl, ha, ⟨rfl, hl⟩ | ⟨rfl, hl⟩ | ⟨g0, g1, g12, g13, g2, g3, hl⟩⟩
  ·rw [zbj, zcT, if_pos rfl, zeC]
   split <;> simp
  ·rw [zbj, zcT, if_neg (by decide), if_pos rfl]; simp
  ·obtain ⟨a, rfl⟩ := zoF hl
   rw [ziH]; simp
  ·obtain ⟨a, b, c, rfl⟩ := zoD hl
   rw [zkK]; simp
  ·obtain ⟨a, b, rfl⟩ := zoE hl
   by_cases h6 : op = 6
   ·subst h6; rw [ziI]; simp
   ·by_cases h7 : op = 7
    ·subst h7; rw [ziJ]; simp
    ·obtain ⟨o, ho, rfl⟩ := zkX (by omega) (by omega) h6 h7
     rw [ziG ho]; simp
theorem zcZ {d : Nat} {e : Exp} (h : zaH d e = true) (least : Int) : zbS e least ≠ [] := by
 rw [zbS, zpK]
 split
 ·simp
 ·exact zj1 h
theorem zgj {d : Nat} {e : Exp} (h : zaH d e = true) {least : Int} (hl : zbX e.op < least) : txt e least = [40, 32] ++ zbg (zbj e) ++ [32, 41] := by
 rw [txt, zbS, zpK, if_pos hl]
 simp only [List.cons_append]
 rw [zbD (by simp), zcE _ _ (zj1 h) (by simp), zbi]
 simp
theorem zcX {e : Exp} {least : Int} (hl : ¬ zbX e.op < least) : txt e least = zbg (zbj e) := by
 rw [txt, zbS, zpK, if_neg hl]
theorem znD {d : Nat} {a b c : Exp} (ha : zaH d a = true) (hb : zaH d b = true) (hc : zaH d c = true) :
  zbg (zbj (.mk 13 0 0 [] [a, b, c])) = [105, 102, 32] ++ txt a 0 ++ [32, 116, 104, 101, 110, 32] ++ txt b 0 ++ [32, 101, 108, 115, 101, 32] ++ txt c 0 := by
 rw [zkK, zbD (by simp), zcE _ _ (zcZ ha 0) (by simp), zbD (by simp), zcE _ _ (zcZ hb 0) (by simp), zbD (zcZ hc 0)]
 simp [txt]
theorem zle {d : Nat} {a : Exp} (ha : zaH d a = true) : zbg (zbj (.mk 12 0 0 [] [a])) = [110, 111, 116, 32] ++ txt a 3 := by
 rw [ziH, zbD (zcZ ha 3)]
 simp [txt]
theorem zlf {d : Nat} {a b : Exp} (ha : zaH d a = true) (hb : zaH d b = true) : zbg (zbj (.mk 6 0 0 [] [a, b])) = [109, 105, 110, 32, 40, 32] ++ txt a 0 ++ [32, 44, 32] ++ txt b 0 ++ [32, 41] := by
 rw [ziI, zbD (by simp), zbD (by simp), zcE _ _ (zcZ ha 0) (by simp), zbD (by simp), zcE _ _ (zcZ hb 0) (by simp), zbi]
 simp [txt]
theorem zlg {d : Nat} {a b : Exp} (ha : zaH d a = true) (hb : zaH d b = true) : zbg (zbj (.mk 7 0 0 [] [a, b])) = [109, 97, 120, 32, 40, 32] ++ txt a 0 ++ [32, 44, 32] ++ txt b 0 ++ [32, 41] := by
 rw [ziJ, zbD (by simp), zbD (by simp), zcE _ _ (zcZ ha 0) (by simp), zbD (by simp), zcE _ _ (zcZ hb 0) (by simp), zbi]
 simp [txt]
theorem zeW {d : Nat} {a b : Exp} {o : Opr} (ho : o ∈ oprs) (ha : zaH d a = true) (hb : zaH d b = true) :
  zbg (zbj (.mk o.op 0 0 [] [a, b])) = txt a (if o.form = 4 then 5 else o.form) ++ [32] ++ o.text ++ [32] ++ txt b (o.form + 1) := by
 rw [ziG ho, zcE _ _ (zcZ ha _) (by simp), zbD (zcZ hb _)]
 simp [txt]
def SB : Nat → Nat
 | 0 => 0
 | d + 1 => 3 * SB d + 200
theorem zin {n : Int} (h0 : 0 ≤ n) (h1 : n ≤ 1099511627776) : (Lib.itoa n).length ≤ 13 := by
 rw [Lib.itoa, if_neg (by omega)]
 have hlt : n.toNat < 10 ^ (12 + 1) := by
  have : (10 : Nat) ^ 13 = 10000000000000 := by decide
  omega
 exact zfw n.toNat 12 hlt
theorem znc {n u : Int} (h : zpq (.mk 0 n u [] []) = true) : (zbg (zeC n u)).length ≤ 30 := by
 obtain ⟨hu0, hu1, hn0, hn2, hn1⟩ := zku h
 have hi := zin hn0 hn2
 rw [zeC]
 split
 ·rw [zbi]; split <;> simp
 ·split
  ·rw [zbe, zbi]; simp; omega
  ·split
   ·rw [zbe, zbi]; simp; omega
   ·split
    ·rw [zbe, zbe, zbi]; simp; omega
    ·rw [zbi]; omega
theorem zih {s : W8} (h : zcy s = true) : s.length ≤ 20 := by
 simp only [zcy, Bool.and_eq_true] at h
 have h := h.1
 cases s with
 | nil => simp
 | cons c r =>
  simp only [zf9, Bool.and_eq_true, decide_eq_true_eq] at h
  exact h.1.2
theorem zm7 {o : Opr} (ho : o ∈ oprs) : o.text.length ≤ 3 := by
 simp only [oprs, List.mem_cons, List.not_mem_nil, or_false] at ho
 rcases ho with rfl | rfl | rfl | rfl | rfl | rfl | rfl | rfl <;> decide
theorem zlA : ∀ (d : Nat) (e : Exp), zaH d e = true → (zbg (zbj e)).length + 4 ≤ SB d
 | 0, e, h => by rw [zaH] at h; cases h
 | d + 1, .mk op n u s args, h => by
  have hx : ∀ x : Exp, zaH d x = true → ∀ least, (txt x least).length ≤ SB d := fun x hx least => by
   have h1 := zlA d x hx
   by_cases hl : zbX x.op < least
   ·rw [zgj hx hl]; simp; omega
   ·rw [zcX hl]; omega
  rw [SB]
  rcases zed h with ⟨rfl, rfl, rfl, hn⟩ | ⟨rfl, rfl, rfl, rfl, hn⟩ | ⟨rfl, rfl, rfl, ha, ⟨rfl, hl⟩ | ⟨rfl, hl⟩ | ⟨g0, g1, g12, g13, g2, g3, hl⟩⟩
  ·rw [zbj, zcT, if_pos rfl]
   have := znc hn
   omega
  ·rw [zbj, zcT, if_neg (by decide), if_pos rfl, zbi]
   have := zih hn
   omega
  ·obtain ⟨a, rfl⟩ := zoF hl
   have h1 := ha a (by simp)
   rw [zle h1]
   have := hx a h1 3
   simp
   omega
  ·obtain ⟨a, b, c, rfl⟩ := zoD hl
   have h1 := ha a (by simp)
   have h2 := ha b (by simp)
   have h3 := ha c (by simp)
   rw [znD h1 h2 h3]
   have := hx a h1 0
   have := hx b h2 0
   have := hx c h3 0
   simp
   omega
  ·obtain ⟨a, b, rfl⟩ := zoE hl
   have h1 := ha a (by simp)
   have h2 := ha b (by simp)
   by_cases h6 : op = 6
   ·subst h6
    rw [zlf h1 h2]
    have := hx a h1 0
    have := hx b h2 0
    simp
    omega
   ·by_cases h7 : op = 7
    ·subst h7
     rw [zlg h1 h2]
     have := hx a h1 0
     have := hx b h2 0
     simp
     omega
    ·obtain ⟨o, ho, rfl⟩ := zkX (by omega) (by omega) h6 h7
     rw [zeW ho h1 h2]
     have := hx a h1 (if o.form = 4 then 5 else o.form)
     have := hx b h2 (o.form + 1)
     have := zm7 ho
     simp only [List.length_append, List.length_cons, List.length_nil]
     omega
theorem zry {d : Nat} (h : d ≤ 12) : SB d ≤ 53144000 := by
 have key : ∀ n, n ≤ 12 → SB n ≤ 53144000 := by decide
 exact key d h
theorem zcr {d : Nat} {e : Exp} (h : zaH d e = true) (hd : d ≤ 12) (least : Int) : (txt e least).length ≤ 53144000 := by
 have h1 := zlA d e h
 have h2 := zry hd
 by_cases hl : zbX e.op < least
 ·rw [zgj h hl]; simp; omega
 ·rw [zcX hl]; omega
end Go.Proofs.YthnemhfamhnfjaaGreatDoor
namespace Go.Proofs.YthnemhfamhnfjaaGreatDoor
open Go Go.VL
theorem znj {l : List Tok} {p q : Nat} {w : W8} {x : Unit} (h : zky l p w = .ok x q) : q = p ∧ isB l p w = true := by
 unfold zky at h
 split at h
 ·cases h; exact ⟨rfl, by assumption⟩
 ·cases h
def zmE (l : List Tok) (p : Nat) (b : Bool) (e : Int) : PR Unit := if b = true then .ok () p else .stop (zcR l p) e
theorem zg6 (l : List Tok) (p : Nat) (b : Bool) (e : Int) (i nx : Nat) (hi : i < nx) (hp : p < l.length) (hl : TokOK l) :
  RetX Tryz.prog 42 [.ptr i 0, .u (.bool b), .u (.int .i64 e)] [(i, pOb l p)] nx (PPost l i nx (fun _ => .tup []) (zmE l p b e)) := by
 obtain ⟨t, ht⟩ : ∃ t, l[p]? = some t := ⟨_, List.getElem?_eq_getElem hp⟩
 have hpa : zcR l p = t.pos := by unfold zcR; rw [ht]
 unfold zmE
 cases b with
 | true => exact zdM l p e i nx hi
 | false => rw [if_neg (by simp), hpa]; exact zcG l p t e i nx hi ht hl.len
theorem zk0 (l : List Tok) (p : Nat) (w : W8) (i nx : Nat) (hi : i < nx) (hp : p < l.length) (hl : TokOK l) :
  RetX Tryz.prog 42 [.ptr i 0, .u (.bool (isB l p w)), .u (.int .i64 12)] [(i, pOb l p)] nx (PPost l i nx (fun _ => .tup []) (zky l p w)) := zg6 l p (isB l p w) 12 i nx hi hp hl
theorem znZ {l : List Tok} {p q : Nat} {b : Bool} {e : Int} {x : Unit} (h : zmE l p b e = .ok x q) : q = p ∧ b = true := by
 unfold zmE at h
 split at h
 ·cases h; exact ⟨rfl, by assumption⟩
 ·cases h
theorem zpZ {l : List Tok} {p : Nat} {t : Tok} (ht : l[p]? = some t) (i nx : Nat) (hi : i < nx) (hl : TokOK l) :
  RetX Tryz.prog 42 [.ptr i 0, .u (.bool (decide (t.kind = 0))), .u (.int .i64 12)] [(i, pOb l p)] nx (PPost l i nx (fun _ => .tup []) (zp0 l p)) := by
 have h := zg6 l p (decide (t.kind = 0)) 12 i nx hi (lGE.1 ht).1 hl
 have e : zmE l p (decide (t.kind = 0)) 12 = zp0 l p := by
  unfold zmE zp0 zcR
  rw [ht]
  simp
 rwa [e] at h
theorem zqF {l : List Tok} {p q : Nat} {x : Unit} (h : zp0 l p = .ok x q) : q = p := by
 unfold zp0 at h
 split at h
 ·split at h
  ·cases h; rfl
  ·cases h
 ·cases h
/-- A step of the lets, by the parser's own checks. -/
theorem zmb {l : List Tok} {f p : Nat} {acc : List Let} {t : Tok} (ht : l[p + 1]? = some t) : zgU l (f + 1) p acc = if isB l p [108, 101, 116] = true then
  (zmE l p (decide ((acc.length : Int) < 20)) 6).bind fun _ _ => (zmE l (p + 1) (decide (t.kind = 1) && zcy t.text) 12).bind fun _ _ =>
  (zmE l (p + 1) (!(acc.any fun x => decide (x.name = t.text))) 5).bind fun _ _ => (zbs l (p + 2) [[61]]).bind fun _ q => (zeq l q).bind fun e r => zgU l f r (acc ++ [⟨t.text, e⟩])
  else .ok acc p := by
 have hpa : zcR l (p + 1) = t.pos := by unfold zcR; rw [ht]
 rw [zgU, ht]
 unfold zmE
 rw [hpa]
 by_cases h1 : isB l p [108, 101, 116] = true
 ·rw [if_pos h1, if_pos h1]
  by_cases h2 : acc.length < 20
  ·rw [if_pos h2, if_pos (by simp; omega), PR.zaT]
   simp only
   by_cases h3 : t.kind = 1 ∧ zcy t.text = true
   ·have e3 : (decide (t.kind = 1) && zcy t.text) = true := by simp [h3]
    rw [if_pos h3, e3]
    simp only [if_true, PR.zaT]
    by_cases h4 : (acc.any fun x => decide (x.name = t.text)) = true
    ·have e4 : (!acc.any fun x => decide (x.name = t.text)) = false := by rw [h4]; rfl
     rw [if_pos h4, e4]
     rfl
    ·have e4 : (!acc.any fun x => decide (x.name = t.text)) = true := by simpa using h4
     rw [if_neg h4, e4]
     rfl
   ·have e3 : (decide (t.kind = 1) && zcy t.text) = false := by simpa using h3
    rw [if_neg h3, e3]
    rfl
  ·have e2 : decide ((acc.length : Int) < 20) = false := by simp; omega
   rw [if_neg h2, e2]
   rfl
 ·rw [if_neg h1, if_neg h1]
theorem zns {l : List Tok} {f p : Nat} {acc : List Let} (h : ¬ isB l p [108, 101, 116] = true) : zgU l (f + 1) p acc = .ok acc p := by rw [zgU, if_neg h]
theorem PR.zd7 {α β γ : Type} {r : PR α} {f : α → Nat → PR β} {g : β → Nat → PR γ} : (r.bind f).bind g = r.bind fun a p => (f a p).bind g := by cases r <;> rfl
/-- The lets as the rows of a slice. -/
def zgb (acc : List Let) : List (List U) := acc.map fun l => [.str l.name, .int .i64 l.body.op, .int .i64 l.body.n, .int .i64 l.body.unit, .str l.body.s, .sl (l.body.args.map Exp.row)]
theorem znt (acc : List Let) : (zgb acc).length = acc.length := by simp [zgb]
theorem zmc (acc : List Let) (s : W8) (e : Exp) : zgb (acc ++ [⟨s, e⟩]) = zgb acc ++ [[.str s, .int .i64 e.op, .int .i64 e.n, .int .i64 e.unit, .str e.s, .sl (e.args.map Exp.row)]] := by simp [zgb]
abbrev byD (b : By) : D := .u (.agg (zbz b))
end Go.Proofs.YthnemhfamhnfjaaGreatDoor
namespace Go.Proofs.YthnemhfamhnfjaaGreatDoor
open Go Go.VL
attribute [local simp] HS zde zb7 evPure opd uOf zaF St.put St.at getK binD binI binS binB nilD aggD zhn ziD lookD lookR zcB Go.VL.nextD zcF ziQ ziP zgW zcz mkV zdB zbq zbB mapEff zev zgg Key.kk shiftI arith unD convD zeg loadD cellsAt fieldAddrD fieldD indexAddrD indexD sliceD cutD lenD minmaxD nilCheckD buildD fillD zbU zdn ze5 setAll zcU zff zcx zhN zct St.add zaR zbR rowsOf zd0 zcJ zak zac zaa za9 zcI zaP entry zbO zbY valD zb8 zcA zhf zdz zdA zb1 zbQ zax zaW zbu delAll effD St.effS zdj zbl za5 zdk zbm za7 zcl za6 zaV zcm zdh zbJ zci zbt zcg zch zaK mkD zbL zbC zbP zax zcv D.ids Op.operands Call.operands zbI makeIfD makeFuncD typeAssertD ziB zdR zdS zhX zcD IntKind.bits zcV List.take_of_length_le List.range_succ
attribute [local irreducible] V G H HD HD2 HD4 zmC RetX zao Eff CallP CallV EndOK Fun Ret FinOK LoopI LoopW EndW
abbrev zjT : Ob := .box [.u (.int .i64 0), .u (.int .i64 0), .u (.int .i64 0), .u (.str []), .u .nil]
theorem zh8 (i j q nx : Nat) (hi : i < nx) (hj : j < nx) (hq : q < nx) (hij : i ≠ j) (hiq : i ≠ q) (hjq : j ≠ q) (p e pos err : Int) (a b c : Int) (t : List UInt8) (g : U) :
  RetDf Tryz.prog 40 [.ptr i 0, .ptr j 0, .ptr q 0] [(i, .box [.u (.int .i64 p)]), (j, .box [.u (.int .i64 e)]), (q, .box [.u (.int .i64 a), .u (.int .i64 b), .u (.int .i64 c), .u (.str t), .u g])] nx (.panicking (chP pos err))
   (fun u o n => settle u = .returning ∧ n = nx ∧ o = [(i, .box [.u (.int .i64 pos)]), (j, .box [.u (.int .i64 err)]), (q, zjT)]) := by
 have hne := zaB hi
 have hne2 := zaB hj
 have hne3 := zaB hq
 have hc0 := zg7 i j nx hi hj hij p e pos err
 refine RetDf.of_body Tryz.func40 rfl (by simp) (by simp) rfl fun Γ hn => ?_
 simp [entry, zkl, chP, Tryz.ntmps40]
 refine CallP.x2 hc0 (by simp [getK]) (by simp [getK, hij, Ne.symm hij]) hij rfl rfl (by simp) (by simp) (fun d o1 nx' hnx h => ?_) (fun ch o1 nx' hnx h => by cases h.1)
 obtain ⟨h1, rfl, h4⟩ := h
 have h4 := h4.symm
 subst h4
 cases h1
 simp [del, hij, Ne.symm hij, hiq, hjq, Ne.symm hiq, Ne.symm hjq]
 repeat' (first
  | ((first | refine zaf ?_ | refine zaj ?_ | refine zai ?_ | refine zat ?_ | fail); simp [hij, hiq, hjq])
  | fail)
 (refine ⟨by simp, { n := _, env := [], obs := [(i, .box [.u (.int .i64 pos)]), (j, .box [.u (.int .i64 err)]), (q, zjT)], next := nx }, (Wk.cut rfl (by simp [hn]) (by simp [wkO, zaa, getK, zab, zac, Ob.under, D.under, zad, zae, hi, hj, hq, hne, hne2, hne3, hij, hiq, hjq, Ne.symm hij, Ne.symm hiq, Ne.symm hjq]) (by simp [wkU, zam, zaa, getK, D.under, hi, hj, hq, hne, hne2, hne3, hij, hiq, hjq, Ne.symm hij, Ne.symm hiq, Ne.symm hjq]) (by simp [wkE, zam, zaa, getK, hi, hj, hq, hne, hne2, hne3, hij, hiq, hjq, Ne.symm hij, Ne.symm hiq, Ne.symm hjq])), by simp [hn], ?_⟩; try simp)
 all_goals rfl
theorem znp {s : List UInt8} : ∀ (f p : Nat) (l : List Tok), zhC f s p = .ok l → s.length < p + f → p ≤ s.length →
  (∀ (i : Nat) (t : Tok), l[i]? = some t → t.kind ≠ 0 → i + 1 < l.length) ∧ l.length ≤ s.length - p + 1 ∧ 0 < l.length
 | 0, p, l, _, h2, h3 => by omega
 | f + 1, p, l, h, h2, h3 => by
  rw [zhC] at h
  have hle := zdD za4 (s.drop p)
  rw [List.length_drop] at hle
  split at h
  ·cases h
   refine ⟨fun i t hi hk => ?_, by simp, by simp⟩
   rcases i with _ | i
   ·simp at hi
    subst hi
    exact absurd rfl hk
   ·simp at hi
  ·rename_i c r hd
   have hdl : (s.drop (p + zbA za4 (s.drop p))).length = r.length + 1 := by rw [hd]; rfl
   rw [List.length_drop] at hdl
   split at h
   ·cases h
   ·rename_i t ht
    obtain ⟨ht1, ht2⟩ := zfL ht
    simp only [List.length_cons] at ht2
    split at h
    ·cases h
    ·rename_i l' hl'
     cases h
     obtain ⟨g1, g2, g3⟩ := znp f _ l' hl' (by omega) (by omega)
     refine ⟨fun i t' hi hk => ?_, by simp only [List.length_cons]; omega, by simp⟩
     rcases i with _ | i
     ·simp; exact g3
     ·simp only [List.getElem?_cons_succ] at hi
      have := g1 i t' hi hk
      simp only [List.length_cons]
      omega
theorem zkD {s : List UInt8} {l : List Tok} (h : zgS s = .ok l) : TokOK l ∧ l.length ≤ 2001 ∧ 0 < l.length := by
 unfold zgS at h
 split at h
 ·cases h
 ·obtain ⟨g1, g2, g3⟩ := znp _ _ _ h (by omega) (by omega)
  exact ⟨⟨g1, by omega⟩, by omega, g3⟩
theorem Exp.zkc {op n u : Int} {s : List UInt8} {args : List Exp} {B : Int} (h : ∀ x ∈ args, x.lev ≤ B) (h0 : 0 ≤ B) : (Exp.mk op n u s args).lev ≤ B + 1 := by
 rw [Exp.zhd]
 simp only [Exp.args]
 have : ∀ (l : List Int) (a : Int), a ≤ B → (∀ x ∈ l, x ≤ B) → l.foldl max a ≤ B := by
  intro l
  induction l with
  | nil => intro a ha _; exact ha
  | cons b l ih => intro a ha hl; exact ih _ (by have := hl b (by simp); omega) fun x hx => hl x (by simp [hx])
 have := this (args.map Exp.lev) 0 h0 (fun x hx => by obtain ⟨y, hy, rfl⟩ := List.mem_map.1 hx; exact h y hy)
 omega
theorem zgF {l : List Tok} : ∀ (f : Nat),
  (∀ p form e q, zdI l f p form = .ok e q → e.lev ≤ f * f + 1) ∧
  (∀ form e own p e' q, zel l f form e own p = .ok e' q → e'.lev ≤ max e.lev (f * f + 1) + f) ∧
  (∀ p form e q, zbo l f p form = .ok e q → e.1.lev ≤ f * f + 1) ∧
  (∀ p e q, zaU l f p = .ok e q → e.lev ≤ f * f + 1)
 | 0 => ⟨fun _ _ _ _ h => by simp [zdI] at h, fun _ _ _ _ _ _ h => by simp [zel] at h, fun _ _ _ _ h => by simp [zbo] at h, fun _ _ _ h => by simp [zaU] at h⟩
 | f + 1 => by
  obtain ⟨he, hlo, hpr, hpm⟩ := zgF f
  have hsq : ((f + 1 : Nat) : Int) * ((f + 1 : Nat) : Int) = (f : Int) * f + 2 * f + 1 := by
   rw [show ((f + 1 : Nat) : Int) = (f : Int) + 1 by omega, Int.add_mul, Int.mul_add]; omega
  rw [hsq]
  have h0 : (0 : Int) ≤ (f : Int) * f := Int.mul_nonneg (by omega) (by omega)
  generalize hF : (f : Int) * f = F at *
  refine ⟨fun p form e q h => ?_, fun form e own p e' q h => ?_, fun p form e q h => ?_, fun p e q h => ?_⟩
  ·rw [zdI] at h
   obtain ⟨a, r, h1, h2⟩ := PR.zaw h
   have g1 := hpr _ _ _ _ h1
   have g2 := hlo _ _ _ _ _ _ h2
   omega
  ·rw [zel] at h
   split at h
   ·cases h; omega
   ·split at h
    ·cases h; omega
    ·obtain ⟨a, r, h1, h2⟩ := PR.zaw h
     have g1 := he _ _ _ _ h1
     have g2 := hlo _ _ _ _ _ _ h2
     rename_i x _ _
     have g3 := Exp.zkc (op := x.op) (n := 0) (u := 0) (s := []) (args := [e, a]) (B := max e.lev (F + 1)) (by
      intro y hy
      simp only [List.mem_cons, List.not_mem_nil, or_false] at hy
      rcases hy with rfl | rfl <;> omega) (by omega)
     omega
  ·rw [zbo] at h
   split at h
   ·obtain ⟨a, r, h1, h⟩ := PR.zaw h
    obtain ⟨_, r2, h2, h⟩ := PR.zaw h
    obtain ⟨b, r3, h3, h⟩ := PR.zaw h
    obtain ⟨_, r4, h4, h⟩ := PR.zaw h
    obtain ⟨c, r5, h5, h⟩ := PR.zaw h
    cases h
    have g1 := he _ _ _ _ h1
    have g3 := he _ _ _ _ h3
    have g5 := he _ _ _ _ h5
    have := Exp.zkc (op := 13) (n := 0) (u := 0) (s := []) (args := [a, b, c]) (B := F + 1) (by
     intro y hy
     simp only [List.mem_cons, List.not_mem_nil, or_false] at hy
     rcases hy with rfl | rfl | rfl <;> omega) (by omega)
    simp only
    omega
   ·split at h
    ·obtain ⟨a, r, h1, h⟩ := PR.zaw h
     cases h
     have g1 := he _ _ _ _ h1
     have := Exp.zkc (op := 12) (n := 0) (u := 0) (s := []) (args := [a]) (B := F + 1) (by
      intro y hy
      simp only [List.mem_cons, List.not_mem_nil, or_false] at hy
      rcases hy with rfl; omega) (by omega)
     simp only
     omega
    ·obtain ⟨a, r, h1, h⟩ := PR.zaw h
     cases h
     have g1 := hpm _ _ _ h1
     simp only
     omega
  ·have leaf : ∀ (op n u : Int) (s : List UInt8), (Exp.mk op n u s []).lev ≤ F + 2 * f + 1 + 1 := fun op n u s => by
    have := Exp.zkc (op := op) (n := n) (u := u) (s := s) (args := []) (B := 0) (by simp) (by omega)
    omega
   rw [zaU] at h
   split at h
   ·cases h
   ·split at h
    ·obtain ⟨a, r, h1, h⟩ := PR.zaw h
     cases h; exact leaf ..
    split at h
    ·cases h; exact leaf ..
    split at h
    ·cases h; exact leaf ..
    split at h
    ·obtain ⟨_, r2, h2, h⟩ := PR.zaw h
     obtain ⟨a, r3, h3, h⟩ := PR.zaw h
     obtain ⟨_, r4, h4, h⟩ := PR.zaw h
     obtain ⟨b, r5, h5, h⟩ := PR.zaw h
     obtain ⟨_, r6, h6, h⟩ := PR.zaw h
     have g3 := he _ _ _ _ h3
     have g5 := he _ _ _ _ h5
     have := Exp.zkc (op := if isB l p [109, 97, 120] = true then 7 else 6) (n := 0) (u := 0) (s := []) (args := [a, b]) (B := F + 1) (by
      intro y hy
      simp only [List.mem_cons, List.not_mem_nil, or_false] at hy
      rcases hy with rfl | rfl <;> omega) (by omega)
     cases h
     omega
    split at h
    ·obtain ⟨a, r3, h3, h⟩ := PR.zaw h
     obtain ⟨_, r4, h4, h⟩ := PR.zaw h
     cases h
     have g3 := he _ _ _ _ h3
     omega
    split at h
    ·cases h; exact leaf ..
    ·cases h
def zld (l : List Tok) (p : Nat) : Int := match l[p]? with | some t => t.kind | none => 0
def zdN : Exp := .mk 0 0 0 [] []
/-- What ParseExp returns: the expression, the place, the error. -/
def zdY (s : List UInt8) : Exp × Int × Int := match zgS s with
 | .error (p, e) => (zdN, p, e)
 | .ok l => match zdI l (4 * l.length + 3) 0 0 with
  | .stop pos e => (zdN, pos, e)
  | .ok y q => if zld l q ≠ 0 then (zdN, zcR l q, 12) else if 12 < y.lev then (zdN, zcR l q, 6) else (y, 0, 0)
theorem zng {c : UInt8} {r : List UInt8} {e : Int} (h : ze3 (c :: r) = .error e) : e ≠ 0 := by
 unfold ze3 at h
 simp only at h
 split at h
 ·split at h <;> cases h
  omega
 ·split at h
  ·split at h <;> cases h
   omega
  ·split at h <;> cases h
   omega
theorem zk7 {s : List UInt8} : ∀ (f p : Nat) (q : Nat) (e : Int), zhC f s p = .error (q, e) → p ≤ s.length → e ≠ 0 ∧ q ≤ s.length
 | 0, p, q, e, h, _ => by simp [zhC] at h
 | f + 1, p, q, e, h, h3 => by
  rw [zhC] at h
  have hle := zdD za4 (s.drop p)
  rw [List.length_drop] at hle
  split at h
  ·cases h
  ·rename_i c r hd
   have hdl : (s.drop (p + zbA za4 (s.drop p))).length = r.length + 1 := by rw [hd]; rfl
   rw [List.length_drop] at hdl
   split at h
   ·rename_i ht
    cases h
    exact ⟨zng ht, by omega⟩
   ·rename_i t ht
    obtain ⟨ht1, ht2⟩ := zfL ht
    simp only [List.length_cons] at ht2
    split at h
    ·rename_i x hx
     cases h
     exact zk7 f _ q e hx (by omega)
    ·cases h
theorem zk5 {s : List UInt8} {q : Nat} {e : Int} (h : zgS s = .error (q, e)) : e ≠ 0 ∧ q ≤ s.length := by
 unfold zgS at h
 split at h
 ·cases h; exact ⟨by decide, by omega⟩
 ·exact zk7 _ _ _ _ h (by omega)
def zpn (r : Exp × Int × Int) : D := .tup [.u (.agg r.1.row), .u (.int .i64 r.2.1), .u (.int .i64 r.2.2)]
theorem zjn (s : List UInt8) : RetX Tryz.prog 12 [.u (.str s)] [] 0 (fun r o n => r = .val (zpn (zdY s))) := by
 unfold zdY
 cases hlx : zgS s with
 | error pe =>
  obtain ⟨p, e⟩ := pe
  have ho := fun nx => zkZ s p e nx hlx
  have he := (zk5 hlx).1
  simp only
  (refine RetX.zdr Tryz.func12 rfl (by simp) fun Γ hn hdfr hpan hesc => ?_); simp only [entry, ziC, ziN, maC, maN, oA, Tryz.ntmps12]
  repeat' (first
  | ((first | refine zaf ?_ | refine zaO rfl ?_ | refine za3 rfl ?_ | refine zaj ?_ | refine zag ?_ | refine zai ?_ | fail); simp [he])
  | (refine zaX (hC _ (by kernel_rfl)) (hk _ ?_); clear hC hk C k; simp only [zao])
  | (refine za0 rfl (by kernel_rfl) (by first | (simp [hn]; done) | (simp [hn]; omega) | fail) fun C k hC hk => ?_; simp [he])
  | (refine zaq ?_; simp only [zao])
  | (refine CallP.okL (ho _) (by first | (simp [he, zaa, getK, zab, zac, zak, zaK, del]; done) | fail) (by rfl) (by rfl) ?_; (try simp [he, zc1, del]))
  | fail)
  refine EndW.norm ?_
  simp [St.norm, zbh, zbZ, zcj, zck]
  (refine EndW.here ?_; (first | (refine EndOK.fin (.inr rfl) ?_) | (refine EndOK.fin (.inl rfl) ?_)); simp [zaJ, zah, Tryz.results12]; refine FinOK.here (by simp) ?_; try simp)
  simp [zpn, Exp.row, zdN]
 | ok l =>
  obtain ⟨hl, hl2, hl0⟩ := zkD hlx
  have ho := fun nx => zm9 s l nx hlx
  have hE := (zjl hl (4 * l.length + 3)).1 0 0 3 4 (by omega) hl0 (by omega) (by omega) (by omega)
  simp only
  cases hr : zdI l (4 * l.length + 3) 0 0 with
  | stop pos e =>
   simp only [hr] at hE ⊢
   (refine RetX.zdr Tryz.func12 rfl (by simp) fun Γ hn hdfr hpan hesc => ?_); simp only [entry, ziC, ziN, maC, maN, oA, Tryz.ntmps12]
   rw [zdu]
   repeat' (first
  | ((first | refine zaf ?_ | refine zaj ?_ | refine zag ?_ | refine zai ?_ | fail); simp)
  | (refine zap ?_; simp only [zao])
  | (refine CallP.okL (ho _) (by first | (simp [zaa, getK, zab, zac, zak, zaK, del]; done) | fail) (by rfl) (by rfl) ?_; (try simp [zc1, del]))
  | fail)
   refine zfX hesc hdfr rfl (by simp) ?_
   have hn0 := hn
   have hpan0 := hpan
   intro Γ' hn hpan
   simp
   repeat' (first
  | ((first | refine zaf ?_ | refine zag ?_ | fail); simp)
  | (refine CallP.zd8 (hE) (by first | (simp [zaa, getK, zab, zac]; done) | fail) (by rfl) (by first | assumption | (simp; done) | fail) (by rfl) (by simp) ?_; rintro ob' ⟨q', rfl⟩; refine ⟨_, Wk.refl _, ?_⟩)
  | fail)
   refine hpan _ _ ?_
   refine LeaveD.of [(1, .box [.u (.int .i64 0)]), (2, .box [.u (.int .i64 0)]), (0, zjT)] (by simp [zaa, getK, zab, zac]) (zh8 1 2 0 _ (by simp) (by simp) (by simp) (by decide) (by decide) (by decide) 0 0 _ _ 0 0 0 [] .nil) ?_
   simp only [show Γ.base.n0 = 0 from hn0]
   simp [zc1, del]
   refine EndW.norm ?_
   simp [St.norm, zbh, zbZ, zcj, zck]
   (refine EndW.here ?_; (first | (refine EndOK.fin (.inr rfl) ?_) | (refine EndOK.fin (.inl rfl) ?_)); simp [zaJ, zah, Tryz.results12]; refine FinOK.here (by simp) ?_; try simp)
   simp [zpn, Exp.row, zdN]
  | ok y q =>
   have hEx := zcL hE hr
   obtain ⟨g0a, g0b⟩ := (zbV hl _).1 _ _ _ _ hr hl0
   have hlev := (zgF (l := l) _).1 _ _ _ _ hr
   have hlev2 : y.lev ≤ 1000000000 := by
    have h1 : ((4 * l.length + 3 : Nat) : Int) * ((4 * l.length + 3 : Nat) : Int) ≤ 8007 * 8007 := Int.mul_le_mul (by omega) (by omega) (by omega) (by omega)
    omega
   have hlv := zhD (SizeOf.sizeOf y) y (Nat.le_refl _) hlev2
   rw [Exp.row_eq] at hlv
   obtain ⟨t, ht⟩ : ∃ t, l[q]? = some t := ⟨_, List.getElem?_eq_getElem g0b⟩
   have hnx := zbM l q t ht hl.len
   have hka : zld l q = t.kind := by unfold zld; rw [ht]
   have hpa : zcR l q = t.pos := by unfold zcR; rw [ht]
   simp only [hka, hpa]
   by_cases hk : t.kind = 0
   ·have hc1 := fun nx (h : 3 < nx) => zdM l q 12 3 nx h
    rw [if_neg (by simp [hk])]
    by_cases hv : 12 < y.lev
    ·have hc2 := fun nx (h : 3 < nx) => zcG l q t 6 3 nx h ht hl.len
     have hv2 : ¬ y.lev ≤ 12 := by omega
     rw [if_pos hv]
     (refine RetX.zdr Tryz.func12 rfl (by simp) fun Γ hn hdfr hpan hesc => ?_); simp only [entry, ziC, ziN, maC, maN, oA, Tryz.ntmps12]
     rw [zdu]
     repeat' (first
  | ((first | refine zaf ?_ | refine zaj ?_ | refine zag ?_ | refine zai ?_ | fail); simp)
  | (refine zap ?_; simp only [zao])
  | (refine CallP.okL (ho _) (by first | (simp [zaa, getK, zab, zac, zak, zaK, del]; done) | fail) (by rfl) (by rfl) ?_; (try simp [zc1, del]))
  | fail)
     refine zfX hesc hdfr rfl (by simp) ?_
     have hn0 := hn
     have hpan0 := hpan
     intro Γ' hn hpan
     simp
     repeat' (first
  | ((first | refine zaf ?_ | refine zaj ?_ | refine zag ?_ | fail); simp [hk, hv, hv2, del])
  | (refine CallP.fE (hlv) (by first | rfl | fail) (by first | simp [hk, hv, hv2, del] <;> rfl | fail) ?_; (try simp [hk, hv, hv2, del]))
  | (refine CallP.fE (hnx) (by first | rfl | fail) (by first | simp [hk, hv, hv2, del] <;> rfl | fail) ?_; (try simp [hk, hv, hv2, del]))
  | (refine CallP.ok1 (hEx) (by first | (simp [hk, hv, hv2, del, zaa, getK, zab, zac]; done) | fail) (by rfl) (by rfl) ?_; (try simp [hk, hv, hv2, del]))
  | (refine CallP.ok1 (hc1 _ (by simp)) (by first | (simp [hk, hv, hv2, del, zaa, getK, zab, zac]; done) | fail) (by rfl) (by rfl) ?_; (try simp [hk, hv, hv2, del]))
  | (refine CallP.zd8 (hc2 _ (by simp)) (by first | (simp [hk, hv, hv2, del, zaa, getK, zab, zac]; done) | fail) (by rfl) (by first | assumption | (simp; done) | fail) (by rfl) (by simp) ?_; rintro ob' ⟨q', rfl⟩; refine ⟨_, Wk.refl _, ?_⟩)
  | fail)
     refine hpan _ _ ?_
     refine LeaveD.of [(1, .box [.u (.int .i64 0)]), (2, .box [.u (.int .i64 0)]), (0, zjT)] (by simp [zaa, getK, zab, zac]) (zh8 1 2 0 _ (by simp) (by simp) (by simp) (by decide) (by decide) (by decide) 0 0 _ _ 0 0 0 [] .nil) ?_
     simp only [show Γ.base.n0 = 0 from hn0]
     simp [zc1, del]
     refine EndW.norm ?_
     simp [St.norm, zbh, zbZ, zcj, zck]
     (refine EndW.here ?_; (first | (refine EndOK.fin (.inr rfl) ?_) | (refine EndOK.fin (.inl rfl) ?_)); simp [zaJ, zah, Tryz.results12]; refine FinOK.here (by simp) ?_; try simp)
     simp [zpn, Exp.row, zdN]
    ·have hc2 := fun nx (h : 3 < nx) => zdM l q 6 3 nx h
     have hv2 : y.lev ≤ 12 := by omega
     rw [if_neg hv]
     (refine RetX.zdr Tryz.func12 rfl (by simp) fun Γ hn hdfr hpan hesc => ?_); simp only [entry, ziC, ziN, maC, maN, oA, Tryz.ntmps12]
     rw [zdu]
     repeat' (first
  | ((first | refine zaf ?_ | refine zaj ?_ | refine zag ?_ | refine zai ?_ | fail); simp)
  | (refine zap ?_; simp only [zao])
  | (refine CallP.okL (ho _) (by first | (simp [zaa, getK, zab, zac, zak, zaK, del]; done) | fail) (by rfl) (by rfl) ?_; (try simp [zc1, del]))
  | fail)
     refine zfX hesc hdfr rfl (by simp) ?_
     have hn0 := hn
     have hpan0 := hpan
     intro Γ' hn hpan
     simp
     repeat' (first
  | ((first | refine zaf ?_ | refine zaj ?_ | refine zag ?_ | fail); simp [hk, hv, hv2, del])
  | (refine zaq ?_; simp only [zao])
  | (refine CallP.fE (hlv) (by first | rfl | fail) (by first | simp [hk, hv, hv2, del] <;> rfl | fail) ?_; (try simp [hk, hv, hv2, del]))
  | (refine CallP.fE (hnx) (by first | rfl | fail) (by first | simp [hk, hv, hv2, del] <;> rfl | fail) ?_; (try simp [hk, hv, hv2, del]))
  | (refine CallP.ok1 (hEx) (by first | (simp [hk, hv, hv2, del, zaa, getK, zab, zac]; done) | fail) (by rfl) (by rfl) ?_; (try simp [hk, hv, hv2, del]))
  | (refine CallP.ok1 (hc1 _ (by simp)) (by first | (simp [hk, hv, hv2, del, zaa, getK, zab, zac]; done) | fail) (by rfl) (by rfl) ?_; (try simp [hk, hv, hv2, del]))
  | (refine CallP.ok1 (hc2 _ (by simp)) (by first | (simp [hk, hv, hv2, del, zaa, getK, zab, zac]; done) | fail) (by rfl) (by rfl) ?_; (try simp [hk, hv, hv2, del]))
  | fail)
     refine ⟨rfl, ?_⟩
     refine LeaveD.of [(1, .box [.u (.int .i64 0)]), (2, .box [.u (.int .i64 0)]), (0, .box ([.int .i64 y.op, .int .i64 y.n, .int .i64 y.unit, .str y.s, .sl (y.args.map Exp.row)].map .u))] (by simp [zaa, getK, zab, zac]) (zos 1 2 0 _ (by simp) (by simp) (by simp) (by decide) (by decide) (by decide) 0 0 _) ?_
     simp only [show Γ.base.n0 = 0 from hn0]
     simp [zc1, del]
     (refine EndW.here ?_; (first | (refine EndOK.fin (.inr rfl) ?_) | (refine EndOK.fin (.inl rfl) ?_)); simp [zaJ, zah, Tryz.results12]; refine FinOK.here (by simp) ?_; try simp)
     simp [zpn, Exp.row_eq]
   ·have hc1 := fun nx (h : 3 < nx) => zcG l q t 12 3 nx h ht hl.len
    rw [if_pos hk]
    (refine RetX.zdr Tryz.func12 rfl (by simp) fun Γ hn hdfr hpan hesc => ?_); simp only [entry, ziC, ziN, maC, maN, oA, Tryz.ntmps12]
    rw [zdu]
    repeat' (first
  | ((first | refine zaf ?_ | refine zaj ?_ | refine zag ?_ | refine zai ?_ | fail); simp)
  | (refine zap ?_; simp only [zao])
  | (refine CallP.okL (ho _) (by first | (simp [zaa, getK, zab, zac, zak, zaK, del]; done) | fail) (by rfl) (by rfl) ?_; (try simp [zc1, del]))
  | fail)
    refine zfX hesc hdfr rfl (by simp) ?_
    have hn0 := hn
    have hpan0 := hpan
    intro Γ' hn hpan
    simp
    repeat' (first
  | ((first | refine zaf ?_ | refine zaj ?_ | refine zag ?_ | fail); simp [hk, del])
  | (refine CallP.fE (hnx) (by first | rfl | fail) (by first | simp [hk, del] <;> rfl | fail) ?_; (try simp [hk, del]))
  | (refine CallP.ok1 (hEx) (by first | (simp [hk, del, zaa, getK, zab, zac]; done) | fail) (by rfl) (by rfl) ?_; (try simp [hk, del]))
  | (refine CallP.zd8 (hc1 _ (by simp)) (by first | (simp [hk, del, zaa, getK, zab, zac]; done) | fail) (by rfl) (by first | assumption | (simp; done) | fail) (by rfl) (by simp) ?_; rintro ob' ⟨q', rfl⟩; refine ⟨_, Wk.refl _, ?_⟩)
  | fail)
    refine hpan _ _ ?_
    refine LeaveD.of [(1, .box [.u (.int .i64 0)]), (2, .box [.u (.int .i64 0)]), (0, zjT)] (by simp [zaa, getK, zab, zac]) (zh8 1 2 0 _ (by simp) (by simp) (by simp) (by decide) (by decide) (by decide) 0 0 _ _ 0 0 0 [] .nil) ?_
    simp only [show Γ.base.n0 = 0 from hn0]
    simp [zc1, del]
    refine EndW.norm ?_
    simp [St.norm, zbh, zbZ, zcj, zck]
    (refine EndW.here ?_; (first | (refine EndOK.fin (.inr rfl) ?_) | (refine EndOK.fin (.inl rfl) ?_)); simp [zaJ, zah, Tryz.results12]; refine FinOK.here (by simp) ?_; try simp)
    simp [zpn, Exp.row, zdN]
theorem zf3 (s : List UInt8) : Fun Tryz.prog 12 [.u (.str s)] (· = .tup [zhe (zdY s).1, .u (.int .i64 (zdY s).2.1), .u (.int .i64 (zdY s).2.2)]) := by
 unfold Fun
 exact (zjn s).ret (fun d o n h => by
  cases h
  refine ⟨by simp [zpn, zau], ?_⟩
  rw [zpn, Exp.row_eq]
  rfl) (fun ch o n h => by cases h)
abbrev zdi (a b : Exp) : Prop := Fun Tryz.prog 28 [.u (.agg a.row), .u (.agg b.row)] (· = .u (.bool (eqB a b)))
theorem zmt (A B : List Exp) (h : ∀ a ∈ A, ∀ b, zdi a b) : Fun Tryz.prog 73 [.u (.sl (A.map Exp.row)), .u (.sl (B.map Exp.row)), .fnc (.func 28) []] (· = .u (.bool (eqB A B))) := by
 by_cases hl : A.length = B.length
 ·have hl' : (A.length : Int) = B.length := by omega
  (refine Fun.of_body Tryz.func73 rfl (by simp) fun Γ hn => ?_); simp only [entry, ziC, ziN, maC, maN, oA, Tryz.ntmps73]
  refine zj7 (x := 0) rfl fun hll => ?_
  simp at hll
  repeat' (first
  | ((first | refine zaf ?_ | refine zaj ?_ | refine zag ?_ | refine zai ?_ | refine zav ?_ | fail); simp [hl, hl'])
  | (refine zap ?_; simp only [zao])
  | fail)
  refine zcW (α := { i : Nat // i ≤ A.length ∧ A.take i = B.take i }) [0, 1, 2, 6, 15, 16] (fun x => [(17, .u (.int .i64 x.1))]) (fun x => []) 0 (fun x => A.length - x.1) ⟨0, by omega, by simp⟩ ?_ ?_
  ·exact (Wk.cut rfl (by simp [hn, St.lp]) (by simp [wkO, St.lp, zaa, getK, Ob.under, D.under, zad, zae, hl]) (by simp [wkU, St.lp, zam, zaa, getK, D.under, hl]) (by simp [wkE, St.lp, zam, zaa, getK, hl] <;> (try (intros; simp_all; done)) <;> (try (intros; omega)) <;> (try grind)))
  rintro ⟨i, hi, hb⟩
  simp [St.lp, St.only, zam, zaa, getK]
  rcases hx : A[i]? with _ | a
  ·have hge : A.length ≤ i := by simpa using hx
   obtain rfl : i = A.length := by omega
   rw [List.take_of_length_le (Nat.le_refl _), List.take_of_length_le (by omega)] at hb
   subst hb
   rw [zg4]
   repeat' (first
  | ((first | refine zaf ?_ | refine zaj ?_ | refine zag ?_ | fail); simp [hx, hl])
  | (refine zaq ?_; simp only [zao])
  | (refine zbb ?_; simp [zao])
  | fail)
   (refine EndOK.val (.inr rfl) ?_; simp [zaJ, zah, zau, Tryz.results73])
  ·have hlt : i < A.length := (lGE.1 hx).1
   have hlt2 : i < B.length := by omega
   obtain ⟨b, hy⟩ : ∃ b, B[i]? = some b := ⟨_, List.getElem?_eq_getElem hlt2⟩
   have hi2 : (i : Int) < B.length := by omega
   have h1 : zdi a b := h a (List.mem_of_getElem? hx) b
   unfold zdi at h1
   by_cases hab : a = b
   ·rw [zcq.2 hab] at h1
    rw [Exp.row_eq, Exp.row_eq] at h1
    repeat' (first
  | ((first | refine zaf ?_ | refine zaj ?_ | fail); simp [hx, hy, hi2, Exp.row_eq])
  | (refine ⟨by omega, ?_⟩)
  | ((first | refine zag ?_ | refine zai ?_ | refine zat ?_ | fail); simp [hx, hy, hi2, Exp.row_eq])
  | (refine zap ?_; simp only [zao])
  | (refine CallP.fE (h1) (by first | rfl | fail) (by first | simp [hx, hy, hi2, Exp.row_eq] <;> rfl | fail) ?_; (try simp [hx, hy, hi2, Exp.row_eq]))
  | fail)
    have hsn : A.take (i + 1) = B.take (i + 1) := by
     rw [List.take_succ_eq_append_getElem hlt, List.take_succ_eq_append_getElem hlt2, hb, (lGE.1 hx).2, (lGE.1 hy).2, hab]
    refine LoopW.next ⟨i + 1, by omega, hsn⟩ (by simp; omega) ?_
    exact (Wk.cut rfl (by simp [hn, St.lp]) (by simp [wkO, St.lp, zaa, getK, Ob.under, D.under, zad, zae, hl]) (by simp [wkU, St.lp, zam, zaa, getK, D.under, hl]) (by simp [wkE, St.lp, zam, zaa, getK, hl] <;> (try (intros; simp_all; done)) <;> (try (intros; omega)) <;> (try grind)))
   ·rw [zdJ hab] at h1
    rw [Exp.row_eq, Exp.row_eq] at h1
    have hne : A ≠ B := fun e => by subst e; rw [hx] at hy; cases hy; exact hab rfl
    rw [zdJ hne]
    repeat' (first
  | ((first | refine zaf ?_ | refine zaj ?_ | refine zag ?_ | refine zai ?_ | fail); simp [hx, hy, hi2, Exp.row_eq])
  | ((first | refine zaq ?_ | refine zap ?_ | fail); simp only [zao])
  | (refine CallP.fE (h1) (by first | rfl | fail) (by first | simp [hx, hy, hi2, Exp.row_eq] <;> rfl | fail) ?_; (try simp [hx, hy, hi2, Exp.row_eq]))
  | fail)
    (refine EndOK.val (.inr rfl) ?_; simp [zaJ, zah, zau, Tryz.results73])
 ·have hl' : ¬ (A.length : Int) = B.length := by omega
  rw [zdJ (fun e => hl (by rw [e]))]
  (refine Fun.of_body Tryz.func73 rfl (by simp) fun Γ hn => ?_); simp only [entry, ziC, ziN, maC, maN, oA, Tryz.ntmps73]
  repeat' (first
  | ((first | refine zaf ?_ | refine zaj ?_ | refine zag ?_ | refine zai ?_ | fail); simp [hl, hl'])
  | (refine zaq ?_; simp only [zao])
  | fail)
  (refine EndOK.val (.inr rfl) ?_; simp [zaJ, zah, zau, Tryz.results73])
theorem zoo : ∀ (n : Nat) (a b : Exp), SizeOf.sizeOf a ≤ n → zdi a b := by
 intro n
 induction n with
 | zero =>
  intro a b h
  cases a with
  | mk op n u s args => simp only [Exp.mk.sizeOf_spec] at h; omega
 | succ n ih =>
  intro a b hs
  have h1 := zmt a.args b.args (fun x hx y => ih x y (by have := Exp.zfh hx; omega))
  unfold zdi
  have key : ∀ B : Bool, (B = true ↔ a = b) → eqB a b = B := fun B h => by
   cases B with
   | true => exact zcq.2 (h.1 rfl)
   | false => exact zdJ fun e => by have := h.2 e; cases this
  have hmk : a = b ↔ a.op = b.op ∧ a.n = b.n ∧ a.unit = b.unit ∧ a.s = b.s ∧ a.args = b.args := by
   cases a; cases b
   simp only [Exp.op, Exp.n, Exp.unit, Exp.s, Exp.args, Exp.mk.injEq]
  rw [Exp.row_eq, Exp.row_eq b]
  by_cases c1 : a.op = b.op
  ·by_cases c2 : a.n = b.n
   ·by_cases c3 : a.unit = b.unit
    ·by_cases c4 : a.s = b.s
     ·rw [key (eqB a.args b.args) (by rw [zcq, hmk]; exact ⟨fun h => ⟨c1, c2, c3, c4, h⟩, fun h => h.2.2.2.2⟩)]
      (refine Fun.of_body Tryz.func28 rfl (by simp) fun Γ hn => ?_); simp only [entry, ziC, ziN, maC, maN, oA, Tryz.ntmps28]
      repeat' (first
  | ((first | refine zaf ?_ | refine zaj ?_ | refine zag ?_ | fail); simp [c1, c2, c3, c4])
  | (refine zaq ?_; simp only [zao])
  | (refine CallP.fE (h1) (by first | rfl | fail) (by first | simp [c1, c2, c3, c4] <;> rfl | fail) ?_; (try simp [c1, c2, c3, c4]))
  | fail)
      (refine EndOK.val (.inr rfl) ?_; simp [zaJ, zah, zau, Tryz.results28])
     ·rw [key false (by rw [hmk]; simp [c4])]
      (refine Fun.of_body Tryz.func28 rfl (by simp) fun Γ hn => ?_); simp only [entry, ziC, ziN, maC, maN, oA, Tryz.ntmps28]
      repeat' (first
  | ((first | refine zaf ?_ | refine zaj ?_ | refine zag ?_ | fail); simp [c1, c2, c3, c4])
  | (refine zaq ?_; simp only [zao])
  | fail)
      (refine EndOK.val (.inr rfl) ?_; simp [zaJ, zah, zau, Tryz.results28])
    ·rw [key false (by rw [hmk]; simp [c3])]
     (refine Fun.of_body Tryz.func28 rfl (by simp) fun Γ hn => ?_); simp only [entry, ziC, ziN, maC, maN, oA, Tryz.ntmps28]
     repeat' (first
  | ((first | refine zaf ?_ | refine zaj ?_ | refine zag ?_ | fail); simp [c1, c2, c3])
  | (refine zaq ?_; simp only [zao])
  | fail)
     (refine EndOK.val (.inr rfl) ?_; simp [zaJ, zah, zau, Tryz.results28])
   ·rw [key false (by rw [hmk]; simp [c2])]
    (refine Fun.of_body Tryz.func28 rfl (by simp) fun Γ hn => ?_); simp only [entry, ziC, ziN, maC, maN, oA, Tryz.ntmps28]
    repeat' (first
  | ((first | refine zaf ?_ | refine zaj ?_ | refine zag ?_ | fail); simp [c1, c2])
  | (refine zaq ?_; simp only [zao])
  | fail)
    (refine EndOK.val (.inr rfl) ?_; simp [zaJ, zah, zau, Tryz.results28])
  ·rw [key false (by rw [hmk]; simp [c1])]
   (refine Fun.of_body Tryz.func28 rfl (by simp) fun Γ hn => ?_); simp only [entry, ziC, ziN, maC, maN, oA, Tryz.ntmps28]
   repeat' (first
  | ((first | refine zaf ?_ | refine zaj ?_ | refine zag ?_ | fail); simp [c1])
  | (refine zaq ?_; simp only [zao])
  | fail)
   (refine EndOK.val (.inr rfl) ?_; simp [zaJ, zah, zau, Tryz.results28])
theorem zb9 (a b : Exp) : zdi a b := zoo (SizeOf.sizeOf a) a b (Nat.le_refl _)
theorem zlM (x y : Let) : Fun Tryz.prog 72 [znA x, znA y] (· = .u (.bool (eqB x y))) := by
 have h1 := zb9 x.body y.body
 unfold zdi at h1
 rw [Exp.row_eq, Exp.row_eq] at h1
 simp only [znA]
 have hmk : x = y ↔ x.name = y.name ∧ x.body = y.body := by cases x; cases y; simp
 by_cases c1 : x.name = y.name
 ·have e : eqB x y = eqB x.body y.body := by
   by_cases c2 : x.body = y.body
   ·rw [zcq.2 c2, zcq.2 (hmk.2 ⟨c1, c2⟩)]
   ·rw [zdJ c2, zdJ fun h => c2 (hmk.1 h).2]
  rw [e]
  (refine Fun.of_body Tryz.func72 rfl (by simp) fun Γ hn => ?_); simp only [entry, ziC, ziN, maC, maN, oA, Tryz.ntmps72]
  repeat' (first
  | ((first | refine zaf ?_ | refine zaj ?_ | refine zag ?_ | fail); simp [c1])
  | (refine zaq ?_; simp only [zao])
  | (refine CallP.fE (h1) (by first | rfl | fail) (by first | simp [c1] <;> rfl | fail) ?_; (try simp [c1]))
  | fail)
  (refine EndOK.val (.inr rfl) ?_; simp [zaJ, zah, zau, Tryz.results72])
 ·rw [zdJ fun h => c1 (hmk.1 h).1]
  (refine Fun.of_body Tryz.func72 rfl (by simp) fun Γ hn => ?_); simp only [entry, ziC, ziN, maC, maN, oA, Tryz.ntmps72]
  repeat' (first
  | ((first | refine zaf ?_ | refine zaj ?_ | refine zag ?_ | fail); simp [c1])
  | (refine zaq ?_; simp only [zao])
  | fail)
  (refine EndOK.val (.inr rfl) ?_; simp [zaJ, zah, zau, Tryz.results72])
theorem zms (A B : List Let) : Fun Tryz.prog 71 [.u (zgT A), .u (zgT B), .fnc (.func 72) []] (· = .u (.bool (eqB A B))) := by
 simp only [zgT]
 by_cases hl : A.length = B.length
 ·have hl' : (A.length : Int) = B.length := by omega
  (refine Fun.of_body Tryz.func71 rfl (by simp) fun Γ hn => ?_); simp only [entry, ziC, ziN, maC, maN, oA, Tryz.ntmps71]
  refine zj7 (x := 0) rfl fun hll => ?_
  simp at hll
  repeat' (first
  | ((first | refine zaf ?_ | refine zaj ?_ | refine zag ?_ | refine zai ?_ | refine zav ?_ | fail); simp [hl, hl'])
  | (refine zap ?_; simp only [zao])
  | fail)
  refine zcW (α := { i : Nat // i ≤ A.length ∧ A.take i = B.take i }) [0, 1, 2, 6, 15, 16] (fun x => [(17, .u (.int .i64 x.1))]) (fun x => []) 0 (fun x => A.length - x.1) ⟨0, by omega, by simp⟩ ?_ ?_
  ·exact (Wk.cut rfl (by simp [hn, St.lp]) (by simp [wkO, St.lp, zaa, getK, Ob.under, D.under, zad, zae, hl]) (by simp [wkU, St.lp, zam, zaa, getK, D.under, hl]) (by simp [wkE, St.lp, zam, zaa, getK, hl] <;> (try (intros; simp_all; done)) <;> (try (intros; omega)) <;> (try grind)))
  rintro ⟨i, hi, hb⟩
  simp [St.lp, St.only, zam, zaa, getK]
  rcases hx : A[i]? with _ | a
  ·have hge : A.length ≤ i := by simpa using hx
   obtain rfl : i = A.length := by omega
   rw [List.take_of_length_le (Nat.le_refl _), List.take_of_length_le (by omega)] at hb
   subst hb
   rw [zg4]
   repeat' (first
  | ((first | refine zaf ?_ | refine zaj ?_ | refine zag ?_ | fail); simp [hx, hl])
  | (refine zaq ?_; simp only [zao])
  | (refine zbb ?_; simp [zao])
  | fail)
   (refine EndOK.val (.inr rfl) ?_; simp [zaJ, zah, zau, Tryz.results71])
  ·have hlt : i < A.length := (lGE.1 hx).1
   have hlt2 : i < B.length := by omega
   obtain ⟨b, hy⟩ : ∃ b, B[i]? = some b := ⟨_, List.getElem?_eq_getElem hlt2⟩
   have hi2 : (i : Int) < B.length := by omega
   have h1 := zlM a b
   simp only [znA] at h1
   by_cases hab : a = b
   ·rw [zcq.2 hab] at h1
    repeat' (first
  | ((first | refine zaf ?_ | refine zaj ?_ | fail); simp [hx, hy, hi2])
  | (refine ⟨by omega, ?_⟩)
  | ((first | refine zag ?_ | refine zai ?_ | refine zat ?_ | fail); simp [hx, hy, hi2])
  | (refine zap ?_; simp only [zao])
  | (refine CallP.fE (h1) (by first | rfl | fail) (by first | simp [hx, hy, hi2] <;> rfl | fail) ?_; (try simp [hx, hy, hi2]))
  | fail)
    have hsn : A.take (i + 1) = B.take (i + 1) := by
     rw [List.take_succ_eq_append_getElem hlt, List.take_succ_eq_append_getElem hlt2, hb, (lGE.1 hx).2, (lGE.1 hy).2, hab]
    refine LoopW.next ⟨i + 1, by omega, hsn⟩ (by simp; omega) ?_
    exact (Wk.cut rfl (by simp [hn, St.lp]) (by simp [wkO, St.lp, zaa, getK, Ob.under, D.under, zad, zae, hl]) (by simp [wkU, St.lp, zam, zaa, getK, D.under, hl]) (by simp [wkE, St.lp, zam, zaa, getK, hl] <;> (try (intros; simp_all; done)) <;> (try (intros; omega)) <;> (try grind)))
   ·rw [zdJ hab] at h1
    have hne : A ≠ B := fun e => by subst e; rw [hx] at hy; cases hy; exact hab rfl
    rw [zdJ hne]
    repeat' (first
  | ((first | refine zaf ?_ | refine zaj ?_ | refine zag ?_ | refine zai ?_ | fail); simp [hx, hy, hi2])
  | ((first | refine zaq ?_ | refine zap ?_ | fail); simp only [zao])
  | (refine CallP.fE (h1) (by first | rfl | fail) (by first | simp [hx, hy, hi2] <;> rfl | fail) ?_; (try simp [hx, hy, hi2]))
  | fail)
    (refine EndOK.val (.inr rfl) ?_; simp [zaJ, zah, zau, Tryz.results71])
 ·have hl' : ¬ (A.length : Int) = B.length := by omega
  rw [zdJ (fun e => hl (by rw [e]))]
  (refine Fun.of_body Tryz.func71 rfl (by simp) fun Γ hn => ?_); simp only [entry, ziC, ziN, maC, maN, oA, Tryz.ntmps71]
  repeat' (first
  | ((first | refine zaf ?_ | refine zaj ?_ | refine zag ?_ | refine zai ?_ | fail); simp [hl, hl'])
  | (refine zaq ?_; simp only [zao])
  | fail)
  (refine EndOK.val (.inr rfl) ?_; simp [zaJ, zah, zau, Tryz.results71])
theorem zi5 (b : By) : Fun Tryz.prog 27 [.u (.agg (zbz b)), .u (.agg (zbz b))] (· = .u (.bool true)) := by
 have e0 := zms b.lets b.lets
 have e1 : zdi b.due b.due := zb9 _ _
 have e2 : zdi b.fine b.fine := zb9 _ _
 have e3 : zdi b.pay b.pay := zb9 _ _
 have e4 : zdi b.cover b.cover := zb9 _ _
 have e5 : zdi b.hold b.hold := zb9 _ _
 unfold zdi at e1 e2 e3 e4 e5
 rw [Exp.row_eq] at e1 e2 e3 e4 e5
 rw [zg4] at e0 e1 e2 e3 e4 e5
 simp only [zgT] at e0
 unfold zbz
 (refine Fun.of_body Tryz.func27 rfl (by simp) fun Γ hn => ?_); simp only [entry, ziC, ziN, maC, maN, oA, Tryz.ntmps27]
 repeat' (first
  | ((first | refine zaf ?_ | refine zaj ?_ | refine zag ?_ | fail); simp)
  | (refine zaq ?_; simp only [zao])
  | (refine CallP.fE (e0) (by first | rfl | fail) (by first | (simp; done) | (simp; rfl) | fail) ?_; (try simp))
  | (refine CallP.fE (e1) (by first | rfl | fail) (by first | (simp; done) | (simp; rfl) | fail) ?_; (try simp))
  | (refine CallP.fE (e2) (by first | rfl | fail) (by first | (simp; done) | (simp; rfl) | fail) ?_; (try simp))
  | (refine CallP.fE (e3) (by first | rfl | fail) (by first | (simp; done) | (simp; rfl) | fail) ?_; (try simp))
  | (refine CallP.fE (e4) (by first | rfl | fail) (by first | (simp; done) | (simp; rfl) | fail) ?_; (try simp))
  | (refine CallP.fE (e5) (by first | rfl | fail) (by first | (simp; done) | (simp; rfl) | fail) ?_; (try simp))
  | fail)
 (refine EndOK.val (.inr rfl) ?_; simp [zaJ, zah, zau, Tryz.results27])
theorem zlo (e : Exp) : Fun Tryz.prog 111 [.u (.agg e.row)] (· = .u (.int .i64 (zbX e.op))) := by
 have hop := zeh
 rw [Exp.row_eq]
 by_cases h1 : e.op = 13
 ·rw [zbX, if_pos h1]
  (refine Fun.of_body Tryz.func111 rfl (by simp) fun Γ hn => ?_); simp only [entry, ziC, ziN, maC, maN, oA, Tryz.ntmps111]
  repeat' (first
  | ((first | refine zaf ?_ | refine zaj ?_ | refine zag ?_ | refine zai ?_ | refine zav ?_ | fail); simp [h1])
  | (refine zaq ?_; simp only [zao])
  | fail)
  (refine EndOK.val (.inr rfl) ?_; simp [zaJ, zah, zau, Tryz.results111])
 ·by_cases h2 : e.op = 12
  ·rw [zbX, if_neg h1, if_pos h2]
   (refine Fun.of_body Tryz.func111 rfl (by simp) fun Γ hn => ?_); simp only [entry, ziC, ziN, maC, maN, oA, Tryz.ntmps111]
   repeat' (first
  | ((first | refine zaf ?_ | refine zaj ?_ | refine zag ?_ | refine zai ?_ | refine zav ?_ | fail); simp [h1, h2])
  | (refine zaq ?_; simp only [zao])
  | fail)
   (refine EndOK.val (.inr rfl) ?_; simp [zaJ, zah, zau, Tryz.results111])
  ·rw [zbX, if_neg h1, if_neg h2]
   have hlen : oprs.length = 8 := rfl
   generalize oprs = L at *
   (refine Fun.of_body Tryz.func111 rfl (by simp) fun Γ hn => ?_); simp only [entry, ziC, ziN, maC, maN, oA, Tryz.ntmps111]
   repeat' (first
  | ((first | refine zaf ?_ | refine zaj ?_ | refine zag ?_ | refine zai ?_ | refine zav ?_ | fail); simp [h1, h2, hlen])
  | (refine zap ?_; simp only [zao])
  | (refine CallP.fE (hop) (by first | rfl | fail) (by first | simp [h1, h2, hlen] <;> rfl | fail) ?_; (try simp [h1, h2, hlen]))
  | fail)
   refine zcW (α := { i : Nat // i ≤ 8 ∧ ∀ o ∈ L.take i, decide (o.op = e.op) = false }) [1, 2, 11, 12] (fun x => [(13, .u (.int .i64 x.1))]) (fun x => [(0, .box [.u (.int .i64 e.op), .u (.int .i64 e.n), .u (.int .i64 e.unit), .u (.str e.s), .u (.sl (e.args.map Exp.row))])]) 1 (fun x => 8 - x.1) ⟨0, by omega, by simp⟩ ?_ ?_
   ·exact (Wk.cut rfl (by simp [hn, St.lp]) (by simp [wkO, St.lp, zaa, getK, Ob.under, D.under, zad, zae, hlen]) (by simp [wkU, St.lp, zam, zaa, getK, D.under, hlen]) (by simp [wkE, St.lp, zam, zaa, getK, hlen] <;> (try (intros; simp_all; done)) <;> (try (intros; omega)) <;> (try grind)))
   rintro ⟨i, hi, hb⟩
   simp [St.lp, St.only, zam, zaa, getK]
   rcases hx : L[i]? with _ | o
   ·have hge : L.length ≤ i := by simpa using hx
    obtain rfl : i = 8 := by omega
    rw [List.take_of_length_le (by omega)] at hb
    have hn0 : L.find? (fun o => decide (o.op = e.op)) = none := by rw [List.find?_eq_none]; intro o ho; simp [hb o ho]
    rw [hn0]
    repeat' (first
  | ((first | refine zaf ?_ | refine zaj ?_ | refine zag ?_ | fail); simp [hx, hlen])
  | (refine zaq ?_; simp only [zao])
  | (refine zbb ?_; simp [zao])
  | fail)
    (refine EndOK.val (.inr rfl) ?_; simp [zaJ, zah, zau, Tryz.results111])
   ·have hlt : i < L.length := (lGE.1 hx).1
    have hi8 : i < 8 := by omega
    have hxe : L[i]'hlt = o := (lGE.1 hx).2
    by_cases hp : o.op = e.op
    ·have hf : L.find? (fun o => decide (o.op = e.op)) = some o := by
      rw [List.find?_eq_some_iff_getElem]
      refine ⟨by simpa using hp, i, hlt, (lGE.1 hx).2, fun j hj => ?_⟩
      have := hb (L[j]'(by omega)) (by rw [List.mem_take_iff_getElem]; exact ⟨j, by omega, rfl⟩)
      simp [this]
     rw [hf]
     repeat' (first
  | ((first | refine zaf ?_ | refine zaj ?_ | refine zag ?_ | refine zai ?_ | fail); simp [hx, hlen, hp, hi8, hxe])
  | ((first | refine zaq ?_ | refine zap ?_ | fail); simp only [zao])
  | (refine ⟨?_, by omega⟩)
  | (intro hc <;> (try (exfalso; omega)))
  | fail)
     (refine EndOK.val (.inr rfl) ?_; simp [zaJ, zah, zau, Tryz.results111])
    ·repeat' (first
  | ((first | refine zaf ?_ | refine zaj ?_ | fail); simp [hx, hlen, hp, hi8, hxe])
  | (refine ⟨by omega, ?_⟩)
  | ((first | refine zag ?_ | refine zai ?_ | refine zat ?_ | fail); simp [hx, hlen, hp, hi8, hxe])
  | (refine zap ?_; simp only [zao])
  | (refine ⟨?_, by omega⟩)
  | (intro hc <;> (try (exfalso; omega)))
  | fail)
     refine LoopW.next ⟨i + 1, by omega, zbE (p := fun o : Opr => decide (o.op = e.op) = false) hx hb (by simpa using hp)⟩ (by simp; omega) ?_
     exact (Wk.cut rfl (by simp [hn, St.lp]) (by simp [wkO, St.lp, zaa, getK, Ob.under, D.under, zad, zae, hlen]) (by simp [wkU, St.lp, zam, zaa, getK, D.under, hlen]) (by simp [wkE, St.lp, zam, zaa, getK, hlen] <;> (try (intros; simp_all; done)) <;> (try (intros; omega)) <;> (try grind)))
theorem zl5 (n u : Int) (h : zpq (.mk 0 n u [] []) = true) : Fun Tryz.prog 113 [.u (.agg (Exp.mk 0 n u [] []).row)] (· = .u (.str (zbg (zeC n u)))) := by
 obtain ⟨hu0, hu1, hn0, hn2, hn1⟩ := zku h
 have hit := zlj n (by omega) (by omega)
 have hil := zin hn0 hn2
 rw [Exp.row, List.map_nil, zeC]
 generalize Lib.itoa n = T at *
 have hil2 : T.length ≤ 1000 := by omega
 by_cases c0 : u = 0
 ·rw [if_pos c0]
  by_cases c1 : n = 1
  ·rw [if_pos c1, zbi]
   (refine Fun.of_body Tryz.func113 rfl (by simp) fun Γ hn => ?_); simp only [entry, ziC, ziN, maC, maN, oA, Tryz.ntmps113]
   repeat' (first
  | ((first | refine zaf ?_ | refine zaj ?_ | refine zag ?_ | refine zai ?_ | refine zav ?_ | fail); simp [c0, c1])
  | (refine zaq ?_; simp only [zao])
  | (refine CallP.fE (hit) (by first | rfl | fail) (by first | simp [c0, c1] <;> rfl | fail) ?_; (try simp [c0, c1]))
  | fail)
   (refine EndOK.val (.inr rfl) ?_; simp [zaJ, zah, zau, Tryz.results113])
  ·rw [if_neg c1, zbi]
   (refine Fun.of_body Tryz.func113 rfl (by simp) fun Γ hn => ?_); simp only [entry, ziC, ziN, maC, maN, oA, Tryz.ntmps113]
   repeat' (first
  | ((first | refine zaf ?_ | refine zaj ?_ | refine zag ?_ | refine zai ?_ | refine zav ?_ | fail); simp [c0, c1])
  | ((first | refine zaq ?_ | refine zap ?_ | fail); simp only [zao])
  | (refine CallP.fE (hit) (by first | rfl | fail) (by first | simp [c0, c1] <;> rfl | fail) ?_; (try simp [c0, c1]))
  | fail)
   (refine EndOK.val (.inr rfl) ?_; simp [zaJ, zah, zau, Tryz.results113])
 ·rw [if_neg c0]
  by_cases c3 : u = 3
  ·rw [if_pos c3, zbe, zbi]
   (refine Fun.of_body Tryz.func113 rfl (by simp) fun Γ hn => ?_); simp only [entry, ziC, ziN, maC, maN, oA, Tryz.ntmps113]
   repeat' (first
  | ((first | refine zaf ?_ | refine zaj ?_ | fail); simp [c0, c3])
  | (refine ⟨by omega, ?_⟩)
  | ((first | refine zag ?_ | refine zai ?_ | refine zav ?_ | fail); simp [c0, c3])
  | (refine zaq ?_; simp only [zao])
  | (refine CallP.fE (hit) (by first | rfl | fail) (by first | simp [c0, c3] <;> rfl | fail) ?_; (try simp [c0, c3]))
  | fail)
   (refine EndOK.val (.inr rfl) ?_; simp [zaJ, zah, zau, Tryz.results113])
  ·rw [if_neg c3]
   by_cases c2 : u = 2
   ·rw [if_pos c2, zbe, zbi]
    (refine Fun.of_body Tryz.func113 rfl (by simp) fun Γ hn => ?_); simp only [entry, ziC, ziN, maC, maN, oA, Tryz.ntmps113]
    repeat' (first
  | ((first | refine zaf ?_ | refine zaj ?_ | fail); simp [c0, c2, c3])
  | (refine ⟨by omega, ?_⟩)
  | ((first | refine zag ?_ | refine zai ?_ | refine zav ?_ | fail); simp [c0, c2, c3])
  | (refine zaq ?_; simp only [zao])
  | (refine CallP.fE (hit) (by first | rfl | fail) (by first | simp [c0, c2, c3] <;> rfl | fail) ?_; (try simp [c0, c2, c3]))
  | fail)
    (refine EndOK.val (.inr rfl) ?_; simp [zaJ, zah, zau, Tryz.results113])
   ·rw [if_neg c2]
    by_cases c4 : u = 4
    ·rw [if_pos c4, zbe, zbe, zbi]
     (refine Fun.of_body Tryz.func113 rfl (by simp) fun Γ hn => ?_); simp only [entry, ziC, ziN, maC, maN, oA, Tryz.ntmps113]
     repeat' (first
  | ((first | refine zaf ?_ | refine zaj ?_ | fail); simp [c0, c2, c3, c4])
  | (refine ⟨by omega, ?_⟩)
  | ((first | refine zag ?_ | refine zai ?_ | refine zav ?_ | fail); simp [c0, c2, c3, c4])
  | (refine zaq ?_; simp only [zao])
  | (refine CallP.fE (hit) (by first | rfl | fail) (by first | simp [c0, c2, c3, c4] <;> rfl | fail) ?_; (try simp [c0, c2, c3, c4]))
  | fail)
     (refine EndOK.val (.inr rfl) ?_; simp [zaJ, zah, zau, Tryz.results113])
    ·rw [if_neg c4, zbi]
     (refine Fun.of_body Tryz.func113 rfl (by simp) fun Γ hn => ?_); simp only [entry, ziC, ziN, maC, maN, oA, Tryz.ntmps113]
     repeat' (first
  | ((first | refine zaf ?_ | refine zaj ?_ | refine zag ?_ | refine zai ?_ | refine zav ?_ | fail); simp [c0, c2, c3, c4])
  | ((first | refine zaq ?_ | refine zap ?_ | fail); simp only [zao])
  | (refine CallP.fE (hit) (by first | rfl | fail) (by first | simp [c0, c2, c3, c4] <;> rfl | fail) ?_; (try simp [c0, c2, c3, c4]))
  | fail)
     (refine EndOK.val (.inr rfl) ?_; simp [zaJ, zah, zau, Tryz.results113])
theorem zlq (s : W8) : Fun Tryz.prog 61 [.u (.str s)] (· = if 2000 < s.length then .tup [.u (.str []), .u (.int .i64 6)] else .tup [.u (.str s), .u (.int .i64 0)]) := by
 by_cases h1 : 2000 < s.length
 ·have h2 : (2000 : Int) < s.length := by omega
  rw [if_pos h1]
  (refine Fun.of_body Tryz.func61 rfl (by simp) fun Γ hn => ?_); simp only [entry, ziC, ziN, maC, maN, oA, Tryz.ntmps61]
  repeat' (first
  | ((first | refine zaf ?_ | refine zaj ?_ | refine zag ?_ | refine zai ?_ | fail); simp [h2])
  | (refine zaq ?_; simp only [zao])
  | fail)
  (refine EndOK.val (.inr rfl) ?_; simp [zaJ, zah, zau, Tryz.results61])
 ·have h2 : ¬ (2000 : Int) < s.length := by omega
  rw [if_neg h1]
  (refine Fun.of_body Tryz.func61 rfl (by simp) fun Γ hn => ?_); simp only [entry, ziC, ziN, maC, maN, oA, Tryz.ntmps61]
  repeat' (first
  | ((first | refine zaf ?_ | refine zaj ?_ | refine zag ?_ | refine zai ?_ | fail); simp [h2])
  | ((first | refine zaq ?_ | refine zap ?_ | fail); simp only [zao])
  | fail)
  (refine EndOK.val (.inr rfl) ?_; simp [zaJ, zah, zau, Tryz.results61])
end Go.Proofs.YthnemhfamhnfjaaGreatDoor
