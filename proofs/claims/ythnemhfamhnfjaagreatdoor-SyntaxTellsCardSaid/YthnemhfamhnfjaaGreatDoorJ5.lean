import Derived.Test.YthnemhfamhnfjaaGreatDoorJ4
set_option linter.all false
set_option maxRecDepth 100000
set_option maxHeartbeats 8000000
namespace Go.Proofs.YthnemhfamhnfjaaGreatDoor
open Go Go.VL
attribute [local simp] HS zdS zcz evPure opd uOf zaN St.put St.at getK binD binI binS binB nilD aggD zjm zkZ lookD lookR zdv Go.VL.nextD zdz zlv zk0 zid zc5 mkV zep zbT zb7 mapEff zfk zhO Key.kk shiftI arith unD convD zfC loadD cellsAt fieldAddrD fieldD indexAddrD indexD sliceD cutD lenD minmaxD nilCheckD buildD fillD zcs zd9 zf2 setAll zdC zgj zdo zkH zde St.add za8 zct rowsOf ze5 zdq zal zac zaa zbK zd4 zbo entry zcb zck valD zcB zc6 zjf zen zeo zcw zch zaE zba zbX delAll effD St.effS zeq zbM zbs zer zbN zbu zc7 zbt zbg zc8 zeb zcu zc0 zb1 zcY zcZ zaL mkD zcp zce zcg zaE zdk D.ids Op.operands Call.operands zcq makeIfD makeFuncD typeAssertD zkY zeT zeU zkV zdx IntKind.bits zdG List.take_of_length_le List.range_succ
attribute [local irreducible] V G H HD HD2 HD4 znD RetX zap Eff CallP CallV EndOK Fun Ret FinOK LoopI LoopW EndW
theorem zh3 {l : List Tok} (hl : TokOK l) {f p : Nat} (hE : zgV l f) (hf : 4 * (l.length - p) <= f) {t : Tok} (ht : l[p]? = some t) (hk : ¬ t.kind = 2) (h1 : isB l p [116, 114, 117, 101] = false) (h2 : isB l p [102, 97, 108, 115, 101] = false)
  (hm : isB l p [109, 105, 110] = false /\ isB l p [109, 97, 120] = true \/ isB l p [109, 105, 110] = true /\ isB l p [109, 97, 120] = false) {i nx : Nat} (hi : i < nx) :
  RetX Tryz.prog 133 [.ptr i 0] [(i, pOb l p)] nx (PPost l i nx zeO (zaZ l (f + 1) p)) := by
 have hne := zaw hi;have hp := (lGE.1 ht).1;have hnx := zb9 l p t ht hl.len;have hll := hl.len;have hp2 : p + 1 < l.length := hm.elim (fun h => zaO hl h.2) (fun h => zaO hl h.1);rw [zaZ, ht];have hh1 := fun nx' (h : nx <= nx') => zbj l p [116, 114, 117, 101] i nx' (by omega) hp hl.len;have hh2 := fun nx' (h : nx <= nx') => zbj l p [102, 97, 108, 115, 101] i nx' (by omega) hp hl.len;have hm1 := zeN l p [109, 105, 110] hp hl.len;have hm2 := zeN l p [109, 97, 120] hp hl.len;rcases hm with ⟨h3, h4⟩ | ⟨h3, h4⟩
 all_goals
  simp only [hk, h1, h2, h3, h4, if_false, if_true, Bool.false_eq_true, or_true, true_or] at hh1 hh2 hm1 hm2 ⊢;have hw1 := fun nx' (h : nx <= nx') => zfK hl [40] (q := (p + 1)) (i := i) (nx := nx') (by omega) hp2;cases hr0 : zbd l (p + 1) [[40]] with
  | stop pos e =>
   simp only [hr0] at hw1
   (refine RetX.of_bodyW Tryz.func133 rfl (by simp) fun Γ hn hpan => ?_); simp only [entry, ziC, ziN, maC, maN, oA, Tryz.ntmps133]
   repeat' (first
  | ((first | refine zag ?_ | refine zaj ?_ | fail); simp [hne, hk, del, nAA])
  | (refine ⟨by omega, ?_⟩)
  | ((first | refine zah ?_ | refine zai ?_ | refine zas ?_ | fail); simp [hne, hk, del, nAA])
  | (refine zao ?_; simp only [zap])
  | (refine CallP.fE (hnx) (by first | rfl | fail) (by first | simp [hne, hk, del, nAA] <;> rfl | fail) ?_; (try simp [hne, hk, del, nAA]))
  | (refine CallP.fE (hm1) (by first | rfl | fail) (by first | simp [hne, hk, del, nAA] <;> rfl | fail) ?_; (try simp [hne, hk, del, nAA]))
  | (refine CallP.fE (hm2) (by first | rfl | fail) (by first | simp [hne, hk, del, nAA] <;> rfl | fail) ?_; (try simp [hne, hk, del, nAA]))
  | (refine CallP.ok1 (hh1 _ (by first | omega | simp <;> omega | fail)) (by first | (simp [hne, hk, del, nAA, zaa, getK, zab, zac]; done) | fail) (by rfl) (by rfl) ?_; (try simp [hne, hk, del, nAA]))
  | (refine CallP.ok1 (hh2 _ (by first | omega | simp <;> omega | fail)) (by first | (simp [hne, hk, del, nAA, zaa, getK, zab, zac]; done) | fail) (by rfl) (by rfl) ?_; (try simp [hne, hk, del, nAA]))
  | (refine CallP.zeW (hw1 _ (by first | omega | simp <;> omega | fail)) (by first | (simp [hne, hk, del, nAA, zaa, getK, zab, zac]; done) | fail) (by rfl) (by first | assumption | (simp; done) | fail) (by rfl) (by simp) ?_; rintro ob' ⟨q', rfl⟩; refine ⟨_, Wk.refl _, ?_⟩)
  | (refine zav (by first | rfl | fail) ?_; simp [hne, hk, del, nAA, frzN, frz1, zaz, zay, St.frz, St.frzS, frzS, fv, zaH, za2, za4, zaG, zau, zam, del, frz, za5])
  | fail)
   (refine hpan _ _ ⟨{ n := _, env := [], obs := [(i, pOb l q')], next := nx }, (Wk.cut rfl (by simp [hn]) (by simp [wkO, zaa, getK, zab, zac, Ob.under, D.under, zad, zaf, hi, hne, zab, zac, zaa, getK]) (by simp [wkU, zan, zaa, getK, D.under, hi, hne, zab, zac, zaa, getK]) (by simp [wkE, zan, zaa, getK, hi, hne, zab, zac, zaa, getK])), by simp [hn], ?_⟩; try simp)
   exact PPost.zaF (by simp [PR.bind, *])
  | ok v0 q0 =>
   simp only [hr0] at hw1;obtain ⟨g0a, g0b⟩ := zaJ hl _ hr0 hp2;have ha := fun nx' (h : nx <= nx') => hE q0 0 i nx' (by omega) g0b (by omega) (by omega) (by omega);cases hr1 : zdZ l f q0 0 with
   | stop pos e =>
    simp only [hr1] at ha
    (refine RetX.of_bodyW Tryz.func133 rfl (by simp) fun Γ hn hpan => ?_); simp only [entry, ziC, ziN, maC, maN, oA, Tryz.ntmps133]
    repeat' (first
  | ((first | refine zag ?_ | refine zaj ?_ | fail); simp [hne, hk, del, nAA])
  | (refine ⟨by omega, ?_⟩)
  | ((first | refine zah ?_ | refine zai ?_ | refine zas ?_ | fail); simp [hne, hk, del, nAA])
  | (refine zao ?_; simp only [zap])
  | (refine CallP.fE (hnx) (by first | rfl | fail) (by first | simp [hne, hk, del, nAA] <;> rfl | fail) ?_; (try simp [hne, hk, del, nAA]))
  | (refine CallP.fE (hm1) (by first | rfl | fail) (by first | simp [hne, hk, del, nAA] <;> rfl | fail) ?_; (try simp [hne, hk, del, nAA]))
  | (refine CallP.fE (hm2) (by first | rfl | fail) (by first | simp [hne, hk, del, nAA] <;> rfl | fail) ?_; (try simp [hne, hk, del, nAA]))
  | (refine CallP.ok1 (hh1 _ (by first | omega | simp <;> omega | fail)) (by first | (simp [hne, hk, del, nAA, zaa, getK, zab, zac]; done) | fail) (by rfl) (by rfl) ?_; (try simp [hne, hk, del, nAA]))
  | (refine CallP.ok1 (hh2 _ (by first | omega | simp <;> omega | fail)) (by first | (simp [hne, hk, del, nAA, zaa, getK, zab, zac]; done) | fail) (by rfl) (by rfl) ?_; (try simp [hne, hk, del, nAA]))
  | (refine CallP.ok1 (hw1 _ (by first | omega | simp <;> omega | fail)) (by first | (simp [hne, hk, del, nAA, zaa, getK, zab, zac]; done) | fail) (by rfl) (by rfl) ?_; (try simp [hne, hk, del, nAA]))
  | (refine CallP.zeW (ha _ (by first | omega | simp <;> omega | fail)) (by first | (simp [hne, hk, del, nAA, zaa, getK, zab, zac]; done) | fail) (by rfl) (by first | assumption | (simp; done) | fail) (by rfl) (by simp) ?_; rintro ob' ⟨q', rfl⟩; refine ⟨_, Wk.refl _, ?_⟩)
  | (refine zav (by first | rfl | fail) ?_; simp [hne, hk, del, nAA, frzN, frz1, zaz, zay, St.frz, St.frzS, frzS, fv, zaH, za2, za4, zaG, zau, zam, del, frz, za5])
  | fail)
    (refine hpan _ _ ⟨{ n := _, env := [], obs := [(i, pOb l q')], next := nx }, (Wk.cut rfl (by simp [hn]) (by simp [wkO, zaa, getK, zab, zac, Ob.under, D.under, zad, zaf, hi, hne, zab, zac, zaa, getK]) (by simp [wkU, zan, zaa, getK, D.under, hi, hne, zab, zac, zaa, getK]) (by simp [wkE, zan, zaa, getK, hi, hne, zab, zac, zaa, getK])), by simp [hn], ?_⟩; try simp)
    exact PPost.zaF (by simp [PR.bind, *])
   | ok v1 q1 =>
    have ha := fun nx' h => zdy (ha nx' h) hr1;obtain ⟨g1a, g1b⟩ := (zbF hl f).1 _ _ _ _ hr1 g0b;have hw2 := fun nx' (h : nx <= nx') => zfK hl [44] (q := q1) (i := i) (nx := nx') (by omega) g1b;cases hr2 : zbd l q1 [[44]] with
    | stop pos e =>
     simp only [hr2] at hw2
     (refine RetX.of_bodyW Tryz.func133 rfl (by simp) fun Γ hn hpan => ?_); simp only [entry, ziC, ziN, maC, maN, oA, Tryz.ntmps133]
     repeat' (first
  | ((first | refine zag ?_ | refine zaj ?_ | fail); simp [hne, hk, del, nAA])
  | (refine ⟨by omega, ?_⟩)
  | ((first | refine zah ?_ | refine zai ?_ | refine zas ?_ | fail); simp [hne, hk, del, nAA])
  | (refine zao ?_; simp only [zap])
  | (refine CallP.fE (hnx) (by first | rfl | fail) (by first | simp [hne, hk, del, nAA] <;> rfl | fail) ?_; (try simp [hne, hk, del, nAA]))
  | (refine CallP.fE (hm1) (by first | rfl | fail) (by first | simp [hne, hk, del, nAA] <;> rfl | fail) ?_; (try simp [hne, hk, del, nAA]))
  | (refine CallP.fE (hm2) (by first | rfl | fail) (by first | simp [hne, hk, del, nAA] <;> rfl | fail) ?_; (try simp [hne, hk, del, nAA]))
  | (refine CallP.ok1 (hh1 _ (by first | omega | simp <;> omega | fail)) (by first | (simp [hne, hk, del, nAA, zaa, getK, zab, zac]; done) | fail) (by rfl) (by rfl) ?_; (try simp [hne, hk, del, nAA]))
  | (refine CallP.ok1 (hh2 _ (by first | omega | simp <;> omega | fail)) (by first | (simp [hne, hk, del, nAA, zaa, getK, zab, zac]; done) | fail) (by rfl) (by rfl) ?_; (try simp [hne, hk, del, nAA]))
  | (refine CallP.ok1 (hw1 _ (by first | omega | simp <;> omega | fail)) (by first | (simp [hne, hk, del, nAA, zaa, getK, zab, zac]; done) | fail) (by rfl) (by rfl) ?_; (try simp [hne, hk, del, nAA]))
  | (refine CallP.ok1 (ha _ (by first | omega | simp <;> omega | fail)) (by first | (simp [hne, hk, del, nAA, zaa, getK, zab, zac]; done) | fail) (by rfl) (by rfl) ?_; (try simp [hne, hk, del, nAA]))
  | (refine CallP.zeW (hw2 _ (by first | omega | simp <;> omega | fail)) (by first | (simp [hne, hk, del, nAA, zaa, getK, zab, zac]; done) | fail) (by rfl) (by first | assumption | (simp; done) | fail) (by rfl) (by simp) ?_; rintro ob' ⟨q', rfl⟩; refine ⟨_, Wk.refl _, ?_⟩)
  | (refine zav (by first | rfl | fail) ?_; simp [hne, hk, del, nAA, frzN, frz1, zaz, zay, St.frz, St.frzS, frzS, fv, zaH, za2, za4, zaG, zau, zam, del, frz, za5])
  | fail)
     (refine hpan _ _ ⟨{ n := _, env := [], obs := [(i, pOb l q')], next := nx }, (Wk.cut rfl (by simp [hn]) (by simp [wkO, zaa, getK, zab, zac, Ob.under, D.under, zad, zaf, hi, hne, zab, zac, zaa, getK]) (by simp [wkU, zan, zaa, getK, D.under, hi, hne, zab, zac, zaa, getK]) (by simp [wkE, zan, zaa, getK, hi, hne, zab, zac, zaa, getK])), by simp [hn], ?_⟩; try simp)
     exact PPost.zaF (by simp [PR.bind, *])
    | ok v2 q2 =>
     simp only [hr2] at hw2;obtain ⟨g2a, g2b⟩ := zaJ hl _ hr2 g1b;have hb := fun nx' (h : nx <= nx') => hE q2 0 i nx' (by omega) g2b (by omega) (by omega) (by omega);cases hr3 : zdZ l f q2 0 with
     | stop pos e =>
      simp only [hr3] at hb
      (refine RetX.of_bodyW Tryz.func133 rfl (by simp) fun Γ hn hpan => ?_); simp only [entry, ziC, ziN, maC, maN, oA, Tryz.ntmps133]
      repeat' (first
  | ((first | refine zag ?_ | refine zaj ?_ | fail); simp [hne, hk, del, nAA])
  | (refine ⟨by omega, ?_⟩)
  | ((first | refine zah ?_ | refine zai ?_ | refine zas ?_ | fail); simp [hne, hk, del, nAA])
  | (refine zao ?_; simp only [zap])
  | (refine CallP.fE (hnx) (by first | rfl | fail) (by first | simp [hne, hk, del, nAA] <;> rfl | fail) ?_; (try simp [hne, hk, del, nAA]))
  | (refine CallP.fE (hm1) (by first | rfl | fail) (by first | simp [hne, hk, del, nAA] <;> rfl | fail) ?_; (try simp [hne, hk, del, nAA]))
  | (refine CallP.fE (hm2) (by first | rfl | fail) (by first | simp [hne, hk, del, nAA] <;> rfl | fail) ?_; (try simp [hne, hk, del, nAA]))
  | (refine CallP.ok1 (hh1 _ (by first | omega | simp <;> omega | fail)) (by first | (simp [hne, hk, del, nAA, zaa, getK, zab, zac]; done) | fail) (by rfl) (by rfl) ?_; (try simp [hne, hk, del, nAA]))
  | (refine CallP.ok1 (hh2 _ (by first | omega | simp <;> omega | fail)) (by first | (simp [hne, hk, del, nAA, zaa, getK, zab, zac]; done) | fail) (by rfl) (by rfl) ?_; (try simp [hne, hk, del, nAA]))
  | (refine CallP.ok1 (hw1 _ (by first | omega | simp <;> omega | fail)) (by first | (simp [hne, hk, del, nAA, zaa, getK, zab, zac]; done) | fail) (by rfl) (by rfl) ?_; (try simp [hne, hk, del, nAA]))
  | (refine CallP.ok1 (ha _ (by first | omega | simp <;> omega | fail)) (by first | (simp [hne, hk, del, nAA, zaa, getK, zab, zac]; done) | fail) (by rfl) (by rfl) ?_; (try simp [hne, hk, del, nAA]))
  | (refine CallP.ok1 (hw2 _ (by first | omega | simp <;> omega | fail)) (by first | (simp [hne, hk, del, nAA, zaa, getK, zab, zac]; done) | fail) (by rfl) (by rfl) ?_; (try simp [hne, hk, del, nAA]))
  | (refine CallP.zeW (hb _ (by first | omega | simp <;> omega | fail)) (by first | (simp [hne, hk, del, nAA, zaa, getK, zab, zac]; done) | fail) (by rfl) (by first | assumption | (simp; done) | fail) (by rfl) (by simp) ?_; rintro ob' ⟨q', rfl⟩; refine ⟨_, Wk.refl _, ?_⟩)
  | (refine zav (by first | rfl | fail) ?_; simp [hne, hk, del, nAA, frzN, frz1, zaz, zay, St.frz, St.frzS, frzS, fv, zaH, za2, za4, zaG, zau, zam, del, frz, za5])
  | fail)
      (refine hpan _ _ ⟨{ n := _, env := [], obs := [(i, pOb l q')], next := nx }, (Wk.cut rfl (by simp [hn]) (by simp [wkO, zaa, getK, zab, zac, Ob.under, D.under, zad, zaf, hi, hne, zab, zac, zaa, getK]) (by simp [wkU, zan, zaa, getK, D.under, hi, hne, zab, zac, zaa, getK]) (by simp [wkE, zan, zaa, getK, hi, hne, zab, zac, zaa, getK])), by simp [hn], ?_⟩; try simp)
      exact PPost.zaF (by simp [PR.bind, *])
     | ok v3 q3 =>
      have hb := fun nx' h => zdy (hb nx' h) hr3;obtain ⟨g3a, g3b⟩ := (zbF hl f).1 _ _ _ _ hr3 g2b;have hw3 := fun nx' (h : nx <= nx') => zfK hl [41] (q := q3) (i := i) (nx := nx') (by omega) g3b;cases hr4 : zbd l q3 [[41]] with
      | stop pos e =>
       simp only [hr4] at hw3
       (refine RetX.of_bodyW Tryz.func133 rfl (by simp) fun Γ hn hpan => ?_); simp only [entry, ziC, ziN, maC, maN, oA, Tryz.ntmps133]
       repeat' (first
  | ((first | refine zag ?_ | refine zaj ?_ | fail); simp [hne, hk, del, nAA])
  | (refine ⟨by omega, ?_⟩)
  | ((first | refine zah ?_ | refine zai ?_ | refine zas ?_ | fail); simp [hne, hk, del, nAA])
  | (refine zao ?_; simp only [zap])
  | (refine CallP.fE (hnx) (by first | rfl | fail) (by first | simp [hne, hk, del, nAA] <;> rfl | fail) ?_; (try simp [hne, hk, del, nAA]))
  | (refine CallP.fE (hm1) (by first | rfl | fail) (by first | simp [hne, hk, del, nAA] <;> rfl | fail) ?_; (try simp [hne, hk, del, nAA]))
  | (refine CallP.fE (hm2) (by first | rfl | fail) (by first | simp [hne, hk, del, nAA] <;> rfl | fail) ?_; (try simp [hne, hk, del, nAA]))
  | (refine CallP.ok1 (hh1 _ (by first | omega | simp <;> omega | fail)) (by first | (simp [hne, hk, del, nAA, zaa, getK, zab, zac]; done) | fail) (by rfl) (by rfl) ?_; (try simp [hne, hk, del, nAA]))
  | (refine CallP.ok1 (hh2 _ (by first | omega | simp <;> omega | fail)) (by first | (simp [hne, hk, del, nAA, zaa, getK, zab, zac]; done) | fail) (by rfl) (by rfl) ?_; (try simp [hne, hk, del, nAA]))
  | (refine CallP.ok1 (hw1 _ (by first | omega | simp <;> omega | fail)) (by first | (simp [hne, hk, del, nAA, zaa, getK, zab, zac]; done) | fail) (by rfl) (by rfl) ?_; (try simp [hne, hk, del, nAA]))
  | (refine CallP.ok1 (ha _ (by first | omega | simp <;> omega | fail)) (by first | (simp [hne, hk, del, nAA, zaa, getK, zab, zac]; done) | fail) (by rfl) (by rfl) ?_; (try simp [hne, hk, del, nAA]))
  | (refine CallP.ok1 (hw2 _ (by first | omega | simp <;> omega | fail)) (by first | (simp [hne, hk, del, nAA, zaa, getK, zab, zac]; done) | fail) (by rfl) (by rfl) ?_; (try simp [hne, hk, del, nAA]))
  | (refine CallP.ok1 (hb _ (by first | omega | simp <;> omega | fail)) (by first | (simp [hne, hk, del, nAA, zaa, getK, zab, zac]; done) | fail) (by rfl) (by rfl) ?_; (try simp [hne, hk, del, nAA]))
  | (refine CallP.zeW (hw3 _ (by first | omega | simp <;> omega | fail)) (by first | (simp [hne, hk, del, nAA, zaa, getK, zab, zac]; done) | fail) (by rfl) (by first | assumption | (simp; done) | fail) (by rfl) (by simp) ?_; rintro ob' ⟨q', rfl⟩; refine ⟨_, Wk.refl _, ?_⟩)
  | (refine zav (by first | rfl | fail) ?_; simp [hne, hk, del, nAA, frzN, frz1, zaz, zay, St.frz, St.frzS, frzS, fv, zaH, za2, za4, zaG, zau, zam, del, frz, za5])
  | fail)
       (refine hpan _ _ ⟨{ n := _, env := [], obs := [(i, pOb l q')], next := nx }, (Wk.cut rfl (by simp [hn]) (by simp [wkO, zaa, getK, zab, zac, Ob.under, D.under, zad, zaf, hi, hne, zab, zac, zaa, getK]) (by simp [wkU, zan, zaa, getK, D.under, hi, hne, zab, zac, zaa, getK]) (by simp [wkE, zan, zaa, getK, hi, hne, zab, zac, zaa, getK])), by simp [hn], ?_⟩; try simp)
       exact PPost.zaF (by simp [PR.bind, *])
      | ok v4 q4 =>
       simp only [hr4] at hw3;obtain ⟨g4a, g4b⟩ := zaJ hl _ hr4 g3b
       (refine RetX.of_bodyW Tryz.func133 rfl (by simp) fun Γ hn hpan => ?_); simp only [entry, ziC, ziN, maC, maN, oA, Tryz.ntmps133]
       repeat' (first
  | ((first | refine zag ?_ | refine zaj ?_ | fail); simp [hne, hk, del, nAA])
  | (refine ⟨by omega, ?_⟩)
  | ((first | refine zah ?_ | refine zai ?_ | refine zas ?_ | fail); simp [hne, hk, del, nAA])
  | ((first | refine zaq ?_ | refine zao ?_ | fail); simp only [zap])
  | (refine CallP.fE (hnx) (by first | rfl | fail) (by first | simp [hne, hk, del, nAA] <;> rfl | fail) ?_; (try simp [hne, hk, del, nAA]))
  | (refine CallP.fE (hm1) (by first | rfl | fail) (by first | simp [hne, hk, del, nAA] <;> rfl | fail) ?_; (try simp [hne, hk, del, nAA]))
  | (refine CallP.fE (hm2) (by first | rfl | fail) (by first | simp [hne, hk, del, nAA] <;> rfl | fail) ?_; (try simp [hne, hk, del, nAA]))
  | (refine CallP.ok1 (hh1 _ (by first | omega | simp <;> omega | fail)) (by first | (simp [hne, hk, del, nAA, zaa, getK, zab, zac]; done) | fail) (by rfl) (by rfl) ?_; (try simp [hne, hk, del, nAA]))
  | (refine CallP.ok1 (hh2 _ (by first | omega | simp <;> omega | fail)) (by first | (simp [hne, hk, del, nAA, zaa, getK, zab, zac]; done) | fail) (by rfl) (by rfl) ?_; (try simp [hne, hk, del, nAA]))
  | (refine CallP.ok1 (hw1 _ (by first | omega | simp <;> omega | fail)) (by first | (simp [hne, hk, del, nAA, zaa, getK, zab, zac]; done) | fail) (by rfl) (by rfl) ?_; (try simp [hne, hk, del, nAA]))
  | (refine CallP.ok1 (ha _ (by first | omega | simp <;> omega | fail)) (by first | (simp [hne, hk, del, nAA, zaa, getK, zab, zac]; done) | fail) (by rfl) (by rfl) ?_; (try simp [hne, hk, del, nAA]))
  | (refine CallP.ok1 (hw2 _ (by first | omega | simp <;> omega | fail)) (by first | (simp [hne, hk, del, nAA, zaa, getK, zab, zac]; done) | fail) (by rfl) (by rfl) ?_; (try simp [hne, hk, del, nAA]))
  | (refine CallP.ok1 (hb _ (by first | omega | simp <;> omega | fail)) (by first | (simp [hne, hk, del, nAA, zaa, getK, zab, zac]; done) | fail) (by rfl) (by rfl) ?_; (try simp [hne, hk, del, nAA]))
  | (refine CallP.ok1 (hw3 _ (by first | omega | simp <;> omega | fail)) (by first | (simp [hne, hk, del, nAA, zaa, getK, zab, zac]; done) | fail) (by rfl) (by rfl) ?_; (try simp [hne, hk, del, nAA]))
  | (refine zav (by first | rfl | fail) ?_; simp [hne, hk, del, nAA, frzN, frz1, zaz, zay, St.frz, St.frzS, frzS, fv, zaH, za2, za4, zaG, zau, zam, del, frz, za5])
  | fail)
       (refine EndW.frzN 1 ?_; simp [frzN, frz1, zaz, zay, St.frz, St.frzS, frzS, fv, zaH, za2, za4, zaG, zau, zam, del, frz, za5, hne, nAA])
       refine EndW.norm ?_;simp [St.norm, zaD, zaT, zaV, zaW, hne, nAA]
       (refine EndW.here ?_; (first | (refine EndOK.fin (.inr rfl) ?_) | (refine EndOK.fin (.inl rfl) ?_)); simp [zaA, zae, Tryz.results133, hne, hi]; refine FinOK.cut [(i, pOb l q4)] (nx) (by simp [zaa, getK, zab, zac, Ob.under, D.under, zad, zaf, hne, hi] <;> omega) (by simp [D.under]) (by simp [hn]) ?_; try simp)
       exact PPost.zcy (by simp [PR.bind, *]; rfl) (by simp [Exp.row_eq, Exp.op, Exp.n, Exp.unit, Exp.s, Exp.args]) rfl
theorem zlh {l : List Tok} (hl : TokOK l) {f p : Nat} (hE : zgV l f) (hf : 4 * (l.length - p) <= f) {t : Tok} (ht : l[p]? = some t) (hk : ¬ t.kind = 2) (h1 : isB l p [116, 114, 117, 101] = false) (h2 : isB l p [102, 97, 108, 115, 101] = false)
  (h3 : isB l p [109, 105, 110] = false) (h4 : isB l p [109, 97, 120] = true) {i nx : Nat} (hi : i < nx) :
  RetX Tryz.prog 133 [.ptr i 0] [(i, pOb l p)] nx (PPost l i nx zeO (zaZ l (f + 1) p)) := zh3 hl hE hf ht hk h1 h2 (.inl ⟨h3, h4⟩) hi
theorem zob {l : List Tok} (hl : TokOK l) {f p : Nat} {form : Int} (hE : zgV l f) (hp : p < l.length) (hf : 4 * (l.length - p) + 1 <= f)
  (hf0 : form = 0) (h1 : isB l p [105, 102] = true) {i nx : Nat} (hi : i < nx) :
  RetX Tryz.prog 95 [.ptr i 0, zi0 form] [(i, pOb l p)] nx (PPost l i nx zj3 (zbl l (f + 1) p form)) := by
 have hne := zaw hi;have hll := hl.len;rw [zbl];have hp2 := zaO hl h1;subst hf0;have hf0 : (0 : Int) = 0 := rfl;have hf3 : (0 : Int) <= 3 := by omega
 have hh1 := fun nx' (h : nx <= nx') => zbj l p [105, 102] i nx' (by omega) hp hl.len;simp only [h1, if_true] at hh1;rw [if_pos ⟨rfl, h1⟩];have ha := fun nx' (h : nx <= nx') => hE (p + 1) 0 i nx' (by omega) hp2 (by omega) (by omega) (by omega);cases hr0 : zdZ l f (p + 1) 0 with
 | stop pos e =>
  simp only [hr0] at ha
  (refine RetX.of_bodyW Tryz.func95 rfl (by simp) fun Γ hn hpan => ?_); simp only [entry, ziC, ziN, maC, maN, oA, Tryz.ntmps95]
  repeat' (first
  | ((first | refine zag ?_ | refine zaj ?_ | refine zah ?_ | refine zai ?_ | fail); simp [hne, hf0, hf3, del, nAA])
  | (refine CallP.ok1 (hh1 _ (by first | omega | simp <;> omega | fail)) (by first | (simp [hne, hf0, hf3, del, nAA, zaa, getK, zab, zac]; done) | fail) (by rfl) (by rfl) ?_; (try simp [hne, hf0, hf3, del, nAA]))
  | (refine CallP.zeW (ha _ (by first | omega | simp <;> omega | fail)) (by first | (simp [hne, hf0, hf3, del, nAA, zaa, getK, zab, zac]; done) | fail) (by rfl) (by first | assumption | (simp; done) | fail) (by rfl) (by simp) ?_; rintro ob' ⟨q', rfl⟩; refine ⟨_, Wk.refl _, ?_⟩)
  | fail)
  (refine hpan _ _ ⟨{ n := _, env := [], obs := [(i, pOb l q')], next := nx }, (Wk.cut rfl (by simp [hn]) (by simp [wkO, zaa, getK, zab, zac, Ob.under, D.under, zad, zaf, hi, hne, zab, zac, zaa, getK]) (by simp [wkU, zan, zaa, getK, D.under, hi, hne, zab, zac, zaa, getK]) (by simp [wkE, zan, zaa, getK, hi, hne, zab, zac, zaa, getK])), by simp [hn], ?_⟩; try simp)
  exact PPost.zaF (by simp [PR.bind, *])
 | ok v0 q0 =>
  have ha := fun nx' h => zdy (ha nx' h) hr0;obtain ⟨g0a, g0b⟩ := (zbF hl f).1 _ _ _ _ hr0 hp2;have hw1 := fun nx' (h : nx <= nx') => zfK hl [116, 104, 101, 110] (q := q0) (i := i) (nx := nx') (by omega) g0b;cases hr1 : zbd l q0 [[116, 104, 101, 110]] with
  | stop pos e =>
   simp only [hr1] at hw1
   (refine RetX.of_bodyW Tryz.func95 rfl (by simp) fun Γ hn hpan => ?_); simp only [entry, ziC, ziN, maC, maN, oA, Tryz.ntmps95]
   repeat' (first
  | ((first | refine zag ?_ | refine zaj ?_ | refine zah ?_ | refine zai ?_ | fail); simp [hne, hf0, hf3, del, nAA])
  | (refine CallP.ok1 (hh1 _ (by first | omega | simp <;> omega | fail)) (by first | (simp [hne, hf0, hf3, del, nAA, zaa, getK, zab, zac]; done) | fail) (by rfl) (by rfl) ?_; (try simp [hne, hf0, hf3, del, nAA]))
  | (refine CallP.ok1 (ha _ (by first | omega | simp <;> omega | fail)) (by first | (simp [hne, hf0, hf3, del, nAA, zaa, getK, zab, zac]; done) | fail) (by rfl) (by rfl) ?_; (try simp [hne, hf0, hf3, del, nAA]))
  | (refine CallP.zeW (hw1 _ (by first | omega | simp <;> omega | fail)) (by first | (simp [hne, hf0, hf3, del, nAA, zaa, getK, zab, zac]; done) | fail) (by rfl) (by first | assumption | (simp; done) | fail) (by rfl) (by simp) ?_; rintro ob' ⟨q', rfl⟩; refine ⟨_, Wk.refl _, ?_⟩)
  | (refine zav (by first | rfl | fail) ?_; simp [hne, hf0, hf3, del, nAA, frzN, frz1, zaz, zay, St.frz, St.frzS, frzS, fv, zaH, za2, za4, zaG, zau, zam, del, frz, za5])
  | fail)
   (refine hpan _ _ ⟨{ n := _, env := [], obs := [(i, pOb l q')], next := nx }, (Wk.cut rfl (by simp [hn]) (by simp [wkO, zaa, getK, zab, zac, Ob.under, D.under, zad, zaf, hi, hne, zab, zac, zaa, getK]) (by simp [wkU, zan, zaa, getK, D.under, hi, hne, zab, zac, zaa, getK]) (by simp [wkE, zan, zaa, getK, hi, hne, zab, zac, zaa, getK])), by simp [hn], ?_⟩; try simp)
   exact PPost.zaF (by simp [PR.bind, *])
  | ok v1 q1 =>
   simp only [hr1] at hw1;obtain ⟨g1a, g1b⟩ := zaJ hl _ hr1 g0b;have hb := fun nx' (h : nx <= nx') => hE q1 0 i nx' (by omega) g1b (by omega) (by omega) (by omega);cases hr2 : zdZ l f q1 0 with
   | stop pos e =>
    simp only [hr2] at hb
    (refine RetX.of_bodyW Tryz.func95 rfl (by simp) fun Γ hn hpan => ?_); simp only [entry, ziC, ziN, maC, maN, oA, Tryz.ntmps95]
    repeat' (first
  | ((first | refine zag ?_ | refine zaj ?_ | refine zah ?_ | refine zai ?_ | fail); simp [hne, hf0, hf3, del, nAA])
  | (refine CallP.ok1 (hh1 _ (by first | omega | simp <;> omega | fail)) (by first | (simp [hne, hf0, hf3, del, nAA, zaa, getK, zab, zac]; done) | fail) (by rfl) (by rfl) ?_; (try simp [hne, hf0, hf3, del, nAA]))
  | (refine CallP.ok1 (ha _ (by first | omega | simp <;> omega | fail)) (by first | (simp [hne, hf0, hf3, del, nAA, zaa, getK, zab, zac]; done) | fail) (by rfl) (by rfl) ?_; (try simp [hne, hf0, hf3, del, nAA]))
  | (refine CallP.ok1 (hw1 _ (by first | omega | simp <;> omega | fail)) (by first | (simp [hne, hf0, hf3, del, nAA, zaa, getK, zab, zac]; done) | fail) (by rfl) (by rfl) ?_; (try simp [hne, hf0, hf3, del, nAA]))
  | (refine CallP.zeW (hb _ (by first | omega | simp <;> omega | fail)) (by first | (simp [hne, hf0, hf3, del, nAA, zaa, getK, zab, zac]; done) | fail) (by rfl) (by first | assumption | (simp; done) | fail) (by rfl) (by simp) ?_; rintro ob' ⟨q', rfl⟩; refine ⟨_, Wk.refl _, ?_⟩)
  | (refine zav (by first | rfl | fail) ?_; simp [hne, hf0, hf3, del, nAA, frzN, frz1, zaz, zay, St.frz, St.frzS, frzS, fv, zaH, za2, za4, zaG, zau, zam, del, frz, za5])
  | fail)
    (refine hpan _ _ ⟨{ n := _, env := [], obs := [(i, pOb l q')], next := nx }, (Wk.cut rfl (by simp [hn]) (by simp [wkO, zaa, getK, zab, zac, Ob.under, D.under, zad, zaf, hi, hne, zab, zac, zaa, getK]) (by simp [wkU, zan, zaa, getK, D.under, hi, hne, zab, zac, zaa, getK]) (by simp [wkE, zan, zaa, getK, hi, hne, zab, zac, zaa, getK])), by simp [hn], ?_⟩; try simp)
    exact PPost.zaF (by simp [PR.bind, *])
   | ok v2 q2 =>
    have hb := fun nx' h => zdy (hb nx' h) hr2;obtain ⟨g2a, g2b⟩ := (zbF hl f).1 _ _ _ _ hr2 g1b;have hw2 := fun nx' (h : nx <= nx') => zfK hl [101, 108, 115, 101] (q := q2) (i := i) (nx := nx') (by omega) g2b;cases hr3 : zbd l q2 [[101, 108, 115, 101]] with
    | stop pos e =>
     simp only [hr3] at hw2
     (refine RetX.of_bodyW Tryz.func95 rfl (by simp) fun Γ hn hpan => ?_); simp only [entry, ziC, ziN, maC, maN, oA, Tryz.ntmps95]
     repeat' (first
  | ((first | refine zag ?_ | refine zaj ?_ | refine zah ?_ | refine zai ?_ | fail); simp [hne, hf0, hf3, del, nAA])
  | (refine CallP.ok1 (hh1 _ (by first | omega | simp <;> omega | fail)) (by first | (simp [hne, hf0, hf3, del, nAA, zaa, getK, zab, zac]; done) | fail) (by rfl) (by rfl) ?_; (try simp [hne, hf0, hf3, del, nAA]))
  | (refine CallP.ok1 (ha _ (by first | omega | simp <;> omega | fail)) (by first | (simp [hne, hf0, hf3, del, nAA, zaa, getK, zab, zac]; done) | fail) (by rfl) (by rfl) ?_; (try simp [hne, hf0, hf3, del, nAA]))
  | (refine CallP.ok1 (hw1 _ (by first | omega | simp <;> omega | fail)) (by first | (simp [hne, hf0, hf3, del, nAA, zaa, getK, zab, zac]; done) | fail) (by rfl) (by rfl) ?_; (try simp [hne, hf0, hf3, del, nAA]))
  | (refine CallP.ok1 (hb _ (by first | omega | simp <;> omega | fail)) (by first | (simp [hne, hf0, hf3, del, nAA, zaa, getK, zab, zac]; done) | fail) (by rfl) (by rfl) ?_; (try simp [hne, hf0, hf3, del, nAA]))
  | (refine CallP.zeW (hw2 _ (by first | omega | simp <;> omega | fail)) (by first | (simp [hne, hf0, hf3, del, nAA, zaa, getK, zab, zac]; done) | fail) (by rfl) (by first | assumption | (simp; done) | fail) (by rfl) (by simp) ?_; rintro ob' ⟨q', rfl⟩; refine ⟨_, Wk.refl _, ?_⟩)
  | (refine zav (by first | rfl | fail) ?_; simp [hne, hf0, hf3, del, nAA, frzN, frz1, zaz, zay, St.frz, St.frzS, frzS, fv, zaH, za2, za4, zaG, zau, zam, del, frz, za5])
  | fail)
     (refine hpan _ _ ⟨{ n := _, env := [], obs := [(i, pOb l q')], next := nx }, (Wk.cut rfl (by simp [hn]) (by simp [wkO, zaa, getK, zab, zac, Ob.under, D.under, zad, zaf, hi, hne, zab, zac, zaa, getK]) (by simp [wkU, zan, zaa, getK, D.under, hi, hne, zab, zac, zaa, getK]) (by simp [wkE, zan, zaa, getK, hi, hne, zab, zac, zaa, getK])), by simp [hn], ?_⟩; try simp)
     exact PPost.zaF (by simp [PR.bind, *])
    | ok v3 q3 =>
     simp only [hr3] at hw2;obtain ⟨g3a, g3b⟩ := zaJ hl _ hr3 g2b;have hc := fun nx' (h : nx <= nx') => hE q3 0 i nx' (by omega) g3b (by omega) (by omega) (by omega);cases hr4 : zdZ l f q3 0 with
     | stop pos e =>
      simp only [hr4] at hc
      (refine RetX.of_bodyW Tryz.func95 rfl (by simp) fun Γ hn hpan => ?_); simp only [entry, ziC, ziN, maC, maN, oA, Tryz.ntmps95]
      repeat' (first
  | (refine zgh (fun nx' h' => hc nx' (by simp at h'; omega)) (by first | (simp [hne, hf0, hf3, del, nAA, zaa, getK, zab, zac, zal, zaL]; done) | fail) (by rfl) (by first | assumption | simp) (by rfl) (by simp) ?_ ?_; rintro env' ob' n' hn' ⟨q', rfl⟩; refine ⟨_, Wk.refl _, ?_⟩)
  | (refine zfh rfl (by simp) ?_; simp)
  | ((first | refine zag ?_ | refine zaS rfl ?_ | refine zaj ?_ | refine zah ?_ | refine zai ?_ | fail); simp [hne, hf0, hf3, del, nAA])
  | (refine zgi (hC _ (zbP [i] nx (by simp <;> omega) (by simp <;> omega) (by apply Exists.intro; apply And.intro; (focus (repeat' (first | exact KF.nil | exact KL.nil | apply KF.cons | apply KL.cons 0 rfl | apply KL.cons 1 rfl | apply KL.cons 2 rfl | apply KL.cons 3 rfl | apply KL.cons 4 rfl | apply KL.cons 5 rfl | apply KL.cons 6 rfl | apply KL.cons 7 rfl | apply KL.cons 8 rfl | apply KL.cons 9 rfl))); kernel_rfl))) rfl; done)
  | (refine za3 rfl (by kernel_rfl) (by first | (simp [hn]; done) | (simp [hn]; omega) | fail) fun C k hC hk => ?_; simp [hne, hf0, hf3, del, nAA])
  | (refine CallP.ok1 (hh1 _ (by first | omega | simp <;> omega | fail)) (by first | (simp [hne, hf0, hf3, del, nAA, zaa, getK, zab, zac]; done) | fail) (by rfl) (by rfl) ?_; (try simp [hne, hf0, hf3, del, nAA]))
  | (refine CallP.ok1 (ha _ (by first | omega | simp <;> omega | fail)) (by first | (simp [hne, hf0, hf3, del, nAA, zaa, getK, zab, zac]; done) | fail) (by rfl) (by rfl) ?_; (try simp [hne, hf0, hf3, del, nAA]))
  | (refine CallP.ok1 (hw1 _ (by first | omega | simp <;> omega | fail)) (by first | (simp [hne, hf0, hf3, del, nAA, zaa, getK, zab, zac]; done) | fail) (by rfl) (by rfl) ?_; (try simp [hne, hf0, hf3, del, nAA]))
  | (refine CallP.ok1 (hb _ (by first | omega | simp <;> omega | fail)) (by first | (simp [hne, hf0, hf3, del, nAA, zaa, getK, zab, zac]; done) | fail) (by rfl) (by rfl) ?_; (try simp [hne, hf0, hf3, del, nAA]))
  | (refine CallP.ok1 (hw2 _ (by first | omega | simp <;> omega | fail)) (by first | (simp [hne, hf0, hf3, del, nAA, zaa, getK, zab, zac]; done) | fail) (by rfl) (by rfl) ?_; (try simp [hne, hf0, hf3, del, nAA]))
  | (refine zav (by first | rfl | fail) ?_; simp [hne, hf0, hf3, del, nAA, frzN, frz1, zaz, zay, St.frz, St.frzS, frzS, fv, zaH, za2, za4, zaG, zau, zam, del, frz, za5])
  | fail)
      (refine hpan _ _ ⟨{ n := _, env := [], obs := [(i, pOb l q')], next := nx }, (Wk.cut rfl (by simp [hn]) (by simp [wkO, zaa, getK, zab, zac, Ob.under, D.under, zad, zaf, hi, hne, zab, zac, zaa, getK]) (by simp [wkU, zan, zaa, getK, D.under, hi, hne, zab, zac, zaa, getK]) (by simp [wkE, zan, zaa, getK, hi, hne, zab, zac, zaa, getK])), by simp [hn], ?_⟩; try simp)
      exact PPost.zaF (by simp [PR.bind, *])
     | ok v4 q4 =>
      have hc := fun nx' h => zdy (hc nx' h) hr4;obtain ⟨g4a, g4b⟩ := (zbF hl f).1 _ _ _ _ hr4 g3b
      (refine RetX.of_bodyW Tryz.func95 rfl (by simp) fun Γ hn hpan => ?_); simp only [entry, ziC, ziN, maC, maN, oA, Tryz.ntmps95]
      repeat' (first
  | (refine zfi (fun nx' h' => hc nx' (by simp at h'; omega)) (by first | (simp [hne, hf0, hf3, del, nAA, zaa, getK, zab, zac, zal, zaL]; done) | fail) (by rfl) (by first | assumption | simp) (by rfl) (by simp [D.under, Ob.under]) (by simp) ?_; (try simp [hne, hf0, hf3, del, nAA]))
  | ((first | refine zag ?_ | refine zaS rfl ?_ | refine zbJ rfl ?_ | refine zaj ?_ | refine zah ?_ | refine zai ?_ | fail); simp [hne, hf0, hf3, del, nAA])
  | (refine za0 (hC _ (zbP [i] nx (by simp <;> omega) (by simp <;> omega) (by apply Exists.intro; apply And.intro; (focus (repeat' (first | exact KF.nil | exact KL.nil | apply KF.cons | apply KL.cons 0 rfl | apply KL.cons 1 rfl | apply KL.cons 2 rfl | apply KL.cons 3 rfl | apply KL.cons 4 rfl | apply KL.cons 5 rfl | apply KL.cons 6 rfl | apply KL.cons 7 rfl | apply KL.cons 8 rfl | apply KL.cons 9 rfl))); kernel_rfl))) (hk _ ?_); clear hC hk C k; simp only [zap])
  | (refine za3 rfl (by kernel_rfl) (by first | (simp [hn]; done) | (simp [hn]; omega) | fail) fun C k hC hk => ?_; simp [hne, hf0, hf3, del, nAA])
  | (refine zaq ?_; simp only [zap])
  | (refine CallP.ok1 (hh1 _ (by first | omega | simp <;> omega | fail)) (by first | (simp [hne, hf0, hf3, del, nAA, zaa, getK, zab, zac]; done) | fail) (by rfl) (by rfl) ?_; (try simp [hne, hf0, hf3, del, nAA]))
  | (refine CallP.ok1 (ha _ (by first | omega | simp <;> omega | fail)) (by first | (simp [hne, hf0, hf3, del, nAA, zaa, getK, zab, zac]; done) | fail) (by rfl) (by rfl) ?_; (try simp [hne, hf0, hf3, del, nAA]))
  | (refine CallP.ok1 (hw1 _ (by first | omega | simp <;> omega | fail)) (by first | (simp [hne, hf0, hf3, del, nAA, zaa, getK, zab, zac]; done) | fail) (by rfl) (by rfl) ?_; (try simp [hne, hf0, hf3, del, nAA]))
  | (refine CallP.ok1 (hb _ (by first | omega | simp <;> omega | fail)) (by first | (simp [hne, hf0, hf3, del, nAA, zaa, getK, zab, zac]; done) | fail) (by rfl) (by rfl) ?_; (try simp [hne, hf0, hf3, del, nAA]))
  | (refine CallP.ok1 (hw2 _ (by first | omega | simp <;> omega | fail)) (by first | (simp [hne, hf0, hf3, del, nAA, zaa, getK, zab, zac]; done) | fail) (by rfl) (by rfl) ?_; (try simp [hne, hf0, hf3, del, nAA]))
  | (refine zav (by first | rfl | fail) ?_; simp [hne, hf0, hf3, del, nAA, frzN, frz1, zaz, zay, St.frz, St.frzS, frzS, fv, zaH, za2, za4, zaG, zau, zam, del, frz, za5])
  | fail)
      (refine EndW.frzN 1 ?_; simp [frzN, frz1, zaz, zay, St.frz, St.frzS, frzS, fv, zaH, za2, za4, zaG, zau, zam, del, frz, za5, hne, nAA])
      refine EndW.norm ?_;simp [St.norm, zaD, zaT, zaV, zaW, hne, nAA]
      (refine EndW.here ?_; (first | (refine EndOK.fin (.inr rfl) ?_) | (refine EndOK.fin (.inl rfl) ?_)); simp [zaA, zae, Tryz.results95, hne, hi]; refine FinOK.cut [(i, pOb l q4)] (nx) (by simp [zaa, getK, zab, zac, Ob.under, D.under, zad, zaf, hne, hi] <;> omega) (by simp [D.under]) (by simp [hn]) ?_; try simp)
      exact PPost.zcy (by simp [PR.bind, *]; rfl) (by simp [Exp.row_eq, Exp.op, Exp.n, Exp.unit, Exp.s, Exp.args]) rfl
theorem zlk {l : List Tok} (hl : TokOK l) {f p : Nat} {form : Int} (hE : zgV l f) (hp : p < l.length) (hf : 4 * (l.length - p) + 1 <= f)
  (hf0 : form = 0) (hf3 : form <= 3) (h1 : isB l p [105, 102] = false) (h2 : isB l p [110, 111, 116] = true) {i nx : Nat} (hi : i < nx) :
  RetX Tryz.prog 95 [.ptr i 0, zi0 form] [(i, pOb l p)] nx (PPost l i nx zj3 (zbl l (f + 1) p form)) := by
 have hne := zaw hi;have hll := hl.len;rw [zbl];have hh1 := fun nx' (h : nx <= nx') => zbj l p [105, 102] i nx' (by omega) hp hl.len;rw [h1] at hh1;simp only [if_true, Bool.false_eq_true, if_false] at hh1;have hp2 := zaO hl h2;have hh2 := fun nx' (h : nx <= nx') => zbj l p [110, 111, 116] i nx' (by omega) hp hl.len;rw [h2] at hh2;simp only [if_true, Bool.false_eq_true, if_false] at hh2;rw [if_neg (by simp [*]), if_pos ⟨hf3, h2⟩];have ha := fun nx' (h : nx <= nx') => hE (p + 1) 3 i nx' (by omega) hp2 (by omega) (by omega) (by omega);cases hr0 : zdZ l f (p + 1) 3 with
 | stop pos e =>
  simp only [hr0] at ha
  (refine RetX.of_bodyW Tryz.func95 rfl (by simp) fun Γ hn hpan => ?_); simp only [entry, ziC, ziN, maC, maN, oA, Tryz.ntmps95]
  repeat' (first
  | ((first | refine zag ?_ | refine zaj ?_ | refine zah ?_ | refine zai ?_ | fail); simp [hne, hf0, hf3, del, nAA])
  | (refine zao ?_; simp only [zap])
  | (refine CallP.ok1 (hh1 _ (by first | omega | simp <;> omega | fail)) (by first | (simp [hne, hf0, hf3, del, nAA, zaa, getK, zab, zac]; done) | fail) (by rfl) (by rfl) ?_; (try simp [hne, hf0, hf3, del, nAA]))
  | (refine CallP.ok1 (hh2 _ (by first | omega | simp <;> omega | fail)) (by first | (simp [hne, hf0, hf3, del, nAA, zaa, getK, zab, zac]; done) | fail) (by rfl) (by rfl) ?_; (try simp [hne, hf0, hf3, del, nAA]))
  | (refine CallP.zeW (ha _ (by first | omega | simp <;> omega | fail)) (by first | (simp [hne, hf0, hf3, del, nAA, zaa, getK, zab, zac]; done) | fail) (by rfl) (by first | assumption | (simp; done) | fail) (by rfl) (by simp) ?_; rintro ob' ⟨q', rfl⟩; refine ⟨_, Wk.refl _, ?_⟩)
  | fail)
  (refine hpan _ _ ⟨{ n := _, env := [], obs := [(i, pOb l q')], next := nx }, (Wk.cut rfl (by simp [hn]) (by simp [wkO, zaa, getK, zab, zac, Ob.under, D.under, zad, zaf, hi, hne, zab, zac, zaa, getK]) (by simp [wkU, zan, zaa, getK, D.under, hi, hne, zab, zac, zaa, getK]) (by simp [wkE, zan, zaa, getK, hi, hne, zab, zac, zaa, getK])), by simp [hn], ?_⟩; try simp)
  exact PPost.zaF (by simp [PR.bind, *])
 | ok v0 q0 =>
  have ha := fun nx' h => zdy (ha nx' h) hr0
  (refine RetX.of_bodyW Tryz.func95 rfl (by simp) fun Γ hn hpan => ?_); simp only [entry, ziC, ziN, maC, maN, oA, Tryz.ntmps95]
  repeat' (first
  | ((first | refine zag ?_ | refine zaj ?_ | refine zah ?_ | refine zai ?_ | fail); simp [hne, hf0, hf3, del, nAA])
  | ((first | refine zaq ?_ | refine zao ?_ | fail); simp only [zap])
  | (refine CallP.ok1 (hh1 _ (by first | omega | simp <;> omega | fail)) (by first | (simp [hne, hf0, hf3, del, nAA, zaa, getK, zab, zac]; done) | fail) (by rfl) (by rfl) ?_; (try simp [hne, hf0, hf3, del, nAA]))
  | (refine CallP.ok1 (hh2 _ (by first | omega | simp <;> omega | fail)) (by first | (simp [hne, hf0, hf3, del, nAA, zaa, getK, zab, zac]; done) | fail) (by rfl) (by rfl) ?_; (try simp [hne, hf0, hf3, del, nAA]))
  | (refine CallP.ok1 (ha _ (by first | omega | simp <;> omega | fail)) (by first | (simp [hne, hf0, hf3, del, nAA, zaa, getK, zab, zac]; done) | fail) (by rfl) (by rfl) ?_; (try simp [hne, hf0, hf3, del, nAA]))
  | fail)
  (refine EndW.frzN 1 ?_; simp [frzN, frz1, zaz, zay, St.frz, St.frzS, frzS, fv, zaH, za2, za4, zaG, zau, zam, del, frz, za5, hne, nAA])
  refine EndW.norm ?_;simp [St.norm, zaD, zaT, zaV, zaW, hne, nAA]
  (refine EndW.here ?_; (first | (refine EndOK.fin (.inr rfl) ?_) | (refine EndOK.fin (.inl rfl) ?_)); simp [zaA, zae, Tryz.results95, hne, hi]; refine FinOK.cut [(i, pOb l q0)] (nx) (by simp [zaa, getK, zab, zac, Ob.under, D.under, zad, zaf, hne, hi] <;> omega) (by simp [D.under]) (by simp [hn]) ?_; try simp)
  exact PPost.zcy (by simp [PR.bind, *]; rfl) (by simp [Exp.row_eq, Exp.op, Exp.n, Exp.unit, Exp.s, Exp.args]) rfl
theorem zlj {l : List Tok} (hl : TokOK l) {f p : Nat} {form : Int} (hE : zgV l f) (hp : p < l.length) (hf : 4 * (l.length - p) + 1 <= f)
  (hf0 : ¬ form = 0) (hf3 : form <= 3) (h2 : isB l p [110, 111, 116] = true) {i nx : Nat} (hi : i < nx) :
  RetX Tryz.prog 95 [.ptr i 0, zi0 form] [(i, pOb l p)] nx (PPost l i nx zj3 (zbl l (f + 1) p form)) := by
 have hne := zaw hi;have hll := hl.len;rw [zbl];have hp2 := zaO hl h2;have hh2 := fun nx' (h : nx <= nx') => zbj l p [110, 111, 116] i nx' (by omega) hp hl.len;rw [h2] at hh2;simp only [if_true, Bool.false_eq_true, if_false] at hh2;rw [if_neg (by simp [*]), if_pos ⟨hf3, h2⟩];have ha := fun nx' (h : nx <= nx') => hE (p + 1) 3 i nx' (by omega) hp2 (by omega) (by omega) (by omega);cases hr0 : zdZ l f (p + 1) 3 with
 | stop pos e =>
  simp only [hr0] at ha
  (refine RetX.of_bodyW Tryz.func95 rfl (by simp) fun Γ hn hpan => ?_); simp only [entry, ziC, ziN, maC, maN, oA, Tryz.ntmps95]
  repeat' (first
  | ((first | refine zag ?_ | refine zaj ?_ | refine zah ?_ | refine zai ?_ | fail); simp [hne, hf0, hf3, del, nAA])
  | (refine zao ?_; simp only [zap])
  | (refine CallP.ok1 (hh2 _ (by first | omega | simp <;> omega | fail)) (by first | (simp [hne, hf0, hf3, del, nAA, zaa, getK, zab, zac]; done) | fail) (by rfl) (by rfl) ?_; (try simp [hne, hf0, hf3, del, nAA]))
  | (refine CallP.zeW (ha _ (by first | omega | simp <;> omega | fail)) (by first | (simp [hne, hf0, hf3, del, nAA, zaa, getK, zab, zac]; done) | fail) (by rfl) (by first | assumption | (simp; done) | fail) (by rfl) (by simp) ?_; rintro ob' ⟨q', rfl⟩; refine ⟨_, Wk.refl _, ?_⟩)
  | fail)
  (refine hpan _ _ ⟨{ n := _, env := [], obs := [(i, pOb l q')], next := nx }, (Wk.cut rfl (by simp [hn]) (by simp [wkO, zaa, getK, zab, zac, Ob.under, D.under, zad, zaf, hi, hne, zab, zac, zaa, getK]) (by simp [wkU, zan, zaa, getK, D.under, hi, hne, zab, zac, zaa, getK]) (by simp [wkE, zan, zaa, getK, hi, hne, zab, zac, zaa, getK])), by simp [hn], ?_⟩; try simp)
  exact PPost.zaF (by simp [PR.bind, *])
 | ok v0 q0 =>
  have ha := fun nx' h => zdy (ha nx' h) hr0
  (refine RetX.of_bodyW Tryz.func95 rfl (by simp) fun Γ hn hpan => ?_); simp only [entry, ziC, ziN, maC, maN, oA, Tryz.ntmps95]
  repeat' (first
  | ((first | refine zag ?_ | refine zaj ?_ | refine zah ?_ | refine zai ?_ | fail); simp [hne, hf0, hf3, del, nAA])
  | ((first | refine zaq ?_ | refine zao ?_ | fail); simp only [zap])
  | (refine CallP.ok1 (hh2 _ (by first | omega | simp <;> omega | fail)) (by first | (simp [hne, hf0, hf3, del, nAA, zaa, getK, zab, zac]; done) | fail) (by rfl) (by rfl) ?_; (try simp [hne, hf0, hf3, del, nAA]))
  | (refine CallP.ok1 (ha _ (by first | omega | simp <;> omega | fail)) (by first | (simp [hne, hf0, hf3, del, nAA, zaa, getK, zab, zac]; done) | fail) (by rfl) (by rfl) ?_; (try simp [hne, hf0, hf3, del, nAA]))
  | fail)
  (refine EndW.frzN 1 ?_; simp [frzN, frz1, zaz, zay, St.frz, St.frzS, frzS, fv, zaH, za2, za4, zaG, zau, zam, del, frz, za5, hne, nAA])
  refine EndW.norm ?_;simp [St.norm, zaD, zaT, zaV, zaW, hne, nAA]
  (refine EndW.here ?_; (first | (refine EndOK.fin (.inr rfl) ?_) | (refine EndOK.fin (.inl rfl) ?_)); simp [zaA, zae, Tryz.results95, hne, hi]; refine FinOK.cut [(i, pOb l q0)] (nx) (by simp [zaa, getK, zab, zac, Ob.under, D.under, zad, zaf, hne, hi] <;> omega) (by simp [D.under]) (by simp [hn]) ?_; try simp)
  exact PPost.zcy (by simp [PR.bind, *]; rfl) (by simp [Exp.row_eq, Exp.op, Exp.n, Exp.unit, Exp.s, Exp.args]) rfl
theorem zjW {l : List Tok} (hl : TokOK l) {f p : Nat} {form : Int} (hP : zip l f) (hp : p < l.length) (hf : 4 * (l.length - p) + 1 <= f)
  (hf0 : form = 0) (hf3 : form <= 3) (h1 : isB l p [105, 102] = false) (h2 : isB l p [110, 111, 116] = false) {i nx : Nat} (hi : i < nx) :
  RetX Tryz.prog 95 [.ptr i 0, zi0 form] [(i, pOb l p)] nx (PPost l i nx zj3 (zbl l (f + 1) p form)) := by
 have hne := zaw hi;have hll := hl.len;rw [zbl];have hh1 := fun nx' (h : nx <= nx') => zbj l p [105, 102] i nx' (by omega) hp hl.len;rw [h1] at hh1;simp only [if_true, Bool.false_eq_true, if_false] at hh1;have hh2 := fun nx' (h : nx <= nx') => zbj l p [110, 111, 116] i nx' (by omega) hp hl.len;rw [h2] at hh2;simp only [if_true, Bool.false_eq_true, if_false] at hh2;rw [if_neg (by simp [*]), if_neg (by simp [*])];have ha := fun nx' (h : nx <= nx') => hP p i nx' (by omega) hp (by omega);cases hr0 : zaZ l f p with
 | stop pos e =>
  simp only [hr0] at ha
  (refine RetX.of_bodyW Tryz.func95 rfl (by simp) fun Γ hn hpan => ?_); simp only [entry, ziC, ziN, maC, maN, oA, Tryz.ntmps95]
  repeat' (first
  | ((first | refine zag ?_ | refine zaj ?_ | refine zah ?_ | refine zai ?_ | fail); simp [hne, hf0, hf3, del, nAA])
  | (refine zao ?_; simp only [zap])
  | (refine CallP.ok1 (hh1 _ (by first | omega | simp <;> omega | fail)) (by first | (simp [hne, hf0, hf3, del, nAA, zaa, getK, zab, zac]; done) | fail) (by rfl) (by rfl) ?_; (try simp [hne, hf0, hf3, del, nAA]))
  | (refine CallP.ok1 (hh2 _ (by first | omega | simp <;> omega | fail)) (by first | (simp [hne, hf0, hf3, del, nAA, zaa, getK, zab, zac]; done) | fail) (by rfl) (by rfl) ?_; (try simp [hne, hf0, hf3, del, nAA]))
  | (refine CallP.zeW (ha _ (by first | omega | simp <;> omega | fail)) (by first | (simp [hne, hf0, hf3, del, nAA, zaa, getK, zab, zac]; done) | fail) (by rfl) (by first | assumption | (simp; done) | fail) (by rfl) (by simp) ?_; rintro ob' ⟨q', rfl⟩; refine ⟨_, Wk.refl _, ?_⟩)
  | fail)
  (refine hpan _ _ ⟨{ n := _, env := [], obs := [(i, pOb l q')], next := nx }, (Wk.cut rfl (by simp [hn]) (by simp [wkO, zaa, getK, zab, zac, Ob.under, D.under, zad, zaf, hi, hne, zab, zac, zaa, getK]) (by simp [wkU, zan, zaa, getK, D.under, hi, hne, zab, zac, zaa, getK]) (by simp [wkE, zan, zaa, getK, hi, hne, zab, zac, zaa, getK])), by simp [hn], ?_⟩; try simp)
  exact PPost.zaF (by simp [PR.bind, *])
 | ok v0 q0 =>
  have ha := fun nx' h => zdy (ha nx' h) hr0
  (refine RetX.of_bodyW Tryz.func95 rfl (by simp) fun Γ hn hpan => ?_); simp only [entry, ziC, ziN, maC, maN, oA, Tryz.ntmps95]
  repeat' (first
  | ((first | refine zag ?_ | refine zaj ?_ | refine zah ?_ | refine zai ?_ | fail); simp [hne, hf0, hf3, del, nAA])
  | ((first | refine zaq ?_ | refine zao ?_ | fail); simp only [zap])
  | (refine CallP.ok1 (hh1 _ (by first | omega | simp <;> omega | fail)) (by first | (simp [hne, hf0, hf3, del, nAA, zaa, getK, zab, zac]; done) | fail) (by rfl) (by rfl) ?_; (try simp [hne, hf0, hf3, del, nAA]))
  | (refine CallP.ok1 (hh2 _ (by first | omega | simp <;> omega | fail)) (by first | (simp [hne, hf0, hf3, del, nAA, zaa, getK, zab, zac]; done) | fail) (by rfl) (by rfl) ?_; (try simp [hne, hf0, hf3, del, nAA]))
  | (refine CallP.ok1 (ha _ (by first | omega | simp <;> omega | fail)) (by first | (simp [hne, hf0, hf3, del, nAA, zaa, getK, zab, zac]; done) | fail) (by rfl) (by rfl) ?_; (try simp [hne, hf0, hf3, del, nAA]))
  | fail)
  refine EndW.norm ?_;simp [St.norm, zaD, zaT, zaV, zaW, hne, nAA]
  (refine EndW.here ?_; (first | (refine EndOK.fin (.inr rfl) ?_) | (refine EndOK.fin (.inl rfl) ?_)); simp [zaA, zae, Tryz.results95, hne, hi]; refine FinOK.cut [(i, pOb l q0)] (nx) (by simp [zaa, getK, zab, zac, Ob.under, D.under, zad, zaf, hne, hi] <;> omega) (by simp [D.under]) (by simp [hn]) ?_; try simp)
  exact PPost.zcy (by simp [PR.bind, *]; rfl) (by simp [Exp.row_eq, Exp.op, Exp.n, Exp.unit, Exp.s, Exp.args]) rfl
theorem zjV {l : List Tok} (hl : TokOK l) {f p : Nat} {form : Int} (hP : zip l f) (hp : p < l.length) (hf : 4 * (l.length - p) + 1 <= f)
  (hf0 : ¬ form = 0) (hf3 : form <= 3) (h2 : isB l p [110, 111, 116] = false) {i nx : Nat} (hi : i < nx) :
  RetX Tryz.prog 95 [.ptr i 0, zi0 form] [(i, pOb l p)] nx (PPost l i nx zj3 (zbl l (f + 1) p form)) := by
 have hne := zaw hi;have hll := hl.len;rw [zbl];have hh2 := fun nx' (h : nx <= nx') => zbj l p [110, 111, 116] i nx' (by omega) hp hl.len;rw [h2] at hh2;simp only [if_true, Bool.false_eq_true, if_false] at hh2;rw [if_neg (by simp [*]), if_neg (by simp [*])];have ha := fun nx' (h : nx <= nx') => hP p i nx' (by omega) hp (by omega);cases hr0 : zaZ l f p with
 | stop pos e =>
  simp only [hr0] at ha
  (refine RetX.of_bodyW Tryz.func95 rfl (by simp) fun Γ hn hpan => ?_); simp only [entry, ziC, ziN, maC, maN, oA, Tryz.ntmps95]
  repeat' (first
  | ((first | refine zag ?_ | refine zaj ?_ | refine zah ?_ | refine zai ?_ | fail); simp [hne, hf0, hf3, del, nAA])
  | (refine zao ?_; simp only [zap])
  | (refine CallP.ok1 (hh2 _ (by first | omega | simp <;> omega | fail)) (by first | (simp [hne, hf0, hf3, del, nAA, zaa, getK, zab, zac]; done) | fail) (by rfl) (by rfl) ?_; (try simp [hne, hf0, hf3, del, nAA]))
  | (refine CallP.zeW (ha _ (by first | omega | simp <;> omega | fail)) (by first | (simp [hne, hf0, hf3, del, nAA, zaa, getK, zab, zac]; done) | fail) (by rfl) (by first | assumption | (simp; done) | fail) (by rfl) (by simp) ?_; rintro ob' ⟨q', rfl⟩; refine ⟨_, Wk.refl _, ?_⟩)
  | fail)
  (refine hpan _ _ ⟨{ n := _, env := [], obs := [(i, pOb l q')], next := nx }, (Wk.cut rfl (by simp [hn]) (by simp [wkO, zaa, getK, zab, zac, Ob.under, D.under, zad, zaf, hi, hne, zab, zac, zaa, getK]) (by simp [wkU, zan, zaa, getK, D.under, hi, hne, zab, zac, zaa, getK]) (by simp [wkE, zan, zaa, getK, hi, hne, zab, zac, zaa, getK])), by simp [hn], ?_⟩; try simp)
  exact PPost.zaF (by simp [PR.bind, *])
 | ok v0 q0 =>
  have ha := fun nx' h => zdy (ha nx' h) hr0
  (refine RetX.of_bodyW Tryz.func95 rfl (by simp) fun Γ hn hpan => ?_); simp only [entry, ziC, ziN, maC, maN, oA, Tryz.ntmps95]
  repeat' (first
  | ((first | refine zag ?_ | refine zaj ?_ | refine zah ?_ | refine zai ?_ | fail); simp [hne, hf0, hf3, del, nAA])
  | ((first | refine zaq ?_ | refine zao ?_ | fail); simp only [zap])
  | (refine CallP.ok1 (hh2 _ (by first | omega | simp <;> omega | fail)) (by first | (simp [hne, hf0, hf3, del, nAA, zaa, getK, zab, zac]; done) | fail) (by rfl) (by rfl) ?_; (try simp [hne, hf0, hf3, del, nAA]))
  | (refine CallP.ok1 (ha _ (by first | omega | simp <;> omega | fail)) (by first | (simp [hne, hf0, hf3, del, nAA, zaa, getK, zab, zac]; done) | fail) (by rfl) (by rfl) ?_; (try simp [hne, hf0, hf3, del, nAA]))
  | fail)
  refine EndW.norm ?_;simp [St.norm, zaD, zaT, zaV, zaW, hne, nAA]
  (refine EndW.here ?_; (first | (refine EndOK.fin (.inr rfl) ?_) | (refine EndOK.fin (.inl rfl) ?_)); simp [zaA, zae, Tryz.results95, hne, hi]; refine FinOK.cut [(i, pOb l q0)] (nx) (by simp [zaa, getK, zab, zac, Ob.under, D.under, zad, zaf, hne, hi] <;> omega) (by simp [D.under]) (by simp [hn]) ?_; try simp)
  exact PPost.zcy (by simp [PR.bind, *]; rfl) (by simp [Exp.row_eq, Exp.op, Exp.n, Exp.unit, Exp.s, Exp.args]) rfl
theorem zjU {l : List Tok} (hl : TokOK l) {f p : Nat} {form : Int} (hP : zip l f) (hp : p < l.length) (hf : 4 * (l.length - p) + 1 <= f)
  (hf0 : ¬ form = 0) (hf3 : ¬ form <= 3) {i nx : Nat} (hi : i < nx) :
  RetX Tryz.prog 95 [.ptr i 0, zi0 form] [(i, pOb l p)] nx (PPost l i nx zj3 (zbl l (f + 1) p form)) := by
 have hne := zaw hi;have hll := hl.len;rw [zbl];rw [if_neg (by simp [*]), if_neg (by simp [*])];have ha := fun nx' (h : nx <= nx') => hP p i nx' (by omega) hp (by omega);cases hr0 : zaZ l f p with
 | stop pos e =>
  simp only [hr0] at ha
  (refine RetX.of_bodyW Tryz.func95 rfl (by simp) fun Γ hn hpan => ?_); simp only [entry, ziC, ziN, maC, maN, oA, Tryz.ntmps95]
  repeat' (first
  | ((first | refine zag ?_ | refine zaj ?_ | refine zah ?_ | refine zai ?_ | fail); simp [hne, hf0, hf3, del, nAA])
  | (refine zao ?_; simp only [zap])
  | (refine CallP.zeW (ha _ (by first | omega | simp <;> omega | fail)) (by first | (simp [hne, hf0, hf3, del, nAA, zaa, getK, zab, zac]; done) | fail) (by rfl) (by first | assumption | (simp; done) | fail) (by rfl) (by simp) ?_; rintro ob' ⟨q', rfl⟩; refine ⟨_, Wk.refl _, ?_⟩)
  | fail)
  (refine hpan _ _ ⟨{ n := _, env := [], obs := [(i, pOb l q')], next := nx }, (Wk.cut rfl (by simp [hn]) (by simp [wkO, zaa, getK, zab, zac, Ob.under, D.under, zad, zaf, hi, hne, zab, zac, zaa, getK]) (by simp [wkU, zan, zaa, getK, D.under, hi, hne, zab, zac, zaa, getK]) (by simp [wkE, zan, zaa, getK, hi, hne, zab, zac, zaa, getK])), by simp [hn], ?_⟩; try simp)
  exact PPost.zaF (by simp [PR.bind, *])
 | ok v0 q0 =>
  have ha := fun nx' h => zdy (ha nx' h) hr0
  (refine RetX.of_bodyW Tryz.func95 rfl (by simp) fun Γ hn hpan => ?_); simp only [entry, ziC, ziN, maC, maN, oA, Tryz.ntmps95]
  repeat' (first
  | ((first | refine zag ?_ | refine zaj ?_ | refine zah ?_ | refine zai ?_ | fail); simp [hne, hf0, hf3, del, nAA])
  | ((first | refine zaq ?_ | refine zao ?_ | fail); simp only [zap])
  | (refine CallP.ok1 (ha _ (by first | omega | simp <;> omega | fail)) (by first | (simp [hne, hf0, hf3, del, nAA, zaa, getK, zab, zac]; done) | fail) (by rfl) (by rfl) ?_; (try simp [hne, hf0, hf3, del, nAA]))
  | fail)
  refine EndW.norm ?_;simp [St.norm, zaD, zaT, zaV, zaW, hne, nAA]
  (refine EndW.here ?_; (first | (refine EndOK.fin (.inr rfl) ?_) | (refine EndOK.fin (.inl rfl) ?_)); simp [zaA, zae, Tryz.results95, hne, hi]; refine FinOK.cut [(i, pOb l q0)] (nx) (by simp [zaa, getK, zab, zac, Ob.under, D.under, zad, zaf, hne, hi] <;> omega) (by simp [D.under]) (by simp [hn]) ?_; try simp)
  exact PPost.zcy (by simp [PR.bind, *]; rfl) (by simp [Exp.row_eq, Exp.op, Exp.n, Exp.unit, Exp.s, Exp.args]) rfl
theorem zli {l : List Tok} (hl : TokOK l) {f : Nat} (hE : zgV l f) (hP : zip l f) : zrD l (f + 1) := by
 intro p form i nx hi hp hf hm0 hm7;have hf' : 4 * (l.length - p) + 1 <= f := by omega
 by_cases hf0 : form = 0
 ·have hf3 : form <= 3 := by omega
  cases h1 : isB l p [105, 102] with
  | true => exact zob hl hE hp hf' hf0 h1 hi
  | false =>
   cases h2 : isB l p [110, 111, 116] with
   | true => exact zlk hl hE hp hf' hf0 hf3 h1 h2 hi
   | false => exact zjW hl hP hp hf' hf0 hf3 h1 h2 hi
 ·by_cases hf3 : form <= 3
  ·cases h2 : isB l p [110, 111, 116] with
   | true => exact zlj hl hE hp hf' hf0 hf3 h2 hi
   | false => exact zjV hl hP hp hf' hf0 hf3 h2 hi
  ·exact zjU hl hP hp hf' hf0 hf3 hi
theorem zr0 {l : List Tok} {F : FuncId} {r : PR (Exp × Int)} {e : Exp × Int} {q i nx : Nat} {ds : List D} {obs : List (Nat × Ob)} (h : RetX Tryz.prog F ds obs nx (PPost l i nx zj3 r)) (hr : r = .ok e q) :
  RetX Tryz.prog F ds obs nx fun r o n => r = .val (.tup [.u (.agg [.int .i64 e.1.op, .int .i64 e.1.n, .int .i64 e.1.unit, .str e.1.s, .sl (e.1.args.map Exp.row)]), .u (.int .i64 e.2)]) /\ o = [(i, pOb l q)] /\ n = nx := by
 subst hr;rw [<- Exp.row_eq];exact h
abbrev zr6 (e : Exp) : Ob := .box [.u (.int .i64 e.op), .u (.int .i64 e.n), .u (.int .i64 e.unit), .u (.str e.s), .u (.sl (e.args.map Exp.row))]
theorem zp7 {l : List Tok} (hl : TokOK l) {f : Nat} (hE : ∀ g, g < f -> zgV l g) (hP : zrD l f) : zgV l (f + 1) := by
 intro p form i nx hi hp hf hm0 hm7;have hne := zaw hi;have hll := hl.len;rw [zdZ];have ha := fun nx' (h : nx <= nx') => hP p form i nx' (by omega) hp (by omega) hm0 hm7;have hop := zeB;cases hr0 : zbl l f p form with
 | stop pos e =>
  simp only [hr0] at ha
  (refine RetX.of_bodyW Tryz.func41 rfl (by simp) fun Γ hn hpan => ?_); simp only [entry, ziC, ziN, maC, maN, oA, Tryz.ntmps41]
  repeat' (first
  | ((first | refine zag ?_ | refine zaj ?_ | refine zah ?_ | fail); simp [hne, del, nAA])
  | (refine CallP.zeW (ha _ (by first | omega | simp <;> omega | fail)) (by first | (simp [hne, del, nAA, zaa, getK, zab, zac]; done) | fail) (by rfl) (by first | assumption | (simp; done) | fail) (by rfl) (by simp) ?_; rintro ob' ⟨q', rfl⟩; refine ⟨_, Wk.refl _, ?_⟩)
  | fail)
  (refine hpan _ _ ⟨{ n := _, env := [], obs := [(i, pOb l q')], next := nx }, (Wk.cut rfl (by simp [hn]) (by simp [wkO, zaa, getK, zab, zac, Ob.under, D.under, zad, zaf, hi, hne, zab, zac, zaa, getK]) (by simp [wkU, zan, zaa, getK, D.under, hi, hne, zab, zac, zaa, getK]) (by simp [wkE, zan, zaa, getK, hi, hne, zab, zac, zaa, getK])), by simp [hn], ?_⟩; try simp)
  exact PPost.zaF (by simp [PR.bind, *])
 | ok v0 q0 =>
  have ha := fun nx' h => zr0 (ha nx' h) hr0;obtain ⟨g0a, g0b⟩ := (zbF hl f).2.2.1 _ _ _ _ hr0 hp;generalize hR : (PR.ok v0 q0).bind (fun e q => zef l f form e.1 e.2 q) = R;have hR' : R = zef l f form v0.1 v0.2 q0 := hR.symm
  (refine RetX.of_bodyW Tryz.func41 rfl (by simp) fun Γ hn hpan => ?_); simp only [entry, ziC, ziN, maC, maN, oA, Tryz.ntmps41]
  repeat' (first
  | ((first | refine zag ?_ | refine zaj ?_ | refine zah ?_ | refine zat ?_ | fail); simp [hne, del, nAA])
  | (refine CallP.ok1 (ha _ (by first | omega | simp <;> omega | fail)) (by first | (simp [hne, del, nAA, zaa, getK, zab, zac]; done) | fail) (by rfl) (by rfl) ?_; (try simp [hne, del, nAA]))
  | fail)
  refine zcT (α := { x : Exp × Int × Nat × Nat // x.2.2.1 < l.length /\ 4 * (l.length - x.2.2.1) + 2 <= x.2.2.2 /\ x.2.2.2 <= f /\ R = zef l x.2.2.2 form x.1 x.2.1 x.2.2.1 }) [0, 1, 2, 4, 5] (fun x => [(6, .u (.int .i64 x.1.2.1))])
   (fun x => [(nx + 2, zr6 x.1.1), (nx + 1, .box [.u (.int .i64 0), .u (.int .i64 0), .u (.int .i64 0), .u (.str []), .u .nil]), (nx, .box [.ptr i 0]), (i, pOb l x.1.2.2.1)]) (nx + 3) (fun x => x.1.2.2.2) ⟨(v0.1, v0.2, q0, f), g0b, (by show 4 * (l.length - q0) + 2 <= f; omega), (by show f <= f; omega), hR'⟩ ?_ ?_
  ·have hi3 : i < nx + 3 := by omega
   exact (Wk.cut rfl (by simp [hn, St.lp]) (by simp [wkO, St.lp, zaa, getK, Ob.under, D.under, zad, zaf, hi, hi3, hne]) (by simp [wkU, St.lp, zan, zaa, getK, D.under, hi, hi3, hne]) (by simp [wkE, St.lp, zan, zaa, getK, hi, hi3, hne] <;> (try (intros; simp_all; done)) <;> (try (intros; omega)) <;> (try grind)))
  rintro ⟨⟨e, own, q, g⟩, h1, h2, h2b, h3⟩;simp only at h1 h2 h2b h3;simp [St.lp, St.only, zan, zaa, getK];obtain ⟨g, rfl⟩ : ∃ g', g = g' + 1 := ⟨g - 1, by omega⟩;rw [zef] at h3;have hix := znh l q h1 hl.len;cases hx : zf1 l q with
  | none =>
   rw [(zf7 oprs 0).1 hx] at hix;rw [hx] at h3
   repeat' (first
  | ((first | refine zag ?_ | refine zaj ?_ | refine zah ?_ | refine zai ?_ | refine zat ?_ | fail); simp [hne, del, nAA])
  | (refine zaq ?_; simp only [zap])
  | (refine CallP.fE (hop) (by first | rfl | fail) (by first | simp [hne, del, nAA] <;> rfl | fail) ?_; (try simp [hne, del, nAA]))
  | (refine CallP.fE (hix) (by first | rfl | fail) (by first | simp [hne, del, nAA] <;> rfl | fail) ?_; (try simp [hne, del, nAA]))
  | fail)
   refine EndW.norm ?_;simp [St.norm, zaD, zaT, zaV, zaW, hne, nAA]
   (refine EndW.here ?_; (first | (refine EndOK.fin (.inr rfl) ?_) | (refine EndOK.fin (.inl rfl) ?_)); simp [zaA, zae, Tryz.results41, hne, hi]; refine FinOK.cut [(i, pOb l q)] (nx) (by simp [zaa, getK, zab, zac, Ob.under, D.under, zad, zaf, hne, hi] <;> omega) (by simp [D.under]) (by simp [hn]) ?_; try simp)
   exact PPost.zcy h3 (by simp [Exp.row_eq]) rfl
  | some x =>
   obtain ⟨k, hk1, hk2⟩ := (zf7 oprs 0).2 x hx;rw [hk2] at hix;rw [hx] at h3;simp only at h3;have hqb := zaO hl (by have := List.find?_some (p := fun o : Opr => isB l q o.text) hx; exact this);have hk0 : ¬ ((k : Int) < 0) := by omega
   have hkl : k < 8 := (lGE.1 hk1).1;rw [show (0 : Int) + k = (k : Int) by omega] at hix;have hfm : 0 <= x.form /\ x.form <= 6 := by
    have := List.mem_of_getElem? hk1;simp only [oprs, List.mem_cons, List.not_mem_nil, or_false] at this;rcases this with rfl | rfl | rfl | rfl | rfl | rfl | rfl | rfl <;> decide
   obtain ⟨hf0, hf6⟩ := hfm;generalize hL : oprs = L at hop hix hk1;by_cases c1 : x.form < form
   ·rw [if_pos (Or.inl c1)] at h3
    repeat' (first
  | ((first | refine zag ?_ | refine zaj ?_ | refine zah ?_ | refine zai ?_ | refine zat ?_ | fail); simp [hne, del, nAA, hk0, hk1, c1])
  | ((first | refine zaq ?_ | refine zao ?_ | fail); simp only [zap])
  | (refine CallP.fE (hop) (by first | rfl | fail) (by first | simp [hne, del, nAA, hk0, hk1, c1] <;> rfl | fail) ?_; (try simp [hne, del, nAA, hk0, hk1, c1]))
  | (refine CallP.fE (hix) (by first | rfl | fail) (by first | simp [hne, del, nAA, hk0, hk1, c1] <;> rfl | fail) ?_; (try simp [hne, del, nAA, hk0, hk1, c1]))
  | fail)
    refine EndW.norm ?_;simp [St.norm, zaD, zaT, zaV, zaW, hne, nAA]
    (refine EndW.here ?_; (first | (refine EndOK.fin (.inr rfl) ?_) | (refine EndOK.fin (.inl rfl) ?_)); simp [zaA, zae, Tryz.results41, hne, hi]; refine FinOK.cut [(i, pOb l q)] (nx) (by simp [zaa, getK, zab, zac, Ob.under, D.under, zad, zaf, hne, hi] <;> omega) (by simp [D.under]) (by simp [hn]) ?_; try simp)
    exact PPost.zcy h3 (by simp [Exp.row_eq]) rfl
   ·by_cases c2 : own < x.form
    ·rw [if_pos (Or.inr (Or.inl c2))] at h3
     repeat' (first
  | ((first | refine zag ?_ | refine zaj ?_ | refine zah ?_ | refine zai ?_ | refine zat ?_ | fail); simp [hne, del, nAA, hk0, hk1, c1, c2])
  | ((first | refine zaq ?_ | refine zao ?_ | fail); simp only [zap])
  | (refine CallP.fE (hop) (by first | rfl | fail) (by first | simp [hne, del, nAA, hk0, hk1, c1, c2] <;> rfl | fail) ?_; (try simp [hne, del, nAA, hk0, hk1, c1, c2]))
  | (refine CallP.fE (hix) (by first | rfl | fail) (by first | simp [hne, del, nAA, hk0, hk1, c1, c2] <;> rfl | fail) ?_; (try simp [hne, del, nAA, hk0, hk1, c1, c2]))
  | fail)
     refine EndW.norm ?_;simp [St.norm, zaD, zaT, zaV, zaW, hne, nAA]
     (refine EndW.here ?_; (first | (refine EndOK.fin (.inr rfl) ?_) | (refine EndOK.fin (.inl rfl) ?_)); simp [zaA, zae, Tryz.results41, hne, hi]; refine FinOK.cut [(i, pOb l q)] (nx) (by simp [zaa, getK, zab, zac, Ob.under, D.under, zad, zaf, hne, hi] <;> omega) (by simp [D.under]) (by simp [hn]) ?_; try simp)
     exact PPost.zcy h3 (by simp [Exp.row_eq]) rfl
    ·by_cases c3 : own = 4 /\ x.form = 4
     ·rw [if_pos (Or.inr (Or.inr c3))] at h3;obtain ⟨c4, c5⟩ := c3
      repeat' (first
  | ((first | refine zag ?_ | refine zaj ?_ | refine zah ?_ | refine zai ?_ | refine zat ?_ | fail); simp [hne, del, nAA, hk0, hk1, c1, c2, c4, c5])
  | ((first | refine zaq ?_ | refine zao ?_ | fail); simp only [zap])
  | (refine ⟨?_, by omega⟩)
  | (intro hc <;> (try (exfalso; omega)))
  | (refine CallP.fE (hop) (by first | rfl | fail) (by first | simp [hne, del, nAA, hk0, hk1, c1, c2, c4, c5] <;> rfl | fail) ?_; (try simp [hne, del, nAA, hk0, hk1, c1, c2, c4, c5]))
  | (refine CallP.fE (hix) (by first | rfl | fail) (by first | simp [hne, del, nAA, hk0, hk1, c1, c2, c4, c5] <;> rfl | fail) ?_; (try simp [hne, del, nAA, hk0, hk1, c1, c2, c4, c5]))
  | fail)
      refine EndW.norm ?_;simp [St.norm, zaD, zaT, zaV, zaW, hne, nAA]
      (refine EndW.here ?_; (first | (refine EndOK.fin (.inr rfl) ?_) | (refine EndOK.fin (.inl rfl) ?_)); simp [zaA, zae, Tryz.results41, hne, hi]; refine FinOK.cut [(i, pOb l q)] (nx) (by simp [zaa, getK, zab, zac, Ob.under, D.under, zad, zaf, hne, hi] <;> omega) (by simp [D.under]) (by simp [hn]) ?_; try simp)
      exact PPost.zcy h3 (by simp [Exp.row_eq]) rfl
     ·rw [if_neg (by rintro (h | h | h) <;> contradiction)] at h3;have hb := fun nx' (h : nx <= nx') => hE g (by omega) (q + 1) (x.form + 1) i nx' (by omega) hqb (by omega) (by omega) (by omega);cases hr1 : zdZ l g (q + 1) (x.form + 1) with
      | stop pos err =>
       simp only [hr1] at hb;rw [hr1] at h3;by_cases c4 : own = 4
       ·have c5 : ¬ x.form = 4 := fun h => c3 ⟨c4, h⟩
        repeat' (first
  | (refine zgh (fun nx' h' => hb nx' (by simp at h'; omega)) (by first | (simp [hne, del, nAA, hk0, hk1, c1, c2, c4, c5, zaa, getK, zab, zac, zal, zaL]; done) | fail) (by rfl) (by first | assumption | simp) (by rfl) (by simp) ?_ ?_; rintro env' ob' n' hn' ⟨q', rfl⟩; refine ⟨_, Wk.refl _, ?_⟩)
  | (refine zfh rfl (by simp) ?_; simp)
  | ((first | refine zag ?_ | refine zaS rfl ?_ | refine zaj ?_ | fail); simp [hne, del, nAA, hk0, hk1, c1, c2, c4, c5])
  | (refine ⟨by omega, ?_⟩)
  | ((first | refine zah ?_ | refine zai ?_ | fail); simp [hne, del, nAA, hk0, hk1, c1, c2, c4, c5])
  | (refine zgi (hC _ (zbP [i] nx (by simp <;> omega) (by simp <;> omega) (by apply Exists.intro; apply And.intro; (focus (repeat' (first | exact KF.nil | exact KL.nil | apply KF.cons | apply KL.cons 0 rfl | apply KL.cons 1 rfl | apply KL.cons 2 rfl | apply KL.cons 3 rfl | apply KL.cons 4 rfl | apply KL.cons 5 rfl | apply KL.cons 6 rfl | apply KL.cons 7 rfl | apply KL.cons 8 rfl | apply KL.cons 9 rfl))); kernel_rfl))) rfl; done)
  | (refine za3 rfl (by kernel_rfl) (by first | (simp [hn]; done) | (simp [hn]; omega) | fail) fun C k hC hk => ?_; simp [hne, del, nAA, hk0, hk1, c1, c2, c4, c5])
  | (refine zat ?_; simp [hne, del, nAA, hk0, hk1, c1, c2, c4, c5])
  | (refine zao ?_; simp only [zap])
  | (refine ⟨?_, by omega⟩)
  | (intro hc <;> (try (exfalso; omega)))
  | (refine CallP.fE (hop) (by first | rfl | fail) (by first | simp [hne, del, nAA, hk0, hk1, c1, c2, c4, c5] <;> rfl | fail) ?_; (try simp [hne, del, nAA, hk0, hk1, c1, c2, c4, c5]))
  | (refine CallP.fE (hix) (by first | rfl | fail) (by first | simp [hne, del, nAA, hk0, hk1, c1, c2, c4, c5] <;> rfl | fail) ?_; (try simp [hne, del, nAA, hk0, hk1, c1, c2, c4, c5]))
  | fail)
        (refine hpan _ _ ⟨{ n := _, env := [], obs := [(i, pOb l q')], next := nx }, (Wk.cut rfl (by simp [hn]) (by simp [wkO, zaa, getK, zab, zac, Ob.under, D.under, zad, zaf, hi, hne, zab, zac, zaa, getK]) (by simp [wkU, zan, zaa, getK, D.under, hi, hne, zab, zac, zaa, getK]) (by simp [wkE, zan, zaa, getK, hi, hne, zab, zac, zaa, getK])), by simp [hn], ?_⟩; try simp)
        exact PPost.zaF h3
       ·repeat' (first
  | (refine zgh (fun nx' h' => hb nx' (by simp at h'; omega)) (by first | (simp [hne, del, nAA, hk0, hk1, c1, c2, c4, zaa, getK, zab, zac, zal, zaL]; done) | fail) (by rfl) (by first | assumption | simp) (by rfl) (by simp) ?_ ?_; rintro env' ob' n' hn' ⟨q', rfl⟩; refine ⟨_, Wk.refl _, ?_⟩)
  | (refine zfh rfl (by simp) ?_; simp)
  | ((first | refine zag ?_ | refine zaS rfl ?_ | refine zaj ?_ | fail); simp [hne, del, nAA, hk0, hk1, c1, c2, c4])
  | (refine ⟨by omega, ?_⟩)
  | ((first | refine zah ?_ | refine zai ?_ | fail); simp [hne, del, nAA, hk0, hk1, c1, c2, c4])
  | (refine zgi (hC _ (zbP [i] nx (by simp <;> omega) (by simp <;> omega) (by apply Exists.intro; apply And.intro; (focus (repeat' (first | exact KF.nil | exact KL.nil | apply KF.cons | apply KL.cons 0 rfl | apply KL.cons 1 rfl | apply KL.cons 2 rfl | apply KL.cons 3 rfl | apply KL.cons 4 rfl | apply KL.cons 5 rfl | apply KL.cons 6 rfl | apply KL.cons 7 rfl | apply KL.cons 8 rfl | apply KL.cons 9 rfl))); kernel_rfl))) rfl; done)
  | (refine za3 rfl (by kernel_rfl) (by first | (simp [hn]; done) | (simp [hn]; omega) | fail) fun C k hC hk => ?_; simp [hne, del, nAA, hk0, hk1, c1, c2, c4])
  | (refine zat ?_; simp [hne, del, nAA, hk0, hk1, c1, c2, c4])
  | (refine zao ?_; simp only [zap])
  | (refine CallP.fE (hop) (by first | rfl | fail) (by first | simp [hne, del, nAA, hk0, hk1, c1, c2, c4] <;> rfl | fail) ?_; (try simp [hne, del, nAA, hk0, hk1, c1, c2, c4]))
  | (refine CallP.fE (hix) (by first | rfl | fail) (by first | simp [hne, del, nAA, hk0, hk1, c1, c2, c4] <;> rfl | fail) ?_; (try simp [hne, del, nAA, hk0, hk1, c1, c2, c4]))
  | fail)
        (refine hpan _ _ ⟨{ n := _, env := [], obs := [(i, pOb l q')], next := nx }, (Wk.cut rfl (by simp [hn]) (by simp [wkO, zaa, getK, zab, zac, Ob.under, D.under, zad, zaf, hi, hne, zab, zac, zaa, getK]) (by simp [wkU, zan, zaa, getK, D.under, hi, hne, zab, zac, zaa, getK]) (by simp [wkE, zan, zaa, getK, hi, hne, zab, zac, zaa, getK])), by simp [hn], ?_⟩; try simp)
        exact PPost.zaF h3
      | ok e2 q2 =>
       have hb := fun nx' h => zdy (hb nx' h) hr1;obtain ⟨g1a, g1b⟩ := (zbF hl g).1 _ _ _ _ hr1 hqb;rw [hr1] at h3;by_cases c4 : own = 4
       ·have c5 : ¬ x.form = 4 := fun h => c3 ⟨c4, h⟩
        repeat' (first
  | (refine zfi (fun nx' h' => hb nx' (by simp at h'; omega)) (by first | (simp [hne, del, nAA, hk0, hk1, c1, c2, c4, c5, zaa, getK, zab, zac, zal, zaL]; done) | fail) (by rfl) (by first | assumption | simp) (by rfl) (by simp [D.under, Ob.under]) (by simp) ?_; (try simp [hne, del, nAA, hk0, hk1, c1, c2, c4, c5]))
  | ((first | refine zag ?_ | refine zaS rfl ?_ | refine zbJ rfl ?_ | refine zaj ?_ | fail); simp [hne, del, nAA, hk0, hk1, c1, c2, c4, c5])
  | (refine ⟨by omega, ?_⟩)
  | ((first | refine zah ?_ | refine zai ?_ | fail); simp [hne, del, nAA, hk0, hk1, c1, c2, c4, c5])
  | (refine za0 (hC _ (zbP [i] nx (by simp <;> omega) (by simp <;> omega) (by apply Exists.intro; apply And.intro; (focus (repeat' (first | exact KF.nil | exact KL.nil | apply KF.cons | apply KL.cons 0 rfl | apply KL.cons 1 rfl | apply KL.cons 2 rfl | apply KL.cons 3 rfl | apply KL.cons 4 rfl | apply KL.cons 5 rfl | apply KL.cons 6 rfl | apply KL.cons 7 rfl | apply KL.cons 8 rfl | apply KL.cons 9 rfl))); kernel_rfl))) (hk _ ?_); clear hC hk C k; simp only [zap])
  | (refine za3 rfl (by kernel_rfl) (by first | (simp [hn]; done) | (simp [hn]; omega) | fail) fun C k hC hk => ?_; simp [hne, del, nAA, hk0, hk1, c1, c2, c4, c5])
  | ((first | refine zat ?_ | refine zas ?_ | fail); simp [hne, del, nAA, hk0, hk1, c1, c2, c4, c5])
  | (refine zao ?_; simp only [zap])
  | (refine ⟨?_, by omega⟩)
  | (intro hc <;> (try (exfalso; omega)))
  | (refine CallP.fE (hop) (by first | rfl | fail) (by first | simp [hne, del, nAA, hk0, hk1, c1, c2, c4, c5] <;> rfl | fail) ?_; (try simp [hne, del, nAA, hk0, hk1, c1, c2, c4, c5]))
  | (refine CallP.fE (hix) (by first | rfl | fail) (by first | simp [hne, del, nAA, hk0, hk1, c1, c2, c4, c5] <;> rfl | fail) ?_; (try simp [hne, del, nAA, hk0, hk1, c1, c2, c4, c5]))
  | fail)
        have hi3 : i < nx + 3 := by omega
        refine LoopW.next ⟨(.mk x.op 0 0 [] [e, e2], x.form, q2, g), g1b, (by show 4 * (l.length - q2) + 2 <= g; omega), (by show g <= f; omega), h3⟩ (by show g < g + 1; omega) ?_
        refine Wk.trans (Wk.frzN 1 _) ?_;simp [hne, nAA, frzN, frz1, zaz, zay, St.frz, St.frzS, frzS, fv, zaH, za2, za4, zaG, zau, zam, del, frz, za5];exact (Wk.cut rfl (by simp [hn, St.lp]) (by simp [wkO, St.lp, zaa, getK, Ob.under, D.under, zad, zaf, hi, hi3, hne, Exp.row_eq, Exp.op, Exp.n, Exp.unit, Exp.s, Exp.args]) (by simp [wkU, St.lp, zan, zaa, getK, D.under, hi, hi3, hne, Exp.row_eq, Exp.op, Exp.n, Exp.unit, Exp.s, Exp.args]) (by simp [wkE, St.lp, zan, zaa, getK, hi, hi3, hne, Exp.row_eq, Exp.op, Exp.n, Exp.unit, Exp.s, Exp.args] <;> (try (intros; simp_all; done)) <;> (try (intros; omega)) <;> (try grind)))
       ·repeat' (first
  | (refine zfi (fun nx' h' => hb nx' (by simp at h'; omega)) (by first | (simp [hne, del, nAA, hk0, hk1, c1, c2, c4, zaa, getK, zab, zac, zal, zaL]; done) | fail) (by rfl) (by first | assumption | simp) (by rfl) (by simp [D.under, Ob.under]) (by simp) ?_; (try simp [hne, del, nAA, hk0, hk1, c1, c2, c4]))
  | ((first | refine zag ?_ | refine zaS rfl ?_ | refine zbJ rfl ?_ | refine zaj ?_ | fail); simp [hne, del, nAA, hk0, hk1, c1, c2, c4])
  | (refine ⟨by omega, ?_⟩)
  | ((first | refine zah ?_ | refine zai ?_ | fail); simp [hne, del, nAA, hk0, hk1, c1, c2, c4])
  | (refine za0 (hC _ (zbP [i] nx (by simp <;> omega) (by simp <;> omega) (by apply Exists.intro; apply And.intro; (focus (repeat' (first | exact KF.nil | exact KL.nil | apply KF.cons | apply KL.cons 0 rfl | apply KL.cons 1 rfl | apply KL.cons 2 rfl | apply KL.cons 3 rfl | apply KL.cons 4 rfl | apply KL.cons 5 rfl | apply KL.cons 6 rfl | apply KL.cons 7 rfl | apply KL.cons 8 rfl | apply KL.cons 9 rfl))); kernel_rfl))) (hk _ ?_); clear hC hk C k; simp only [zap])
  | (refine za3 rfl (by kernel_rfl) (by first | (simp [hn]; done) | (simp [hn]; omega) | fail) fun C k hC hk => ?_; simp [hne, del, nAA, hk0, hk1, c1, c2, c4])
  | ((first | refine zat ?_ | refine zas ?_ | fail); simp [hne, del, nAA, hk0, hk1, c1, c2, c4])
  | (refine zao ?_; simp only [zap])
  | (refine CallP.fE (hop) (by first | rfl | fail) (by first | simp [hne, del, nAA, hk0, hk1, c1, c2, c4] <;> rfl | fail) ?_; (try simp [hne, del, nAA, hk0, hk1, c1, c2, c4]))
  | (refine CallP.fE (hix) (by first | rfl | fail) (by first | simp [hne, del, nAA, hk0, hk1, c1, c2, c4] <;> rfl | fail) ?_; (try simp [hne, del, nAA, hk0, hk1, c1, c2, c4]))
  | fail)
        have hi3 : i < nx + 3 := by omega
        refine LoopW.next ⟨(.mk x.op 0 0 [] [e, e2], x.form, q2, g), g1b, (by show 4 * (l.length - q2) + 2 <= g; omega), (by show g <= f; omega), h3⟩ (by show g < g + 1; omega) ?_
        refine Wk.trans (Wk.frzN 1 _) ?_;simp [hne, nAA, frzN, frz1, zaz, zay, St.frz, St.frzS, frzS, fv, zaH, za2, za4, zaG, zau, zam, del, frz, za5];exact (Wk.cut rfl (by simp [hn, St.lp]) (by simp [wkO, St.lp, zaa, getK, Ob.under, D.under, zad, zaf, hi, hi3, hne, Exp.row_eq, Exp.op, Exp.n, Exp.unit, Exp.s, Exp.args]) (by simp [wkU, St.lp, zan, zaa, getK, D.under, hi, hi3, hne, Exp.row_eq, Exp.op, Exp.n, Exp.unit, Exp.s, Exp.args]) (by simp [wkE, St.lp, zan, zaa, getK, hi, hi3, hne, Exp.row_eq, Exp.op, Exp.n, Exp.unit, Exp.s, Exp.args] <;> (try (intros; simp_all; done)) <;> (try (intros; omega)) <;> (try grind)))
theorem zol (s : List UInt8) (l : List Tok) (nx : Nat) (h : zhM s = .ok l) :
  RetX Tryz.prog 34 [.u (.str s)] [] nx (fun r o n => r = .val (.tup [.ptr nx 0, .u (.int .i64 0), .u (.int .i64 0)]) /\ o = [(nx, pOb l 0)] /\ n = nx + 1) := by
 have h1 := zoz s;rw [h] at h1;simp only [zdY] at h1
 (refine RetX.of_bodyW Tryz.func34 rfl (by simp) fun Γ hn hpan => ?_); simp only [entry, ziC, ziN, maC, maN, oA, Tryz.ntmps34]
 repeat' (first
  | ((first | refine zag ?_ | refine zaj ?_ | refine zah ?_ | fail); simp)
  | (refine zaq ?_; simp only [zap])
  | (refine CallP.fE (h1) (by first | rfl | fail) (by first | (simp; done) | (simp; rfl) | fail) ?_; (try simp))
  | fail)
 (refine EndW.here ?_; (first | (refine EndOK.fin (.inr rfl) ?_) | (refine EndOK.fin (.inl rfl) ?_)); simp [zaA, zae, Tryz.results34]; refine FinOK.here (by simp) ?_; try simp)
theorem zlT (s : List UInt8) (p : Nat) (e : Int) (nx : Nat) (h : zhM s = .error (p, e)) :
  RetX Tryz.prog 34 [.u (.str s)] [] nx (fun r o n => r = .val (.tup [.ptr nx 0, .u (.int .i64 p), .u (.int .i64 e)]) /\ o = [(nx, pOb [] 0)] /\ n = nx + 1) := by
 have h1 := zoz s;rw [h] at h1;simp only [zdY] at h1
 (refine RetX.of_bodyW Tryz.func34 rfl (by simp) fun Γ hn hpan => ?_); simp only [entry, ziC, ziN, maC, maN, oA, Tryz.ntmps34]
 repeat' (first
  | ((first | refine zag ?_ | refine zaj ?_ | refine zah ?_ | fail); simp)
  | (refine zaq ?_; simp only [zap])
  | (refine CallP.fE (h1) (by first | rfl | fail) (by first | (simp; done) | (simp; rfl) | fail) ?_; (try simp))
  | fail)
 (refine EndW.here ?_; (first | (refine EndOK.fin (.inr rfl) ?_) | (refine EndOK.fin (.inl rfl) ?_)); simp [zaA, zae, Tryz.results34]; refine FinOK.here (by simp) ?_; try simp)
theorem zhJ (i j nx : Nat) (hi : i < nx) (hj : j < nx) (hij : i ≠ j) (p e : Int) :
  RetX Tryz.prog 36 [.u (.oth .nilIface), .ptr i 0, .ptr j 0] [(i, .box [.u (.int .i64 p)]), (j, .box [.u (.int .i64 e)])] nx
   (fun r o n => r = .val (.u (.bool false)) /\ o = [(i, .box [.u (.int .i64 p)]), (j, .box [.u (.int .i64 e)])] /\ n = nx) := by
 have hne := zaw hi;have hne2 := zaw hj
 (refine RetX.of_bodyW Tryz.func36 rfl (by simp) fun Γ hn hpan => ?_); simp only [entry, ziC, ziN, maC, maN, oA, Tryz.ntmps36]
 repeat' (first
  | ((first | refine zag ?_ | refine zaj ?_ | refine zah ?_ | fail); simp [hne, hne2, hij, Ne.symm hij])
  | fail)
 refine ⟨[.int .i64 0, .int .i64 0], rfl, ?_⟩
 repeat' (first
  | ((first | refine zag ?_ | refine zaj ?_ | refine zah ?_ | refine zai ?_ | fail); simp [hne, hne2, hij, Ne.symm hij])
  | ((first | refine zaq ?_ | refine zao ?_ | fail); simp only [zap])
  | fail)
 (refine EndW.here ?_; (first | (refine EndOK.fin (.inr rfl) ?_) | (refine EndOK.fin (.inl rfl) ?_)); simp [zaA, zae, Tryz.results36, hne, hne2, hij, Ne.symm hij, hi, hj]; refine FinOK.cut [(i, .box [.u (.int .i64 p)]), (j, .box [.u (.int .i64 e)])] (nx) (by simp [zaa, getK, zab, zac, Ob.under, D.under, zad, zaf, hne, hne2, hij, Ne.symm hij, hi, hj] <;> omega) (by simp [D.under]) (by simp [hn]) ?_; try simp)
theorem zhI (i j nx : Nat) (hi : i < nx) (hj : j < nx) (hij : i ≠ j) (p e pos err : Int) :
  RetX Tryz.prog 36 [.u (.oth (.iface 105 (.agg #[.int .i64 pos, .int .i64 err]))), .ptr i 0, .ptr j 0] [(i, .box [.u (.int .i64 p)]), (j, .box [.u (.int .i64 e)])] nx
   (fun r o n => r = .val (.u (.bool true)) /\ o = [(i, .box [.u (.int .i64 pos)]), (j, .box [.u (.int .i64 err)])] /\ n = nx) := by
 have hne := zaw hi;have hne2 := zaw hj
 (refine RetX.of_bodyW Tryz.func36 rfl (by simp) fun Γ hn hpan => ?_); simp only [entry, ziC, ziN, maC, maN, oA, Tryz.ntmps36]
 repeat' (first
  | ((first | refine zag ?_ | refine zaS rfl ?_ | refine zbJ rfl ?_ | refine zaj ?_ | refine zah ?_ | refine zai ?_ | fail); simp [hne, hne2, hij, Ne.symm hij])
  | (refine za0 (hC _ (zbP [i, j] nx (by simp <;> omega) (by simp <;> omega) (by apply Exists.intro; apply And.intro; (focus (repeat' (first | exact KF.nil | exact KL.nil | apply KF.cons | apply KL.cons 0 rfl | apply KL.cons 1 rfl | apply KL.cons 2 rfl | apply KL.cons 3 rfl | apply KL.cons 4 rfl | apply KL.cons 5 rfl | apply KL.cons 6 rfl | apply KL.cons 7 rfl | apply KL.cons 8 rfl | apply KL.cons 9 rfl))); kernel_rfl))) (hk _ ?_); clear hC hk C k; simp only [zap])
  | (refine za3 rfl (by kernel_rfl) (by first | (simp [hn]; done) | (simp [hn]; omega) | fail) fun C k hC hk => ?_; simp [hne, hne2, hij, Ne.symm hij])
  | ((first | refine zaq ?_ | refine zao ?_ | fail); simp only [zap])
  | fail)
 (refine EndW.here ?_; (first | (refine EndOK.fin (.inr rfl) ?_) | (refine EndOK.fin (.inl rfl) ?_)); simp [zaA, zae, Tryz.results36, hne, hne2, hij, Ne.symm hij, hi, hj]; refine FinOK.cut [(i, .box [.u (.int .i64 pos)]), (j, .box [.u (.int .i64 err)])] (nx) (by simp [zaa, getK, zab, zac, Ob.under, D.under, zad, zaf, hne, hne2, hij, Ne.symm hij, hi, hj] <;> omega) (by simp [D.under]) (by simp [hn]) ?_; try simp)
theorem zpL (i j q nx : Nat) (hi : i < nx) (hj : j < nx) (hq : q < nx) (hij : i ≠ j) (hiq : i ≠ q) (hjq : j ≠ q) (p e : Int) (cells : List U) :
  RetDf Tryz.prog 40 [.ptr i 0, .ptr j 0, .ptr q 0] [(i, .box [.u (.int .i64 p)]), (j, .box [.u (.int .i64 e)]), (q, .box (cells.map .u))] nx .returning
   (fun u o n => settle u = .returning /\ n = nx /\ o = [(i, .box [.u (.int .i64 p)]), (j, .box [.u (.int .i64 e)]), (q, .box (cells.map .u))]) := by
 have hne := zaw hi;have hne2 := zaw hj;have hne3 := zaw hq;have hc0 := zhJ i j nx hi hj hij p e;refine RetDf.of_body Tryz.func40 rfl (by simp) (by simp) rfl fun Γ hn => ?_;simp [entry, zld, Tryz.ntmps40];refine CallP.x2 hc0 (by simp [getK]) (by simp [getK, hij, Ne.symm hij]) hij rfl rfl (by simp) (by simp) (fun d o1 nx' hnx h => ?_) (fun ch o1 nx' hnx h => by cases h.1);obtain ⟨h1, rfl, h4⟩ := h;have h4 := h4.symm;subst h4;cases h1;simp [del, hij, Ne.symm hij, hiq, hjq, Ne.symm hiq, Ne.symm hjq]
 repeat' (first
  | (refine zai ?_; simp [hij, hiq, hjq])
  | (refine zao ?_; simp only [zap])
  | fail)
 (refine ⟨by simp, { n := _, env := [], obs := [(i, .box [.u (.int .i64 p)]), (j, .box [.u (.int .i64 e)]), (q, .box (cells.map .u))], next := nx }, (Wk.cut rfl (by simp [hn]) (by simp [wkO, zaa, getK, zab, zac, Ob.under, D.under, zad, zaf, hi, hj, hq, hne, hne2, hne3, hij, hiq, hjq, Ne.symm hij, Ne.symm hiq, Ne.symm hjq]) (by simp [wkU, zan, zaa, getK, D.under, hi, hj, hq, hne, hne2, hne3, hij, hiq, hjq, Ne.symm hij, Ne.symm hiq, Ne.symm hjq]) (by simp [wkE, zan, zaa, getK, hi, hj, hq, hne, hne2, hne3, hij, hiq, hjq, Ne.symm hij, Ne.symm hiq, Ne.symm hjq])), by simp [hn], ?_⟩; try simp)
 all_goals rfl
theorem zcn (l : List Tok) (S : RS) (hv : VS l S) (hl : l.length <= 1000000) : Fun Tryz.prog 93 [.u (zdw l S)] (· = .u (.agg [.int .i64 (zbw l S).kind, .str (zbw l S).text, .int .i64 (zbw l S).n, .int .i64 (zbw l S).pos])) := by
 rcases hv.ways with hb | ⟨q, rfl, hq⟩
 ·rw [ziS hb];unfold zdw zbf
  (refine Fun.of_body Tryz.func93 rfl (by simp) fun Γ hn => ?_); simp only [entry, ziC, ziN, maC, maN, oA, Tryz.ntmps93]
  repeat' (first
  | ((first | refine zag ?_ | refine zaj ?_ | refine zah ?_ | refine zai ?_ | fail); simp [hb])
  | (refine zaq ?_; simp only [zap])
  | fail)
  (refine EndOK.val (.inr rfl) ?_; simp [zaA, zae, zar, Tryz.results93])
 ·obtain ⟨t, ht⟩ : ∃ t, l[q]? = some t := ⟨_, List.getElem?_eq_getElem hq⟩;rw [zbG ht];unfold zdw zbf
  (refine Fun.of_body Tryz.func93 rfl (by simp) fun Γ hn => ?_); simp only [entry, ziC, ziN, maC, maN, oA, Tryz.ntmps93]
  repeat' (first
  | ((first | refine zag ?_ | refine zaS rfl ?_ | refine zbJ rfl ?_ | refine zaj ?_ | refine zah ?_ | refine zai ?_ | fail); simp [ht])
  | (refine za0 (hC _ (by kernel_rfl)) (hk _ ?_); clear hC hk C k; simp only [zap])
  | (refine za3 rfl (by kernel_rfl) (by first | (simp [hn]; done) | (simp [hn]; omega) | fail) fun C k hC hk => ?_; simp [ht])
  | ((first | refine zaq ?_ | refine zao ?_ | fail); simp only [zap])
  | fail)
  (refine EndOK.val (.inr rfl) ?_; simp [zaA, zae, zar, Tryz.results93])
theorem zlb (l : List Tok) (S : RS) (w : W8) (hv : VS l S) (hl : l.length <= 1000000) : Fun Tryz.prog 100 [.u (zdw l S), .u (.str w)] (· = .u (.bool (isR l S w))) := by
 have hnx := zcn l S hv hl;unfold isR;generalize zbw l S = t at *;unfold zdw zbf at *;by_cases h1 : t.kind = 0
 ·(refine Fun.of_body Tryz.func100 rfl (by simp) fun Γ hn => ?_); simp only [entry, ziC, ziN, maC, maN, oA, Tryz.ntmps100]
  repeat' (first
  | ((first | refine zag ?_ | refine zaj ?_ | refine zah ?_ | fail); simp [h1])
  | (refine zaq ?_; simp only [zap])
  | (refine CallP.fE (hnx) (by first | rfl | fail) (by first | simp [h1] <;> rfl | fail) ?_; (try simp [h1]))
  | fail)
  all_goals
    (refine EndOK.val (.inr rfl) ?_; simp [zaA, zae, zar, Tryz.results100])
  all_goals simp [h1]
 ·(refine Fun.of_body Tryz.func100 rfl (by simp) fun Γ hn => ?_); simp only [entry, ziC, ziN, maC, maN, oA, Tryz.ntmps100]
  repeat' (first
  | ((first | refine zag ?_ | refine zaj ?_ | refine zah ?_ | fail); simp [h1])
  | (refine zaq ?_; simp only [zap])
  | (refine CallP.fE (hnx) (by first | rfl | fail) (by first | simp [h1] <;> rfl | fail) ?_; (try simp [h1]))
  | fail)
  all_goals
    (refine EndOK.val (.inr rfl) ?_; simp [zaA, zae, zar, Tryz.results100])
  all_goals simp [h1]
theorem zbO (l : List Tok) (S : RS) (w : W8) (i nx : Nat) (hi : i < nx) (hv : VS l S) (hl : l.length <= 1000000) :
  RetX Tryz.prog 89 [.ptr i 0, .u (.str w)] [(i, rOb l S)] nx (fun r o n => r = .val (.u (.bool (isR l S w))) /\ o = [(i, rOb l (if isR l S w = true then S.adv else S))] /\ n = nx) := by
 have h1 := zlb l S w hv hl;unfold rOb zdw zbf at *;cases hb : isR l S w with
 | false =>
  rw [hb] at h1
  (refine RetX.of_bodyW Tryz.func89 rfl (by simp) fun Γ hn hpan => ?_); simp only [entry, ziC, ziN, maC, maN, oA, Tryz.ntmps89]
  repeat' (first
  | ((first | refine zag ?_ | refine zaj ?_ | refine zah ?_ | refine zai ?_ | fail); simp)
  | (refine zaq ?_; simp only [zap])
  | (refine CallP.fE (h1) (by first | rfl | fail) (by first | (simp; done) | (simp; rfl) | fail) ?_; (try simp))
  | fail)
  (refine EndW.here ?_; (first | (refine EndOK.fin (.inr rfl) ?_) | (refine EndOK.fin (.inl rfl) ?_)); simp [zaA, zae, Tryz.results89]; refine FinOK.here (by simp) ?_; try simp)
 | true =>
  rw [hb] at h1;have hq : S.q < 1000000 := by
   rcases hv.ways with hv | ⟨q, rfl, hq⟩
   ·rw [zfG hv] at hb; cases hb
   ·show q < _; omega
  simp only [RS.adv, if_true]
  (refine RetX.of_bodyW Tryz.func89 rfl (by simp) fun Γ hn hpan => ?_); simp only [entry, ziC, ziN, maC, maN, oA, Tryz.ntmps89]
  repeat' (first
  | ((first | refine zag ?_ | refine zaj ?_ | fail); simp)
  | (refine ⟨by omega, ?_⟩)
  | ((first | refine zah ?_ | refine zai ?_ | fail); simp)
  | ((first | refine zaq ?_ | refine zao ?_ | fail); simp only [zap])
  | (refine CallP.fE (h1) (by first | rfl | fail) (by first | (simp; done) | (simp; rfl) | fail) ?_; (try simp))
  | fail)
  (refine EndW.here ?_; (first | (refine EndOK.fin (.inr rfl) ?_) | (refine EndOK.fin (.inl rfl) ?_)); simp [zaA, zae, Tryz.results89]; refine FinOK.here (by simp) ?_; try simp)
theorem zco (l : List Tok) (S : RS) (e : Int) (i nx : Nat) (hi : i < nx) (hv : VS l S) (hl : l.length <= 1000000) :
  RetX Tryz.prog 94 [.ptr i 0, .u (.int .i64 e)] [(i, rOb l S)] nx (fun r o n => r = .val (.tup []) /\ o = [(i, rOb l (zbm l S e))] /\ n = nx) := by
 have h1 := zcn l S hv hl;unfold zbm;by_cases hb : S.err = 0
 ·rw [if_pos hb];generalize zbw l S = t at *;unfold rOb zdw zbf at *
  (refine RetX.of_bodyW Tryz.func94 rfl (by simp) fun Γ hn hpan => ?_); simp only [entry, ziC, ziN, maC, maN, oA, Tryz.ntmps94]
  repeat' (first
  | ((first | refine zag ?_ | refine zaj ?_ | refine zah ?_ | refine zai ?_ | refine zas ?_ | fail); simp [hb])
  | (refine CallP.fE (h1) (by first | rfl | fail) (by first | simp [hb] <;> rfl | fail) ?_; (try simp [hb]))
  | fail)
  (refine EndW.here ?_; (first | (refine EndOK.fin (.inr rfl) ?_) | (refine EndOK.fin (.inl rfl) ?_)); simp [zaA, zae, Tryz.results94]; refine FinOK.here (by simp) ?_; try simp)
 ·rw [if_neg hb];unfold rOb zdw zbf at *
  (refine RetX.of_bodyW Tryz.func94 rfl (by simp) fun Γ hn hpan => ?_); simp only [entry, ziC, ziN, maC, maN, oA, Tryz.ntmps94]
  repeat' (first
  | ((first | refine zag ?_ | refine zaj ?_ | refine zah ?_ | refine zai ?_ | fail); simp [hb])
  | (refine zao ?_; simp only [zap])
  | fail)
  (refine EndW.here ?_; (first | (refine EndOK.fin (.inr rfl) ?_) | (refine EndOK.fin (.inl rfl) ?_)); simp [zaA, zae, Tryz.results94]; refine FinOK.here (by simp) ?_; try simp)
theorem zb2 (l : List Tok) (S : RS) (w : W8) (i nx : Nat) (hi : i < nx) (hv : VS l S) (hl : l.length <= 1000000) :
  RetX Tryz.prog 88 [.ptr i 0, .u (.str w)] [(i, rOb l S)] nx (fun r o n => r = .val (.tup []) /\ o = [(i, rOb l (za6 l S w))] /\ n = nx) := by
 have hne := zaw hi;have h1 := fun nx' (h : nx <= nx') => zbO l S w i nx' (by omega) hv hl;have h2 := fun nx' (h : nx <= nx') => zco l S 12 i nx' (by omega) hv hl;unfold za6;cases hb : isR l S w with
 | false =>
  simp only [hb, Bool.false_eq_true, if_false] at h1 ⊢
  (refine RetX.of_bodyW Tryz.func88 rfl (by simp) fun Γ hn hpan => ?_); simp only [entry, ziC, ziN, maC, maN, oA, Tryz.ntmps88]
  repeat' (first
  | ((first | refine zag ?_ | refine zaj ?_ | refine zah ?_ | refine zai ?_ | refine zas ?_ | fail); simp [hne, del, nAA])
  | (refine CallP.ok1 (h1 _ (by first | omega | simp <;> omega | fail)) (by first | (simp [hne, del, nAA, zaa, getK, zab, zac]; done) | fail) (by rfl) (by rfl) ?_; (try simp [hne, del, nAA]))
  | (refine CallP.ok1 (h2 _ (by first | omega | simp <;> omega | fail)) (by first | (simp [hne, del, nAA, zaa, getK, zab, zac]; done) | fail) (by rfl) (by rfl) ?_; (try simp [hne, del, nAA]))
  | fail)
  (refine EndW.here ?_; (first | (refine EndOK.fin (.inr rfl) ?_) | (refine EndOK.fin (.inl rfl) ?_)); simp [zaA, zae, Tryz.results88]; refine FinOK.here (by simp) ?_; try simp)
 | true =>
  simp only [hb, if_true] at h1 ⊢
  (refine RetX.of_bodyW Tryz.func88 rfl (by simp) fun Γ hn hpan => ?_); simp only [entry, ziC, ziN, maC, maN, oA, Tryz.ntmps88]
  repeat' (first
  | ((first | refine zag ?_ | refine zaj ?_ | refine zah ?_ | refine zai ?_ | fail); simp [hne, del, nAA])
  | (refine zao ?_; simp only [zap])
  | (refine CallP.ok1 (h1 _ (by first | omega | simp <;> omega | fail)) (by first | (simp [hne, del, nAA, zaa, getK, zab, zac]; done) | fail) (by rfl) (by rfl) ?_; (try simp [hne, del, nAA]))
  | fail)
  (refine EndW.here ?_; (first | (refine EndOK.fin (.inr rfl) ?_) | (refine EndOK.fin (.inl rfl) ?_)); simp [zaA, zae, Tryz.results88]; refine FinOK.here (by simp) ?_; try simp)
theorem zk7 (t : Tok) : Fun Tryz.prog 135 [.u (.agg [.int .i64 t.kind, .str t.text, .int .i64 t.n, .int .i64 t.pos])] (· = .tup [.u (.int .i64 (zmX (zrV t))), .u (.int .i64 (zej (zrV t)))]) := by
 unfold zrV;by_cases h0 : t.kind = 0
 ·rw [if_pos h0]
  (refine Fun.of_body Tryz.func135 rfl (by simp) fun Γ hn => ?_); simp only [entry, ziC, ziN, maC, maN, oA, Tryz.ntmps135]
  repeat' (first
  | ((first | refine zag ?_ | refine zaj ?_ | refine zah ?_ | refine zai ?_ | fail); simp [h0])
  | (refine zaq ?_; simp only [zap])
  | fail)
  (refine EndOK.val (.inr rfl) ?_; simp [zaA, zae, zar, Tryz.results135])
  simp [zmX, zej]
 rw [if_neg h0];by_cases t0 : t.text = [111, 114]
 ·have e : oprs.find? (fun o => decide (t.text = o.text)) = some ⟨[111, 114], 11, 1⟩ := by rw [t0]; rfl
  rw [e]
  (refine Fun.of_body Tryz.func135 rfl (by simp) fun Γ hn => ?_); simp only [entry, ziC, ziN, maC, maN, oA, Tryz.ntmps135]
  repeat' (first
  | ((first | refine zag ?_ | refine zaj ?_ | refine zah ?_ | refine zai ?_ | refine zat ?_ | fail); simp [h0, t0])
  | ((first | refine zaq ?_ | refine zao ?_ | fail); simp only [zap])
  | fail)
  (refine EndOK.val (.inr rfl) ?_; simp [zaA, zae, zar, Tryz.results135])
  simp [zmX, zej]
 by_cases t1 : t.text = [97, 110, 100]
 ·have e : oprs.find? (fun o => decide (t.text = o.text)) = some ⟨[97, 110, 100], 10, 2⟩ := by rw [t1]; rfl
  rw [e]
  (refine Fun.of_body Tryz.func135 rfl (by simp) fun Γ hn => ?_); simp only [entry, ziC, ziN, maC, maN, oA, Tryz.ntmps135]
  repeat' (first
  | ((first | refine zag ?_ | refine zaj ?_ | refine zah ?_ | refine zai ?_ | refine zat ?_ | fail); simp [h0, t0, t1])
  | ((first | refine zaq ?_ | refine zao ?_ | fail); simp only [zap])
  | fail)
  (refine EndOK.val (.inr rfl) ?_; simp [zaA, zae, zar, Tryz.results135])
  simp [zmX, zej]
 by_cases t2 : t.text = [61, 61]
 ·have e : oprs.find? (fun o => decide (t.text = o.text)) = some ⟨[61, 61], 9, 4⟩ := by rw [t2]; rfl
  rw [e]
  (refine Fun.of_body Tryz.func135 rfl (by simp) fun Γ hn => ?_); simp only [entry, ziC, ziN, maC, maN, oA, Tryz.ntmps135]
  repeat' (first
  | ((first | refine zag ?_ | refine zaj ?_ | refine zah ?_ | refine zai ?_ | refine zat ?_ | fail); simp [h0, t0, t1, t2])
  | ((first | refine zaq ?_ | refine zao ?_ | fail); simp only [zap])
  | fail)
  (refine EndOK.val (.inr rfl) ?_; simp [zaA, zae, zar, Tryz.results135])
  simp [zmX, zej]
 by_cases t3 : t.text = [60]
 ·have e : oprs.find? (fun o => decide (t.text = o.text)) = some ⟨[60], 8, 4⟩ := by rw [t3]; rfl
  rw [e]
  (refine Fun.of_body Tryz.func135 rfl (by simp) fun Γ hn => ?_); simp only [entry, ziC, ziN, maC, maN, oA, Tryz.ntmps135]
  repeat' (first
  | ((first | refine zag ?_ | refine zaj ?_ | refine zah ?_ | refine zai ?_ | refine zat ?_ | fail); simp [h0, t0, t1, t2, t3])
  | ((first | refine zaq ?_ | refine zao ?_ | fail); simp only [zap])
  | fail)
  (refine EndOK.val (.inr rfl) ?_; simp [zaA, zae, zar, Tryz.results135])
  simp [zmX, zej]
 by_cases t4 : t.text = [43]
 ·have e : oprs.find? (fun o => decide (t.text = o.text)) = some ⟨[43], 2, 5⟩ := by rw [t4]; rfl
  rw [e]
  (refine Fun.of_body Tryz.func135 rfl (by simp) fun Γ hn => ?_); simp only [entry, ziC, ziN, maC, maN, oA, Tryz.ntmps135]
  repeat' (first
  | ((first | refine zag ?_ | refine zaj ?_ | refine zah ?_ | refine zai ?_ | refine zat ?_ | fail); simp [h0, t0, t1, t2, t3, t4])
  | ((first | refine zaq ?_ | refine zao ?_ | fail); simp only [zap])
  | fail)
  (refine EndOK.val (.inr rfl) ?_; simp [zaA, zae, zar, Tryz.results135])
  simp [zmX, zej]
 by_cases t5 : t.text = [45]
 ·have e : oprs.find? (fun o => decide (t.text = o.text)) = some ⟨[45], 3, 5⟩ := by rw [t5]; rfl
  rw [e]
  (refine Fun.of_body Tryz.func135 rfl (by simp) fun Γ hn => ?_); simp only [entry, ziC, ziN, maC, maN, oA, Tryz.ntmps135]
  repeat' (first
  | ((first | refine zag ?_ | refine zaj ?_ | refine zah ?_ | refine zai ?_ | refine zat ?_ | fail); simp [h0, t0, t1, t2, t3, t4, t5])
  | ((first | refine zaq ?_ | refine zao ?_ | fail); simp only [zap])
  | fail)
  (refine EndOK.val (.inr rfl) ?_; simp [zaA, zae, zar, Tryz.results135])
  simp [zmX, zej]
 by_cases t6 : t.text = [42]
 ·have e : oprs.find? (fun o => decide (t.text = o.text)) = some ⟨[42], 4, 6⟩ := by rw [t6]; rfl
  rw [e]
  (refine Fun.of_body Tryz.func135 rfl (by simp) fun Γ hn => ?_); simp only [entry, ziC, ziN, maC, maN, oA, Tryz.ntmps135]
  repeat' (first
  | ((first | refine zag ?_ | refine zaj ?_ | refine zah ?_ | refine zai ?_ | refine zat ?_ | fail); simp [h0, t0, t1, t2, t3, t4, t5, t6])
  | ((first | refine zaq ?_ | refine zao ?_ | fail); simp only [zap])
  | fail)
  (refine EndOK.val (.inr rfl) ?_; simp [zaA, zae, zar, Tryz.results135])
  simp [zmX, zej]
 by_cases t7 : t.text = [47]
 ·have e : oprs.find? (fun o => decide (t.text = o.text)) = some ⟨[47], 5, 6⟩ := by rw [t7]; rfl
  rw [e]
  (refine Fun.of_body Tryz.func135 rfl (by simp) fun Γ hn => ?_); simp only [entry, ziC, ziN, maC, maN, oA, Tryz.ntmps135]
  repeat' (first
  | ((first | refine zag ?_ | refine zaj ?_ | refine zah ?_ | refine zai ?_ | refine zat ?_ | fail); simp [h0, t0, t1, t2, t3, t4, t5, t6, t7])
  | ((first | refine zaq ?_ | refine zao ?_ | fail); simp only [zap])
  | fail)
  (refine EndOK.val (.inr rfl) ?_; simp [zaA, zae, zar, Tryz.results135])
  simp [zmX, zej]
 have e : oprs.find? (fun o => decide (t.text = o.text)) = none := by
  rw [List.find?_eq_none];intro o ho;simp only [oprs, List.mem_cons, List.mem_nil_iff, or_false] at ho;rcases ho with rfl | rfl | rfl | rfl | rfl | rfl | rfl | rfl <;> simp [t0, t1, t2, t3, t4, t5, t6, t7]
 rw [e]
 (refine Fun.of_body Tryz.func135 rfl (by simp) fun Γ hn => ?_); simp only [entry, ziC, ziN, maC, maN, oA, Tryz.ntmps135]
 repeat' (first
  | ((first | refine zag ?_ | refine zaj ?_ | refine zah ?_ | refine zai ?_ | refine zat ?_ | fail); simp [h0, t0, t1, t2, t3, t4, t5, t6, t7])
  | ((first | refine zaq ?_ | refine zao ?_ | fail); simp only [zap])
  | fail)
 (refine EndOK.val (.inr rfl) ?_; simp [zaA, zae, zar, Tryz.results135])
 simp [zmX, zej]
def zjk (l : List Tok) (i nx : Nat) (x : Exp × RS) : Out -> List (Nat × Ob) -> Nat -> Prop :=
 fun r o n => r = .val (.u (.agg [.int .i64 x.1.op, .int .i64 x.1.n, .int .i64 x.1.unit, .str x.1.s, .sl (x.1.args.map Exp.row)])) /\ o = [(i, rOb l x.2)] /\ n = nx
theorem zbA (l : List Tok) (i nx : Nat) (x : Exp × RS) : zjk l i nx x = fun r o n => r = .val (.u (.agg [.int .i64 x.1.op, .int .i64 x.1.n, .int .i64 x.1.unit, .str x.1.s, .sl (x.1.args.map Exp.row)])) /\ o = [(i, rOb l x.2)] /\ n = nx := rfl
def zgQ (l : List Tok) (f : Nat) : Prop := ∀ (S : RS) (k : Int) (i nx : Nat), i < nx -> VS l S -> (S.err = 0 -> 10 * (l.length - S.q) + 9 <= f + k.toNat) -> 0 <= k -> k <= 7 ->
 RetX Tryz.prog 99 [.ptr i 0, .u (.int .i64 k)] [(i, rOb l S)] nx (zjk l i nx (zdP l f S k))
def zlE (l : List Tok) (f : Nat) : Prop := ∀ (q i nx : Nat), i < nx -> q < l.length -> 10 * (l.length - q) + 1 <= f ->
 RetX Tryz.prog 134 [.ptr i 0] [(i, rOb l ⟨q, 0, 0⟩)] nx (zjk l i nx (zgp l f ⟨q, 0, 0⟩))
theorem zn0 {l : List Tok} (hl : TokOK l) (hll : l.length <= 1000000) {f q : Nat} {t : Tok} (ht : l[q]? = some t) (hk : t.kind = 2) {i nx : Nat} (hi : i < nx) :
  RetX Tryz.prog 134 [.ptr i 0] [(i, rOb l ⟨q, 0, 0⟩)] nx (zjk l i nx (zgp l (f + 1) ⟨q, 0, 0⟩)) := by
 have hne := zaw hi;have hq := (lGE.1 ht).1;have hv : VS l ⟨q, 0, 0⟩ := .inr ⟨rfl, rfl, hq⟩;have hnx := zcn l ⟨q, 0, 0⟩ hv hll;rw [zbG ht] at hnx;rw [zgp];have hq1 := hl.fin q t ht (by omega);have hv1 : VS l ⟨q + 1, 0, 0⟩ := .inr ⟨rfl, rfl, hq1⟩;have a1 := fun nx' (h : nx <= nx') => zbO l ⟨q + 1, 0, 0⟩ [99, 111, 105, 110, 115] i nx' (by omega) hv1 hll;have a2 := fun nx' (h : nx <= nx') => zbO l ⟨q + 1, 0, 0⟩ [100, 97, 121, 115] i nx' (by omega) hv1 hll;have a3 := fun nx' (h : nx <= nx') => zbO l ⟨q + 1, 0, 0⟩ [112, 101, 114] i nx' (by omega) hv1 hll;simp only [zbG ht, hk, if_true, RS.adv, zbA] at hnx a1 a2 a3 ⊢;cases b1 : isR l ⟨q + 1, 0, 0⟩ [99, 111, 105, 110, 115] with
 | true =>
  simp only [b1, if_true] at a1 ⊢;unfold rOb zdw zbf at *
  (refine RetX.of_bodyW Tryz.func134 rfl (by simp) fun Γ hn hpan => ?_); simp only [entry, ziC, ziN, maC, maN, oA, Tryz.ntmps134]
  repeat' (first
  | ((first | refine zag ?_ | refine zaj ?_ | fail); simp [hne, hk, del, nAA])
  | (refine ⟨by omega, ?_⟩)
  | ((first | refine zah ?_ | refine zai ?_ | refine zas ?_ | fail); simp [hne, hk, del, nAA])
  | (refine zaq ?_; simp only [zap])
  | (refine CallP.fE (hnx) (by first | rfl | fail) (by first | simp [hne, hk, del, nAA] <;> rfl | fail) ?_; (try simp [hne, hk, del, nAA]))
  | (refine CallP.ok1 (a1 _ (by first | omega | simp <;> omega | fail)) (by first | (simp [hne, hk, del, nAA, zaa, getK, zab, zac]; done) | fail) (by rfl) (by rfl) ?_; (try simp [hne, hk, del, nAA]))
  | fail)
  refine EndW.norm ?_;simp [St.norm, zaD, zaT, zaV, zaW, hne, nAA]
  (refine EndW.here ?_; (first | (refine EndOK.fin (.inr rfl) ?_) | (refine EndOK.fin (.inl rfl) ?_)); simp [zaA, zae, Tryz.results134, hne, hi]; refine FinOK.cut [(i, rOb l ⟨q + 1 + 1, 0, 0⟩)] (nx) (by simp [zaa, getK, zab, zac, Ob.under, D.under, zad, zaf, hne, hi] <;> omega) (by simp [D.under]) (by simp [hn]) ?_; try simp)
  all_goals (first | (simp [Exp.row_eq, Exp.op, Exp.n, Exp.unit, Exp.s, Exp.args, zbB]; done) | (simp [Exp.row_eq, Exp.op, Exp.n, Exp.unit, Exp.s, Exp.args, zbB]; omega) | fail)
 | false =>
 cases b2 : isR l ⟨q + 1, 0, 0⟩ [100, 97, 121, 115] with
 | true =>
  simp only [b1, b2, if_true, Bool.false_eq_true, if_false] at a1 a2 ⊢;unfold rOb zdw zbf at *
  (refine RetX.of_bodyW Tryz.func134 rfl (by simp) fun Γ hn hpan => ?_); simp only [entry, ziC, ziN, maC, maN, oA, Tryz.ntmps134]
  repeat' (first
  | ((first | refine zag ?_ | refine zaj ?_ | fail); simp [hne, hk, del, nAA])
  | (refine ⟨by omega, ?_⟩)
  | ((first | refine zah ?_ | refine zai ?_ | refine zas ?_ | fail); simp [hne, hk, del, nAA])
  | (refine zaq ?_; simp only [zap])
  | (refine CallP.fE (hnx) (by first | rfl | fail) (by first | simp [hne, hk, del, nAA] <;> rfl | fail) ?_; (try simp [hne, hk, del, nAA]))
  | (refine CallP.ok1 (a1 _ (by first | omega | simp <;> omega | fail)) (by first | (simp [hne, hk, del, nAA, zaa, getK, zab, zac]; done) | fail) (by rfl) (by rfl) ?_; (try simp [hne, hk, del, nAA]))
  | (refine CallP.ok1 (a2 _ (by first | omega | simp <;> omega | fail)) (by first | (simp [hne, hk, del, nAA, zaa, getK, zab, zac]; done) | fail) (by rfl) (by rfl) ?_; (try simp [hne, hk, del, nAA]))
  | fail)
  refine EndW.norm ?_;simp [St.norm, zaD, zaT, zaV, zaW, hne, nAA]
  (refine EndW.here ?_; (first | (refine EndOK.fin (.inr rfl) ?_) | (refine EndOK.fin (.inl rfl) ?_)); simp [zaA, zae, Tryz.results134, hne, hi]; refine FinOK.cut [(i, rOb l ⟨q + 1 + 1, 0, 0⟩)] (nx) (by simp [zaa, getK, zab, zac, Ob.under, D.under, zad, zaf, hne, hi] <;> omega) (by simp [D.under]) (by simp [hn]) ?_; try simp)
  all_goals (first | (simp [Exp.row_eq, Exp.op, Exp.n, Exp.unit, Exp.s, Exp.args, zbB]; done) | (simp [Exp.row_eq, Exp.op, Exp.n, Exp.unit, Exp.s, Exp.args, zbB]; omega) | fail)
 | false =>
 cases b3 : isR l ⟨q + 1, 0, 0⟩ [112, 101, 114] with
 | true =>
  have hv2 : VS l ⟨q + 1 + 1, 0, 0⟩ := (zb6 hl hv1 b3).vs;have a4 := fun nx' (h : nx <= nx') => zb2 l ⟨q + 1 + 1, 0, 0⟩ [109, 105, 108, 108, 101] i nx' (by omega) hv2 hll;simp only [b1, b2, b3, if_true, Bool.false_eq_true, if_false] at a1 a2 a3 ⊢;generalize za6 l ⟨q + 1 + 1, 0, 0⟩ [109, 105, 108, 108, 101] = T at *;unfold rOb zdw zbf at *
  (refine RetX.of_bodyW Tryz.func134 rfl (by simp) fun Γ hn hpan => ?_); simp only [entry, ziC, ziN, maC, maN, oA, Tryz.ntmps134]
  repeat' (first
  | ((first | refine zag ?_ | refine zaj ?_ | fail); simp [hne, hk, del, nAA])
  | (refine ⟨by omega, ?_⟩)
  | ((first | refine zah ?_ | refine zai ?_ | refine zas ?_ | fail); simp [hne, hk, del, nAA])
  | (refine zaq ?_; simp only [zap])
  | (refine CallP.fE (hnx) (by first | rfl | fail) (by first | simp [hne, hk, del, nAA] <;> rfl | fail) ?_; (try simp [hne, hk, del, nAA]))
  | (refine CallP.ok1 (a1 _ (by first | omega | simp <;> omega | fail)) (by first | (simp [hne, hk, del, nAA, zaa, getK, zab, zac]; done) | fail) (by rfl) (by rfl) ?_; (try simp [hne, hk, del, nAA]))
  | (refine CallP.ok1 (a2 _ (by first | omega | simp <;> omega | fail)) (by first | (simp [hne, hk, del, nAA, zaa, getK, zab, zac]; done) | fail) (by rfl) (by rfl) ?_; (try simp [hne, hk, del, nAA]))
  | (refine CallP.ok1 (a3 _ (by first | omega | simp <;> omega | fail)) (by first | (simp [hne, hk, del, nAA, zaa, getK, zab, zac]; done) | fail) (by rfl) (by rfl) ?_; (try simp [hne, hk, del, nAA]))
  | (refine CallP.ok1 (a4 _ (by first | omega | simp <;> omega | fail)) (by first | (simp [hne, hk, del, nAA, zaa, getK, zab, zac]; done) | fail) (by rfl) (by rfl) ?_; (try simp [hne, hk, del, nAA]))
  | fail)
  refine EndW.norm ?_;simp [St.norm, zaD, zaT, zaV, zaW, hne, nAA]
  (refine EndW.here ?_; (first | (refine EndOK.fin (.inr rfl) ?_) | (refine EndOK.fin (.inl rfl) ?_)); simp [zaA, zae, Tryz.results134, hne, hi]; refine FinOK.cut [(i, rOb l T)] (nx) (by simp [zaa, getK, zab, zac, Ob.under, D.under, zad, zaf, hne, hi] <;> omega) (by simp [D.under]) (by simp [hn]) ?_; try simp)
  all_goals (first | (simp [Exp.row_eq, Exp.op, Exp.n, Exp.unit, Exp.s, Exp.args, zbB]; done) | (simp [Exp.row_eq, Exp.op, Exp.n, Exp.unit, Exp.s, Exp.args, zbB]; omega) | fail)
 | false =>
  simp only [b1, b2, b3, if_true, Bool.false_eq_true, if_false] at a1 a2 a3 ⊢;unfold rOb zdw zbf at *
  (refine RetX.of_bodyW Tryz.func134 rfl (by simp) fun Γ hn hpan => ?_); simp only [entry, ziC, ziN, maC, maN, oA, Tryz.ntmps134]
  repeat' (first
  | ((first | refine zag ?_ | refine zaj ?_ | fail); simp [hne, hk, del, nAA])
  | (refine ⟨by omega, ?_⟩)
  | ((first | refine zah ?_ | refine zai ?_ | fail); simp [hne, hk, del, nAA])
  | ((first | refine zaq ?_ | refine zao ?_ | fail); simp only [zap])
  | (refine CallP.fE (hnx) (by first | rfl | fail) (by first | simp [hne, hk, del, nAA] <;> rfl | fail) ?_; (try simp [hne, hk, del, nAA]))
  | (refine CallP.ok1 (a1 _ (by first | omega | simp <;> omega | fail)) (by first | (simp [hne, hk, del, nAA, zaa, getK, zab, zac]; done) | fail) (by rfl) (by rfl) ?_; (try simp [hne, hk, del, nAA]))
  | (refine CallP.ok1 (a2 _ (by first | omega | simp <;> omega | fail)) (by first | (simp [hne, hk, del, nAA, zaa, getK, zab, zac]; done) | fail) (by rfl) (by rfl) ?_; (try simp [hne, hk, del, nAA]))
  | (refine CallP.ok1 (a3 _ (by first | omega | simp <;> omega | fail)) (by first | (simp [hne, hk, del, nAA, zaa, getK, zab, zac]; done) | fail) (by rfl) (by rfl) ?_; (try simp [hne, hk, del, nAA]))
  | fail)
  refine EndW.norm ?_;simp [St.norm, zaD, zaT, zaV, zaW, hne, nAA]
  (refine EndW.here ?_; (first | (refine EndOK.fin (.inr rfl) ?_) | (refine EndOK.fin (.inl rfl) ?_)); simp [zaA, zae, Tryz.results134, hne, hi]; refine FinOK.cut [(i, rOb l ⟨q + 1, 0, 0⟩)] (nx) (by simp [zaa, getK, zab, zac, Ob.under, D.under, zad, zaf, hne, hi] <;> omega) (by simp [D.under]) (by simp [hn]) ?_; try simp)
  all_goals (first | (simp [Exp.row_eq, Exp.op, Exp.n, Exp.unit, Exp.s, Exp.args, zbB]; done) | (simp [Exp.row_eq, Exp.op, Exp.n, Exp.unit, Exp.s, Exp.args, zbB]; omega) | fail)
theorem zmL {l : List Tok} (hl : TokOK l) (hE : zcJ l) (hll : l.length <= 1000000) {f q : Nat} (hX : zgQ l f) (hf : 10 * (l.length - q) <= f) {t : Tok} (ht : l[q]? = some t) (hk : ¬ t.kind = 2) (hm : ¬ (t.text = [109, 105, 110] \/ t.text = [109, 97, 120])) {i nx : Nat} (hi : i < nx) :
  RetX Tryz.prog 134 [.ptr i 0] [(i, rOb l ⟨q, 0, 0⟩)] nx (zjk l i nx (zgp l (f + 1) ⟨q, 0, 0⟩)) := by
 have hne := zaw hi;have hq := (lGE.1 ht).1;have hv : VS l ⟨q, 0, 0⟩ := .inr ⟨rfl, rfl, hq⟩;have hnx := zcn l ⟨q, 0, 0⟩ hv hll;rw [zbG ht] at hnx;rw [zgp];have hm1 : ¬ t.text = [109, 105, 110] := fun h => hm (.inl h);have hm2 : ¬ t.text = [109, 97, 120] := fun h => hm (.inr h);have a1 := fun nx' (h : nx <= nx') => zbO l ⟨q, 0, 0⟩ [116, 114, 117, 101] i nx' (by omega) hv hll;have a2 := fun nx' (h : nx <= nx') => zbO l ⟨q, 0, 0⟩ [102, 97, 108, 115, 101] i nx' (by omega) hv hll;have a3 := fun nx' (h : nx <= nx') => zbO l ⟨q, 0, 0⟩ [40] i nx' (by omega) hv hll;have hnm := zhg t.text;have hfl := fun nx' (h : nx <= nx') => zco l ⟨q, 0, 0⟩ 12 i nx' (by omega) hv hll;simp only [zbG ht, hk, if_false, RS.adv, zbA, if_neg hm] at hnx a1 a2 a3 hfl ⊢;cases b1 : isR l ⟨q, 0, 0⟩ [116, 114, 117, 101] with
 | true =>
  simp only [b1, if_true] at a1 ⊢;unfold rOb zdw zbf at *
  (refine RetX.of_bodyW Tryz.func134 rfl (by simp) fun Γ hn hpan => ?_); simp only [entry, ziC, ziN, maC, maN, oA, Tryz.ntmps134]
  repeat' (first
  | ((first | refine zag ?_ | refine zaj ?_ | refine zah ?_ | refine zai ?_ | fail); simp [hne, hk, del, nAA])
  | ((first | refine zaq ?_ | refine zao ?_ | fail); simp only [zap])
  | (refine CallP.fE (hnx) (by first | rfl | fail) (by first | simp [hne, hk, del, nAA] <;> rfl | fail) ?_; (try simp [hne, hk, del, nAA]))
  | (refine CallP.ok1 (a1 _ (by first | omega | simp <;> omega | fail)) (by first | (simp [hne, hk, del, nAA, zaa, getK, zab, zac]; done) | fail) (by rfl) (by rfl) ?_; (try simp [hne, hk, del, nAA]))
  | fail)
  refine EndW.norm ?_;simp [St.norm, zaD, zaT, zaV, zaW, hne, nAA]
  (refine EndW.here ?_; (first | (refine EndOK.fin (.inr rfl) ?_) | (refine EndOK.fin (.inl rfl) ?_)); simp [zaA, zae, Tryz.results134, hne, hi]; refine FinOK.cut [(i, rOb l ⟨q + 1, 0, 0⟩)] (nx) (by simp [zaa, getK, zab, zac, Ob.under, D.under, zad, zaf, hne, hi] <;> omega) (by simp [D.under]) (by simp [hn]) ?_; try simp)
  all_goals (first | (simp [Exp.row_eq, Exp.op, Exp.n, Exp.unit, Exp.s, Exp.args, zbB]; done) | (simp [Exp.row_eq, Exp.op, Exp.n, Exp.unit, Exp.s, Exp.args, zbB]; omega) | fail)
 | false =>
 cases b2 : isR l ⟨q, 0, 0⟩ [102, 97, 108, 115, 101] with
 | true =>
  simp only [b1, b2, if_true, Bool.false_eq_true, if_false] at a1 a2 ⊢;unfold rOb zdw zbf at *
  (refine RetX.of_bodyW Tryz.func134 rfl (by simp) fun Γ hn hpan => ?_); simp only [entry, ziC, ziN, maC, maN, oA, Tryz.ntmps134]
  repeat' (first
  | ((first | refine zag ?_ | refine zaj ?_ | refine zah ?_ | refine zai ?_ | fail); simp [hne, hk, del, nAA])
  | ((first | refine zaq ?_ | refine zao ?_ | fail); simp only [zap])
  | (refine CallP.fE (hnx) (by first | rfl | fail) (by first | simp [hne, hk, del, nAA] <;> rfl | fail) ?_; (try simp [hne, hk, del, nAA]))
  | (refine CallP.ok1 (a1 _ (by first | omega | simp <;> omega | fail)) (by first | (simp [hne, hk, del, nAA, zaa, getK, zab, zac]; done) | fail) (by rfl) (by rfl) ?_; (try simp [hne, hk, del, nAA]))
  | (refine CallP.ok1 (a2 _ (by first | omega | simp <;> omega | fail)) (by first | (simp [hne, hk, del, nAA, zaa, getK, zab, zac]; done) | fail) (by rfl) (by rfl) ?_; (try simp [hne, hk, del, nAA]))
  | fail)
  refine EndW.norm ?_;simp [St.norm, zaD, zaT, zaV, zaW, hne, nAA]
  (refine EndW.here ?_; (first | (refine EndOK.fin (.inr rfl) ?_) | (refine EndOK.fin (.inl rfl) ?_)); simp [zaA, zae, Tryz.results134, hne, hi]; refine FinOK.cut [(i, rOb l ⟨q + 1, 0, 0⟩)] (nx) (by simp [zaa, getK, zab, zac, Ob.under, D.under, zad, zaf, hne, hi] <;> omega) (by simp [D.under]) (by simp [hn]) ?_; try simp)
  all_goals (first | (simp [Exp.row_eq, Exp.op, Exp.n, Exp.unit, Exp.s, Exp.args, zbB]; done) | (simp [Exp.row_eq, Exp.op, Exp.n, Exp.unit, Exp.s, Exp.args, zbB]; omega) | fail)
 | false =>
 cases b3 : isR l ⟨q, 0, 0⟩ [40] with
 | true =>
  have hv1 : VS l ⟨q + 1, 0, 0⟩ := (zb6 hl hv b3).vs;have hq1 : q + 1 < l.length := hv1.elim (fun h => absurd rfl h) fun h => h.2.2;have hT := (zfb hl hE (f := f) (k := 0) hv1 (by omega) (by omega) (fun _ => by simp; omega)).vs;have hx := fun nx' (h : nx <= nx') => hX ⟨q + 1, 0, 0⟩ 0 i nx' (by omega) hv1 (fun _ => by simp; omega) (by omega) (by omega);simp only [b1, b2, b3, if_true, Bool.false_eq_true, if_false, zbA] at a1 a2 a3 hx ⊢;generalize zdP l f ⟨q + 1, 0, 0⟩ 0 = A at *;obtain ⟨e, T⟩ := A;have hw := fun nx' (h : nx <= nx') => zb2 l T [41] i nx' (by omega) hT hll;simp only at hx ⊢;generalize za6 l T [41] = V at *;unfold rOb zdw zbf at *
  (refine RetX.of_bodyW Tryz.func134 rfl (by simp) fun Γ hn hpan => ?_); simp only [entry, ziC, ziN, maC, maN, oA, Tryz.ntmps134]
  repeat' (first
  | ((first | refine zag ?_ | refine zaj ?_ | refine zah ?_ | refine zai ?_ | fail); simp [hne, hk, hm1, hm2, del, nAA])
  | ((first | refine zaq ?_ | refine zao ?_ | fail); simp only [zap])
  | (refine CallP.fE (hnx) (by first | rfl | fail) (by first | simp [hne, hk, hm1, hm2, del, nAA] <;> rfl | fail) ?_; (try simp [hne, hk, hm1, hm2, del, nAA]))
  | (refine CallP.ok1 (a1 _ (by first | omega | simp <;> omega | fail)) (by first | (simp [hne, hk, hm1, hm2, del, nAA, zaa, getK, zab, zac]; done) | fail) (by rfl) (by rfl) ?_; (try simp [hne, hk, hm1, hm2, del, nAA]))
  | (refine CallP.ok1 (a2 _ (by first | omega | simp <;> omega | fail)) (by first | (simp [hne, hk, hm1, hm2, del, nAA, zaa, getK, zab, zac]; done) | fail) (by rfl) (by rfl) ?_; (try simp [hne, hk, hm1, hm2, del, nAA]))
  | (refine CallP.ok1 (a3 _ (by first | omega | simp <;> omega | fail)) (by first | (simp [hne, hk, hm1, hm2, del, nAA, zaa, getK, zab, zac]; done) | fail) (by rfl) (by rfl) ?_; (try simp [hne, hk, hm1, hm2, del, nAA]))
  | (refine CallP.ok1 (hx _ (by first | omega | simp <;> omega | fail)) (by first | (simp [hne, hk, hm1, hm2, del, nAA, zaa, getK, zab, zac]; done) | fail) (by rfl) (by rfl) ?_; (try simp [hne, hk, hm1, hm2, del, nAA]))
  | (refine CallP.ok1 (hw _ (by first | omega | simp <;> omega | fail)) (by first | (simp [hne, hk, hm1, hm2, del, nAA, zaa, getK, zab, zac]; done) | fail) (by rfl) (by rfl) ?_; (try simp [hne, hk, hm1, hm2, del, nAA]))
  | fail)
  refine EndW.norm ?_;simp [St.norm, zaD, zaT, zaV, zaW, hne, nAA]
  (refine EndW.here ?_; (first | (refine EndOK.fin (.inr rfl) ?_) | (refine EndOK.fin (.inl rfl) ?_)); simp [zaA, zae, Tryz.results134, hne, hi]; refine FinOK.cut [(i, rOb l V)] (nx) (by simp [zaa, getK, zab, zac, Ob.under, D.under, zad, zaf, hne, hi] <;> omega) (by simp [D.under]) (by simp [hn]) ?_; try simp)
  all_goals (first | (simp [Exp.row_eq, Exp.op, Exp.n, Exp.unit, Exp.s, Exp.args, zbB]; done) | (simp [Exp.row_eq, Exp.op, Exp.n, Exp.unit, Exp.s, Exp.args, zbB]; omega) | fail)
 | false =>
  simp only [b1, b2, b3, Bool.false_eq_true, if_false] at a1 a2 a3 ⊢;generalize zbm l ⟨q, 0, 0⟩ 12 = T at *;by_cases hw : t.kind = 1
  ·cases hb : zb3 t.text with
   | true =>
    simp only [hb, hw, and_self, if_true] at hnm ⊢;unfold rOb zdw zbf at *
    (refine RetX.of_bodyW Tryz.func134 rfl (by simp) fun Γ hn hpan => ?_); simp only [entry, ziC, ziN, maC, maN, oA, Tryz.ntmps134]
    repeat' (first
  | ((first | refine zag ?_ | refine zaj ?_ | fail); simp [hne, hk, hw, hm1, hm2, del, nAA])
  | (refine ⟨by omega, ?_⟩)
  | ((first | refine zah ?_ | refine zai ?_ | fail); simp [hne, hk, hw, hm1, hm2, del, nAA])
  | ((first | refine zaq ?_ | refine zao ?_ | fail); simp only [zap])
  | (refine CallP.fE (hnx) (by first | rfl | fail) (by first | simp [hne, hk, hw, hm1, hm2, del, nAA] <;> rfl | fail) ?_; (try simp [hne, hk, hw, hm1, hm2, del, nAA]))
  | (refine CallP.fE (hnm) (by first | rfl | fail) (by first | simp [hne, hk, hw, hm1, hm2, del, nAA] <;> rfl | fail) ?_; (try simp [hne, hk, hw, hm1, hm2, del, nAA]))
  | (refine CallP.ok1 (a1 _ (by first | omega | simp <;> omega | fail)) (by first | (simp [hne, hk, hw, hm1, hm2, del, nAA, zaa, getK, zab, zac]; done) | fail) (by rfl) (by rfl) ?_; (try simp [hne, hk, hw, hm1, hm2, del, nAA]))
  | (refine CallP.ok1 (a2 _ (by first | omega | simp <;> omega | fail)) (by first | (simp [hne, hk, hw, hm1, hm2, del, nAA, zaa, getK, zab, zac]; done) | fail) (by rfl) (by rfl) ?_; (try simp [hne, hk, hw, hm1, hm2, del, nAA]))
  | (refine CallP.ok1 (a3 _ (by first | omega | simp <;> omega | fail)) (by first | (simp [hne, hk, hw, hm1, hm2, del, nAA, zaa, getK, zab, zac]; done) | fail) (by rfl) (by rfl) ?_; (try simp [hne, hk, hw, hm1, hm2, del, nAA]))
  | fail)
    refine EndW.norm ?_;simp [St.norm, zaD, zaT, zaV, zaW, hne, nAA]
    (refine EndW.here ?_; (first | (refine EndOK.fin (.inr rfl) ?_) | (refine EndOK.fin (.inl rfl) ?_)); simp [zaA, zae, Tryz.results134, hne, hi]; refine FinOK.cut [(i, rOb l ⟨q + 1, 0, 0⟩)] (nx) (by simp [zaa, getK, zab, zac, Ob.under, D.under, zad, zaf, hne, hi] <;> omega) (by simp [D.under]) (by simp [hn]) ?_; try simp)
    all_goals (first | (simp [Exp.row_eq, Exp.op, Exp.n, Exp.unit, Exp.s, Exp.args, zbB]; done) | (simp [Exp.row_eq, Exp.op, Exp.n, Exp.unit, Exp.s, Exp.args, zbB]; omega) | fail)
   | false =>
    simp only [hb, hw, Bool.false_eq_true, and_false, if_false] at hnm ⊢;unfold rOb zdw zbf at *
    (refine RetX.of_bodyW Tryz.func134 rfl (by simp) fun Γ hn hpan => ?_); simp only [entry, ziC, ziN, maC, maN, oA, Tryz.ntmps134]
    repeat' (first
  | ((first | refine zag ?_ | refine zaj ?_ | refine zah ?_ | refine zai ?_ | fail); simp [hne, hk, hw, hm1, hm2, del, nAA])
  | ((first | refine zaq ?_ | refine zao ?_ | fail); simp only [zap])
  | (refine CallP.fE (hnx) (by first | rfl | fail) (by first | simp [hne, hk, hw, hm1, hm2, del, nAA] <;> rfl | fail) ?_; (try simp [hne, hk, hw, hm1, hm2, del, nAA]))
  | (refine CallP.fE (hnm) (by first | rfl | fail) (by first | simp [hne, hk, hw, hm1, hm2, del, nAA] <;> rfl | fail) ?_; (try simp [hne, hk, hw, hm1, hm2, del, nAA]))
  | (refine CallP.ok1 (a1 _ (by first | omega | simp <;> omega | fail)) (by first | (simp [hne, hk, hw, hm1, hm2, del, nAA, zaa, getK, zab, zac]; done) | fail) (by rfl) (by rfl) ?_; (try simp [hne, hk, hw, hm1, hm2, del, nAA]))
  | (refine CallP.ok1 (a2 _ (by first | omega | simp <;> omega | fail)) (by first | (simp [hne, hk, hw, hm1, hm2, del, nAA, zaa, getK, zab, zac]; done) | fail) (by rfl) (by rfl) ?_; (try simp [hne, hk, hw, hm1, hm2, del, nAA]))
  | (refine CallP.ok1 (a3 _ (by first | omega | simp <;> omega | fail)) (by first | (simp [hne, hk, hw, hm1, hm2, del, nAA, zaa, getK, zab, zac]; done) | fail) (by rfl) (by rfl) ?_; (try simp [hne, hk, hw, hm1, hm2, del, nAA]))
  | (refine CallP.ok1 (hfl _ (by first | omega | simp <;> omega | fail)) (by first | (simp [hne, hk, hw, hm1, hm2, del, nAA, zaa, getK, zab, zac]; done) | fail) (by rfl) (by rfl) ?_; (try simp [hne, hk, hw, hm1, hm2, del, nAA]))
  | fail)
    refine EndW.norm ?_;simp [St.norm, zaD, zaT, zaV, zaW, hne, nAA]
    (refine EndW.here ?_; (first | (refine EndOK.fin (.inr rfl) ?_) | (refine EndOK.fin (.inl rfl) ?_)); simp [zaA, zae, Tryz.results134, hne, hi]; refine FinOK.cut [(i, rOb l T)] (nx) (by simp [zaa, getK, zab, zac, Ob.under, D.under, zad, zaf, hne, hi] <;> omega) (by simp [D.under]) (by simp [hn]) ?_; try simp)
    all_goals (first | (simp [Exp.row_eq, Exp.op, Exp.n, Exp.unit, Exp.s, Exp.args, zbB]; done) | (simp [Exp.row_eq, Exp.op, Exp.n, Exp.unit, Exp.s, Exp.args, zbB]; omega) | fail)
  ·simp only [hw, false_and, if_false];unfold rOb zdw zbf at *
   (refine RetX.of_bodyW Tryz.func134 rfl (by simp) fun Γ hn hpan => ?_); simp only [entry, ziC, ziN, maC, maN, oA, Tryz.ntmps134]
   repeat' (first
  | ((first | refine zag ?_ | refine zaj ?_ | refine zah ?_ | refine zai ?_ | fail); simp [hne, hk, hw, hm1, hm2, del, nAA])
  | ((first | refine zaq ?_ | refine zao ?_ | fail); simp only [zap])
  | (refine CallP.fE (hnx) (by first | rfl | fail) (by first | simp [hne, hk, hw, hm1, hm2, del, nAA] <;> rfl | fail) ?_; (try simp [hne, hk, hw, hm1, hm2, del, nAA]))
  | (refine CallP.ok1 (a1 _ (by first | omega | simp <;> omega | fail)) (by first | (simp [hne, hk, hw, hm1, hm2, del, nAA, zaa, getK, zab, zac]; done) | fail) (by rfl) (by rfl) ?_; (try simp [hne, hk, hw, hm1, hm2, del, nAA]))
  | (refine CallP.ok1 (a2 _ (by first | omega | simp <;> omega | fail)) (by first | (simp [hne, hk, hw, hm1, hm2, del, nAA, zaa, getK, zab, zac]; done) | fail) (by rfl) (by rfl) ?_; (try simp [hne, hk, hw, hm1, hm2, del, nAA]))
  | (refine CallP.ok1 (a3 _ (by first | omega | simp <;> omega | fail)) (by first | (simp [hne, hk, hw, hm1, hm2, del, nAA, zaa, getK, zab, zac]; done) | fail) (by rfl) (by rfl) ?_; (try simp [hne, hk, hw, hm1, hm2, del, nAA]))
  | (refine CallP.ok1 (hfl _ (by first | omega | simp <;> omega | fail)) (by first | (simp [hne, hk, hw, hm1, hm2, del, nAA, zaa, getK, zab, zac]; done) | fail) (by rfl) (by rfl) ?_; (try simp [hne, hk, hw, hm1, hm2, del, nAA]))
  | fail)
   refine EndW.norm ?_;simp [St.norm, zaD, zaT, zaV, zaW, hne, nAA]
   (refine EndW.here ?_; (first | (refine EndOK.fin (.inr rfl) ?_) | (refine EndOK.fin (.inl rfl) ?_)); simp [zaA, zae, Tryz.results134, hne, hi]; refine FinOK.cut [(i, rOb l T)] (nx) (by simp [zaa, getK, zab, zac, Ob.under, D.under, zad, zaf, hne, hi] <;> omega) (by simp [D.under]) (by simp [hn]) ?_; try simp)
   all_goals (first | (simp [Exp.row_eq, Exp.op, Exp.n, Exp.unit, Exp.s, Exp.args, zbB]; done) | (simp [Exp.row_eq, Exp.op, Exp.n, Exp.unit, Exp.s, Exp.args, zbB]; omega) | fail)
theorem zn1 {l : List Tok} (hl : TokOK l) (hE : zcJ l) (hll : l.length <= 1000000) {f q : Nat} (hX : zgQ l f) (hf : 10 * (l.length - q) <= f) {t : Tok} (ht : l[q]? = some t) (hk : ¬ t.kind = 2) (hm1 : t.text = [109, 105, 110]) {i nx : Nat} (hi : i < nx) :
  RetX Tryz.prog 134 [.ptr i 0] [(i, rOb l ⟨q, 0, 0⟩)] nx (zjk l i nx (zgp l (f + 1) ⟨q, 0, 0⟩)) := by
 have hne := zaw hi;have hq := (lGE.1 ht).1;have hv : VS l ⟨q, 0, 0⟩ := .inr ⟨rfl, rfl, hq⟩;have hnx := zcn l ⟨q, 0, 0⟩ hv hll;rw [zbG ht] at hnx;rw [zgp];have hk0 : t.kind ≠ 0 := fun h => by have := hE q t ht h; rw [hm1] at this; cases this
 have hq1 := hl.fin q t ht hk0;have hv1 : VS l ⟨q + 1, 0, 0⟩ := .inr ⟨rfl, rfl, hq1⟩;have b1 : isR l ⟨q, 0, 0⟩ [116, 114, 117, 101] = false := by simp [isR, zbG ht, hm1]
 have b2 : isR l ⟨q, 0, 0⟩ [102, 97, 108, 115, 101] = false := by simp [isR, zbG ht, hm1]
 have a1 := fun nx' (h : nx <= nx') => zbO l ⟨q, 0, 0⟩ [116, 114, 117, 101] i nx' (by omega) hv hll;have a2 := fun nx' (h : nx <= nx') => zbO l ⟨q, 0, 0⟩ [102, 97, 108, 115, 101] i nx' (by omega) hv hll;simp only [zbG ht, hk, hm1, b1, b2, if_true, if_false, Bool.false_eq_true, RS.adv, zbA, or_true, true_or, reduceCtorEq] at hnx a1 a2 ⊢;have w1 := fun nx' (h : nx <= nx') => zb2 l ⟨q + 1, 0, 0⟩ [40] i nx' (by omega) hv1 hll;have n1 := zbz hl hv1 [40];have z1 : (za6 l ⟨q + 1, 0, 0⟩ [40]).err = 0 -> q + 1 <= (za6 l ⟨q + 1, 0, 0⟩ [40]).q := fun h => n1.elim (fun g => absurd h g) fun g => g.2.2.1;generalize za6 l ⟨q + 1, 0, 0⟩ [40] = S1 at *;have x1 := fun nx' (h : nx <= nx') => hX S1 0 i nx' (by omega) n1.vs (fun h => by have := z1 h; simp; omega) (by omega) (by omega);have n2 := zfb hl hE (f := f) (k := 0) n1.vs (by omega) (by omega) (fun h => by have := z1 h; simp; omega);have z2 : (zdP l f S1 0).2.err = 0 -> q + 1 <= (zdP l f S1 0).2.q := fun h => n2.elim (fun g => absurd h g) fun g => by
  by_cases h1 : S1.err = 0
  ·have := z1 h1; have := g.2.2.1; omega
  ·rw [zcx h1] at h; exact absurd h h1
 simp only [zbA] at x1;generalize zdP l f S1 0 = A at *;obtain ⟨e1, S2⟩ := A;simp only at x1 n2 z2 ⊢;have w2 := fun nx' (h : nx <= nx') => zb2 l S2 [44] i nx' (by omega) n2.vs hll;have n3 := zbz hl n2.vs [44];have z3 : (za6 l S2 [44]).err = 0 -> q + 1 <= (za6 l S2 [44]).q := fun h => n3.elim (fun g => absurd h g) fun g => by
  by_cases h1 : S2.err = 0
  ·have := z2 h1; have := g.2.2.1; omega
  ·rw [zaX h1] at h; exact absurd h h1
 generalize za6 l S2 [44] = S3 at *;have x2 := fun nx' (h : nx <= nx') => hX S3 0 i nx' (by omega) n3.vs (fun h => by have := z3 h; simp; omega) (by omega) (by omega);have n4 := zfb hl hE (f := f) (k := 0) n3.vs (by omega) (by omega) (fun h => by have := z3 h; simp; omega);simp only [zbA] at x2;generalize zdP l f S3 0 = B at *;obtain ⟨e2, S4⟩ := B;simp only at x2 n4 ⊢;have w3 := fun nx' (h : nx <= nx') => zb2 l S4 [41] i nx' (by omega) n4.vs hll;generalize za6 l S4 [41] = S5 at *;unfold rOb zdw zbf at *
 (refine RetX.of_bodyW Tryz.func134 rfl (by simp) fun Γ hn hpan => ?_); simp only [entry, ziC, ziN, maC, maN, oA, Tryz.ntmps134]
 repeat' (first
  | ((first | refine zag ?_ | refine zaj ?_ | fail); simp [hne, hk, hm1, del, nAA])
  | (refine ⟨by omega, ?_⟩)
  | ((first | refine zah ?_ | refine zai ?_ | fail); simp [hne, hk, hm1, del, nAA])
  | ((first | refine zaq ?_ | refine zao ?_ | fail); simp only [zap])
  | (refine CallP.fE (hnx) (by first | rfl | fail) (by first | simp [hne, hk, hm1, del, nAA] <;> rfl | fail) ?_; (try simp [hne, hk, hm1, del, nAA]))
  | (refine CallP.ok1 (a1 _ (by first | omega | simp <;> omega | fail)) (by first | (simp [hne, hk, hm1, del, nAA, zaa, getK, zab, zac]; done) | fail) (by rfl) (by rfl) ?_; (try simp [hne, hk, hm1, del, nAA]))
  | (refine CallP.ok1 (a2 _ (by first | omega | simp <;> omega | fail)) (by first | (simp [hne, hk, hm1, del, nAA, zaa, getK, zab, zac]; done) | fail) (by rfl) (by rfl) ?_; (try simp [hne, hk, hm1, del, nAA]))
  | (refine CallP.ok1 (w1 _ (by first | omega | simp <;> omega | fail)) (by first | (simp [hne, hk, hm1, del, nAA, zaa, getK, zab, zac]; done) | fail) (by rfl) (by rfl) ?_; (try simp [hne, hk, hm1, del, nAA]))
  | (refine CallP.ok1 (x1 _ (by first | omega | simp <;> omega | fail)) (by first | (simp [hne, hk, hm1, del, nAA, zaa, getK, zab, zac]; done) | fail) (by rfl) (by rfl) ?_; (try simp [hne, hk, hm1, del, nAA]))
  | (refine CallP.ok1 (w2 _ (by first | omega | simp <;> omega | fail)) (by first | (simp [hne, hk, hm1, del, nAA, zaa, getK, zab, zac]; done) | fail) (by rfl) (by rfl) ?_; (try simp [hne, hk, hm1, del, nAA]))
  | (refine CallP.ok1 (x2 _ (by first | omega | simp <;> omega | fail)) (by first | (simp [hne, hk, hm1, del, nAA, zaa, getK, zab, zac]; done) | fail) (by rfl) (by rfl) ?_; (try simp [hne, hk, hm1, del, nAA]))
  | (refine CallP.ok1 (w3 _ (by first | omega | simp <;> omega | fail)) (by first | (simp [hne, hk, hm1, del, nAA, zaa, getK, zab, zac]; done) | fail) (by rfl) (by rfl) ?_; (try simp [hne, hk, hm1, del, nAA]))
  | fail)
 (refine EndW.frzN 1 ?_; simp [frzN, frz1, zaz, zay, St.frz, St.frzS, frzS, fv, zaH, za2, za4, zaG, zau, zam, del, frz, za5, hne, nAA])
 refine EndW.norm ?_;simp [St.norm, zaD, zaT, zaV, zaW, hne, nAA]
 (refine EndW.here ?_; (first | (refine EndOK.fin (.inr rfl) ?_) | (refine EndOK.fin (.inl rfl) ?_)); simp [zaA, zae, Tryz.results134, hne, hi]; refine FinOK.cut [(i, rOb l S5)] (nx) (by simp [zaa, getK, zab, zac, Ob.under, D.under, zad, zaf, hne, hi] <;> omega) (by simp [D.under]) (by simp [hn]) ?_; try simp)
 all_goals (first | (simp [Exp.row_eq, Exp.op, Exp.n, Exp.unit, Exp.s, Exp.args, zbB]; done) | (simp [Exp.row_eq, Exp.op, Exp.n, Exp.unit, Exp.s, Exp.args, zbB]; omega) | fail)
theorem zn2 {l : List Tok} (hl : TokOK l) (hE : zcJ l) (hll : l.length <= 1000000) {f q : Nat} (hX : zgQ l f) (hf : 10 * (l.length - q) <= f) {t : Tok} (ht : l[q]? = some t) (hk : ¬ t.kind = 2) (hm1 : t.text = [109, 97, 120]) {i nx : Nat} (hi : i < nx) :
  RetX Tryz.prog 134 [.ptr i 0] [(i, rOb l ⟨q, 0, 0⟩)] nx (zjk l i nx (zgp l (f + 1) ⟨q, 0, 0⟩)) := by
 have hne := zaw hi;have hq := (lGE.1 ht).1;have hv : VS l ⟨q, 0, 0⟩ := .inr ⟨rfl, rfl, hq⟩;have hnx := zcn l ⟨q, 0, 0⟩ hv hll;rw [zbG ht] at hnx;rw [zgp];have hk0 : t.kind ≠ 0 := fun h => by have := hE q t ht h; rw [hm1] at this; cases this
 have hq1 := hl.fin q t ht hk0;have hv1 : VS l ⟨q + 1, 0, 0⟩ := .inr ⟨rfl, rfl, hq1⟩;have b1 : isR l ⟨q, 0, 0⟩ [116, 114, 117, 101] = false := by simp [isR, zbG ht, hm1]
 have b2 : isR l ⟨q, 0, 0⟩ [102, 97, 108, 115, 101] = false := by simp [isR, zbG ht, hm1]
 have a1 := fun nx' (h : nx <= nx') => zbO l ⟨q, 0, 0⟩ [116, 114, 117, 101] i nx' (by omega) hv hll;have a2 := fun nx' (h : nx <= nx') => zbO l ⟨q, 0, 0⟩ [102, 97, 108, 115, 101] i nx' (by omega) hv hll;simp only [zbG ht, hk, hm1, b1, b2, if_true, if_false, Bool.false_eq_true, RS.adv, zbA, or_true, true_or, reduceCtorEq] at hnx a1 a2 ⊢;have w1 := fun nx' (h : nx <= nx') => zb2 l ⟨q + 1, 0, 0⟩ [40] i nx' (by omega) hv1 hll;have n1 := zbz hl hv1 [40];have z1 : (za6 l ⟨q + 1, 0, 0⟩ [40]).err = 0 -> q + 1 <= (za6 l ⟨q + 1, 0, 0⟩ [40]).q := fun h => n1.elim (fun g => absurd h g) fun g => g.2.2.1;generalize za6 l ⟨q + 1, 0, 0⟩ [40] = S1 at *;have x1 := fun nx' (h : nx <= nx') => hX S1 0 i nx' (by omega) n1.vs (fun h => by have := z1 h; simp; omega) (by omega) (by omega);have n2 := zfb hl hE (f := f) (k := 0) n1.vs (by omega) (by omega) (fun h => by have := z1 h; simp; omega);have z2 : (zdP l f S1 0).2.err = 0 -> q + 1 <= (zdP l f S1 0).2.q := fun h => n2.elim (fun g => absurd h g) fun g => by
  by_cases h1 : S1.err = 0
  ·have := z1 h1; have := g.2.2.1; omega
  ·rw [zcx h1] at h; exact absurd h h1
 simp only [zbA] at x1;generalize zdP l f S1 0 = A at *;obtain ⟨e1, S2⟩ := A;simp only at x1 n2 z2 ⊢;have w2 := fun nx' (h : nx <= nx') => zb2 l S2 [44] i nx' (by omega) n2.vs hll;have n3 := zbz hl n2.vs [44];have z3 : (za6 l S2 [44]).err = 0 -> q + 1 <= (za6 l S2 [44]).q := fun h => n3.elim (fun g => absurd h g) fun g => by
  by_cases h1 : S2.err = 0
  ·have := z2 h1; have := g.2.2.1; omega
  ·rw [zaX h1] at h; exact absurd h h1
 generalize za6 l S2 [44] = S3 at *;have x2 := fun nx' (h : nx <= nx') => hX S3 0 i nx' (by omega) n3.vs (fun h => by have := z3 h; simp; omega) (by omega) (by omega);have n4 := zfb hl hE (f := f) (k := 0) n3.vs (by omega) (by omega) (fun h => by have := z3 h; simp; omega);simp only [zbA] at x2;generalize zdP l f S3 0 = B at *;obtain ⟨e2, S4⟩ := B;simp only at x2 n4 ⊢;have w3 := fun nx' (h : nx <= nx') => zb2 l S4 [41] i nx' (by omega) n4.vs hll;generalize za6 l S4 [41] = S5 at *;unfold rOb zdw zbf at *
 (refine RetX.of_bodyW Tryz.func134 rfl (by simp) fun Γ hn hpan => ?_); simp only [entry, ziC, ziN, maC, maN, oA, Tryz.ntmps134]
 repeat' (first
  | ((first | refine zag ?_ | refine zaj ?_ | fail); simp [hne, hk, hm1, del, nAA])
  | (refine ⟨by omega, ?_⟩)
  | ((first | refine zah ?_ | refine zai ?_ | fail); simp [hne, hk, hm1, del, nAA])
  | ((first | refine zaq ?_ | refine zao ?_ | fail); simp only [zap])
  | (refine CallP.fE (hnx) (by first | rfl | fail) (by first | simp [hne, hk, hm1, del, nAA] <;> rfl | fail) ?_; (try simp [hne, hk, hm1, del, nAA]))
  | (refine CallP.ok1 (a1 _ (by first | omega | simp <;> omega | fail)) (by first | (simp [hne, hk, hm1, del, nAA, zaa, getK, zab, zac]; done) | fail) (by rfl) (by rfl) ?_; (try simp [hne, hk, hm1, del, nAA]))
  | (refine CallP.ok1 (a2 _ (by first | omega | simp <;> omega | fail)) (by first | (simp [hne, hk, hm1, del, nAA, zaa, getK, zab, zac]; done) | fail) (by rfl) (by rfl) ?_; (try simp [hne, hk, hm1, del, nAA]))
  | (refine CallP.ok1 (w1 _ (by first | omega | simp <;> omega | fail)) (by first | (simp [hne, hk, hm1, del, nAA, zaa, getK, zab, zac]; done) | fail) (by rfl) (by rfl) ?_; (try simp [hne, hk, hm1, del, nAA]))
  | (refine CallP.ok1 (x1 _ (by first | omega | simp <;> omega | fail)) (by first | (simp [hne, hk, hm1, del, nAA, zaa, getK, zab, zac]; done) | fail) (by rfl) (by rfl) ?_; (try simp [hne, hk, hm1, del, nAA]))
  | (refine CallP.ok1 (w2 _ (by first | omega | simp <;> omega | fail)) (by first | (simp [hne, hk, hm1, del, nAA, zaa, getK, zab, zac]; done) | fail) (by rfl) (by rfl) ?_; (try simp [hne, hk, hm1, del, nAA]))
  | (refine CallP.ok1 (x2 _ (by first | omega | simp <;> omega | fail)) (by first | (simp [hne, hk, hm1, del, nAA, zaa, getK, zab, zac]; done) | fail) (by rfl) (by rfl) ?_; (try simp [hne, hk, hm1, del, nAA]))
  | (refine CallP.ok1 (w3 _ (by first | omega | simp <;> omega | fail)) (by first | (simp [hne, hk, hm1, del, nAA, zaa, getK, zab, zac]; done) | fail) (by rfl) (by rfl) ?_; (try simp [hne, hk, hm1, del, nAA]))
  | fail)
 (refine EndW.frzN 1 ?_; simp [frzN, frz1, zaz, zay, St.frz, St.frzS, frzS, fv, zaH, za2, za4, zaG, zau, zam, del, frz, za5, hne, nAA])
 refine EndW.norm ?_;simp [St.norm, zaD, zaT, zaV, zaW, hne, nAA]
 (refine EndW.here ?_; (first | (refine EndOK.fin (.inr rfl) ?_) | (refine EndOK.fin (.inl rfl) ?_)); simp [zaA, zae, Tryz.results134, hne, hi]; refine FinOK.cut [(i, rOb l S5)] (nx) (by simp [zaa, getK, zab, zac, Ob.under, D.under, zad, zaf, hne, hi] <;> omega) (by simp [D.under]) (by simp [hn]) ?_; try simp)
 all_goals (first | (simp [Exp.row_eq, Exp.op, Exp.n, Exp.unit, Exp.s, Exp.args, zbB]; done) | (simp [Exp.row_eq, Exp.op, Exp.n, Exp.unit, Exp.s, Exp.args, zbB]; omega) | fail)
theorem zmK {l : List Tok} (hl : TokOK l) (hE : zcJ l) (hll : l.length <= 1000000) {f : Nat} (hX : zgQ l f) : zlE l (f + 1) := by
 intro q i nx hi hq hf;obtain ⟨t, ht⟩ : ∃ t, l[q]? = some t := ⟨_, List.getElem?_eq_getElem hq⟩;by_cases hk : t.kind = 2
 ·exact zn0 hl hll ht hk hi
 by_cases hm1 : t.text = [109, 105, 110]
 ·exact zn1 hl hE hll hX (by omega) ht hk hm1 hi
 by_cases hm2 : t.text = [109, 97, 120]
 ·exact zn2 hl hE hll hX (by omega) ht hk hm2 hi
 exact zmL hl hE hll hX (by omega) ht hk (fun h => h.elim hm1 hm2) hi
theorem zoK {l : List Tok} {S : RS} (h : znR l S = none) (g : Nat) (k : Int) (e : Exp) : zl4 l g k e S = (e, S) := by
 cases g with
 | zero => rw [zl4]
 | succ g => rw [zl4, h]
theorem zpD {l : List Tok} {S : RS} {x : Opr} (h : znR l S = some x) : 1 <= x.form /\ x.form <= 6 /\ 0 <= x.op := by
 have := List.mem_of_find?_eq_some h;simp only [oprs, List.mem_cons, List.not_mem_nil, or_false] at this;rcases this with rfl | rfl | rfl | rfl | rfl | rfl | rfl | rfl <;> decide
theorem zq1 {l : List Tok} (hl : TokOK l) {S : RS} (hv : VS l S) {x : Opr} (h : znR l S = some x) : ∃ q, S = ⟨q, 0, 0⟩ /\ q + 1 < l.length := by
 have := List.find?_some (p := fun o : Opr => isR l S o.text) h;exact zmc hl hv this
theorem zq6 {l : List Tok} (hl : TokOK l) (hE : zcJ l) (hll : l.length <= 1000000) {f : Nat} (hX : zgQ l f) {q : Nat} (hq : q < l.length) (hf : 10 * (l.length - q) + 8 <= f) (b1 : isR l ⟨q, 0, 0⟩ [105, 102] = true) {i nx : Nat} (hi : i < nx) :
  RetX Tryz.prog 99 [.ptr i 0, .u (.int .i64 0)] [(i, rOb l ⟨q, 0, 0⟩)] nx (zjk l i nx (zdP l (f + 1) ⟨q, 0, 0⟩ 0)) := by
 have hne := zaw hi;have hv : VS l ⟨q, 0, 0⟩ := .inr ⟨rfl, rfl, hq⟩;have a1 := fun nx' (h : nx <= nx') => zbO l ⟨q, 0, 0⟩ [105, 102] i nx' (by omega) hv hll;have hv1 := (zb6 hl hv b1).vs;rw [zdP, if_neg (by simp), if_pos ⟨rfl, b1⟩];simp only [b1, if_true, RS.adv, zbA] at a1 hv1 ⊢;have hq1 : q + 1 < l.length := hv1.elim (fun h => absurd rfl h) fun h => h.2.2;have z1 : (⟨q + 1, 0, 0⟩ : RS).err = 0 -> q + 1 <= (⟨q + 1, 0, 0⟩ : RS).q := fun _ => Nat.le_refl _;have x1 := fun nx' (h : nx <= nx') => hX ⟨q + 1, 0, 0⟩ 0 i nx' (by omega) hv1 (fun h => by have := z1 h; simp; omega) (by omega) (by omega);have n1 := zfb hl hE (f := f) (k := 0) hv1 (by omega) (by omega) (fun h => by have := z1 h; simp; omega);have y1 : (zdP l f ⟨q + 1, 0, 0⟩ 0).2.err = 0 -> q + 1 <= (zdP l f ⟨q + 1, 0, 0⟩ 0).2.q := fun h => n1.elim (fun g => absurd h g) fun g => by
  by_cases h1 : (⟨q + 1, 0, 0⟩ : RS).err = 0
  ·have := z1 h1; have := g.2.2.1; omega
  ·rw [zcx h1] at h; exact absurd h h1
 simp only [zbA] at x1;generalize zdP l f ⟨q + 1, 0, 0⟩ 0 = A1 at *;obtain ⟨e1, T1⟩ := A1;simp only at x1 n1 y1 ⊢;have w1 := fun nx' (h : nx <= nx') => zb2 l T1 [116, 104, 101, 110] i nx' (by omega) n1.vs hll;have m1 := zbz hl n1.vs [116, 104, 101, 110];have z2 : (za6 l T1 [116, 104, 101, 110]).err = 0 -> q + 1 <= (za6 l T1 [116, 104, 101, 110]).q := fun h => m1.elim (fun g => absurd h g) fun g => by
  by_cases h1 : T1.err = 0
  ·have := y1 h1; have := g.2.2.1; omega
  ·rw [zaX h1] at h; exact absurd h h1
 generalize za6 l T1 [116, 104, 101, 110] = V1 at *;have x2 := fun nx' (h : nx <= nx') => hX V1 0 i nx' (by omega) m1.vs (fun h => by have := z2 h; simp; omega) (by omega) (by omega);have n2 := zfb hl hE (f := f) (k := 0) m1.vs (by omega) (by omega) (fun h => by have := z2 h; simp; omega);have y2 : (zdP l f V1 0).2.err = 0 -> q + 1 <= (zdP l f V1 0).2.q := fun h => n2.elim (fun g => absurd h g) fun g => by
  by_cases h1 : (V1 : RS).err = 0
  ·have := z2 h1; have := g.2.2.1; omega
  ·rw [zcx h1] at h; exact absurd h h1
 simp only [zbA] at x2;generalize zdP l f V1 0 = A2 at *;obtain ⟨e2, T2⟩ := A2;simp only at x2 n2 y2 ⊢;have w2 := fun nx' (h : nx <= nx') => zb2 l T2 [101, 108, 115, 101] i nx' (by omega) n2.vs hll;have m2 := zbz hl n2.vs [101, 108, 115, 101];have z3 : (za6 l T2 [101, 108, 115, 101]).err = 0 -> q + 1 <= (za6 l T2 [101, 108, 115, 101]).q := fun h => m2.elim (fun g => absurd h g) fun g => by
  by_cases h1 : T2.err = 0
  ·have := y2 h1; have := g.2.2.1; omega
  ·rw [zaX h1] at h; exact absurd h h1
 generalize za6 l T2 [101, 108, 115, 101] = V2 at *;have x3 := fun nx' (h : nx <= nx') => hX V2 0 i nx' (by omega) m2.vs (fun h => by have := z3 h; simp; omega) (by omega) (by omega);have n3 := zfb hl hE (f := f) (k := 0) m2.vs (by omega) (by omega) (fun h => by have := z3 h; simp; omega);have y3 : (zdP l f V2 0).2.err = 0 -> q + 1 <= (zdP l f V2 0).2.q := fun h => n3.elim (fun g => absurd h g) fun g => by
  by_cases h1 : (V2 : RS).err = 0
  ·have := z3 h1; have := g.2.2.1; omega
  ·rw [zcx h1] at h; exact absurd h h1
 simp only [zbA] at x3;generalize zdP l f V2 0 = A3 at *;obtain ⟨e3, T3⟩ := A3;simp only at x3 n3 y3 ⊢;unfold rOb zbf at *
 (refine RetX.of_bodyW Tryz.func99 rfl (by simp) fun Γ hn hpan => ?_); simp only [entry, ziC, ziN, maC, maN, oA, Tryz.ntmps99]
 repeat' (first
  | ((first | refine zag ?_ | refine zaj ?_ | refine zah ?_ | refine zai ?_ | fail); simp [hne, del, nAA])
  | ((first | refine zaq ?_ | refine zao ?_ | fail); simp only [zap])
  | (refine CallP.ok1 (a1 _ (by first | omega | simp <;> omega | fail)) (by first | (simp [hne, del, nAA, zaa, getK, zab, zac]; done) | fail) (by rfl) (by rfl) ?_; (try simp [hne, del, nAA]))
  | (refine CallP.ok1 (x1 _ (by first | omega | simp <;> omega | fail)) (by first | (simp [hne, del, nAA, zaa, getK, zab, zac]; done) | fail) (by rfl) (by rfl) ?_; (try simp [hne, del, nAA]))
  | (refine CallP.ok1 (w1 _ (by first | omega | simp <;> omega | fail)) (by first | (simp [hne, del, nAA, zaa, getK, zab, zac]; done) | fail) (by rfl) (by rfl) ?_; (try simp [hne, del, nAA]))
  | (refine CallP.ok1 (x2 _ (by first | omega | simp <;> omega | fail)) (by first | (simp [hne, del, nAA, zaa, getK, zab, zac]; done) | fail) (by rfl) (by rfl) ?_; (try simp [hne, del, nAA]))
  | (refine CallP.ok1 (w2 _ (by first | omega | simp <;> omega | fail)) (by first | (simp [hne, del, nAA, zaa, getK, zab, zac]; done) | fail) (by rfl) (by rfl) ?_; (try simp [hne, del, nAA]))
  | (refine CallP.ok1 (x3 _ (by first | omega | simp <;> omega | fail)) (by first | (simp [hne, del, nAA, zaa, getK, zab, zac]; done) | fail) (by rfl) (by rfl) ?_; (try simp [hne, del, nAA]))
  | fail)
 (refine EndW.frzN 1 ?_; simp [frzN, frz1, zaz, zay, St.frz, St.frzS, frzS, fv, zaH, za2, za4, zaG, zau, zam, del, frz, za5, hne, nAA])
 refine EndW.norm ?_;simp [St.norm, zaD, zaT, zaV, zaW, hne, nAA]
 (refine EndW.here ?_; (first | (refine EndOK.fin (.inr rfl) ?_) | (refine EndOK.fin (.inl rfl) ?_)); simp [zaA, zae, Tryz.results99, hne, hi]; refine FinOK.cut [(i, rOb l T3)] (nx) (by simp [zaa, getK, zab, zac, Ob.under, D.under, zad, zaf, hne, hi] <;> omega) (by simp [D.under]) (by simp [hn]) ?_; try simp)
 all_goals (first | (simp [Exp.row_eq, Exp.op, Exp.n, Exp.unit, Exp.s, Exp.args, zbB]; done) | (simp [Exp.row_eq, Exp.op, Exp.n, Exp.unit, Exp.s, Exp.args, zbB]; omega) | fail)
theorem zlQ {l : List Tok} {S : RS} (hb : S.err ≠ 0) {i nx : Nat} (hi : i < nx) (k : Int) (f : Nat) :
  RetX Tryz.prog 99 [.ptr i 0, .u (.int .i64 k)] [(i, rOb l S)] nx (zjk l i nx (zdP l f S k)) := by
 have hne := zaw hi;rw [zcx hb];simp only [zbA];unfold rOb zbf at *
 (refine RetX.of_bodyW Tryz.func99 rfl (by simp) fun Γ hn hpan => ?_); simp only [entry, ziC, ziN, maC, maN, oA, Tryz.ntmps99]
 repeat' (first
  | ((first | refine zag ?_ | refine zaj ?_ | refine zah ?_ | refine zai ?_ | fail); simp [hne, hb, del, nAA])
  | (refine zaq ?_; simp only [zap])
  | fail)
 refine EndW.norm ?_;simp [St.norm, zaD, zaT, zaV, zaW, hne, nAA]
 (refine EndW.here ?_; (first | (refine EndOK.fin (.inr rfl) ?_) | (refine EndOK.fin (.inl rfl) ?_)); simp [zaA, zae, Tryz.results99, hne, hi]; refine FinOK.cut [(i, rOb l S)] (nx) (by simp [zaa, getK, zab, zac, Ob.under, D.under, zad, zaf, hne, hi] <;> omega) (by simp [D.under]) (by simp [hn]) ?_; try simp)
 all_goals (first | (simp [Exp.row_eq, Exp.op, Exp.n, Exp.unit, Exp.s, Exp.args, zbB]; done) | (simp [Exp.row_eq, Exp.op, Exp.n, Exp.unit, Exp.s, Exp.args, zbB]; omega) | fail)
theorem zn5 {l : List Tok} (hl : TokOK l) (hE : zcJ l) (hll : l.length <= 1000000) {f : Nat} (hX : ∀ g, g <= f -> zgQ l g) (hP : zlE l f) : zgQ l (f + 1) := by
 intro S k i nx hi hv hf hk0 hk7;have hne := zaw hi;rcases hv.ways with hb | ⟨q, rfl, hq⟩
 ·exact zlQ hb hi k (f + 1)
 have hf' := hf rfl;simp only at hf';by_cases h0 : k = 0
 ·subst h0;cases b1 : isR l ⟨q, 0, 0⟩ [105, 102] with
  | true => exact zq6 hl hE hll (hX f (Nat.le_refl _)) hq (by simp at hf'; omega) b1 hi
  | false =>
   rw [zdP, if_neg (by simp), if_neg (by simp [b1]), if_pos rfl];have a1 := fun nx' (h : nx <= nx') => zbO l ⟨q, 0, 0⟩ [105, 102] i nx' (by omega) hv hll;have hx := fun nx' (h : nx <= nx') => hX f (Nat.le_refl _) ⟨q, 0, 0⟩ 1 i nx' (by omega) hv (fun _ => by simp at hf' ⊢; omega) (by omega) (by omega);simp only [b1, Bool.false_eq_true, if_false, zbA] at a1 hx ⊢;generalize zdP l f ⟨q, 0, 0⟩ 1 = A at *;obtain ⟨e, T⟩ := A;simp only at hx ⊢;unfold rOb zbf at *
   (refine RetX.of_bodyW Tryz.func99 rfl (by simp) fun Γ hn hpan => ?_); simp only [entry, ziC, ziN, maC, maN, oA, Tryz.ntmps99]
   repeat' (first
  | ((first | refine zag ?_ | refine zaj ?_ | refine zah ?_ | refine zai ?_ | fail); simp [hne, del, nAA])
  | ((first | refine zaq ?_ | refine zao ?_ | fail); simp only [zap])
  | (refine CallP.ok1 (a1 _ (by first | omega | simp <;> omega | fail)) (by first | (simp [hne, del, nAA, zaa, getK, zab, zac]; done) | fail) (by rfl) (by rfl) ?_; (try simp [hne, del, nAA]))
  | (refine CallP.ok1 (hx _ (by first | omega | simp <;> omega | fail)) (by first | (simp [hne, del, nAA, zaa, getK, zab, zac]; done) | fail) (by rfl) (by rfl) ?_; (try simp [hne, del, nAA]))
  | fail)
   refine EndW.norm ?_;simp [St.norm, zaD, zaT, zaV, zaW, hne, nAA]
   (refine EndW.here ?_; (first | (refine EndOK.fin (.inr rfl) ?_) | (refine EndOK.fin (.inl rfl) ?_)); simp [zaA, zae, Tryz.results99, hne, hi]; refine FinOK.cut [(i, rOb l T)] (nx) (by simp [zaa, getK, zab, zac, Ob.under, D.under, zad, zaf, hne, hi] <;> omega) (by simp [D.under]) (by simp [hn]) ?_; try simp)
   all_goals (first | (simp [Exp.row_eq, Exp.op, Exp.n, Exp.unit, Exp.s, Exp.args, zbB]; done) | (simp [Exp.row_eq, Exp.op, Exp.n, Exp.unit, Exp.s, Exp.args, zbB]; omega) | fail)
 by_cases h3 : k = 3 /\ isR l ⟨q, 0, 0⟩ [110, 111, 116] = true
 ·obtain ⟨rfl, b1⟩ := h3;rw [zdP, if_neg (by simp), if_neg (by simp), if_neg (by simp), if_pos ⟨rfl, b1⟩];have a1 := fun nx' (h : nx <= nx') => zbO l ⟨q, 0, 0⟩ [110, 111, 116] i nx' (by omega) hv hll;have hv1 := (zb6 hl hv b1).vs;simp only [RS.adv] at hv1;have hx := fun nx' (h : nx <= nx') => hX f (Nat.le_refl _) ⟨q + 1, 0, 0⟩ 3 i nx' (by omega) hv1 (fun _ => by simp at hf' ⊢; omega) (by omega) (by omega);simp only [b1, if_true, zbA, RS.adv] at a1 hx ⊢;generalize zdP l f ⟨q + 1, 0, 0⟩ 3 = A at *;obtain ⟨e, T⟩ := A;simp only at hx ⊢;unfold rOb zbf at *
  (refine RetX.of_bodyW Tryz.func99 rfl (by simp) fun Γ hn hpan => ?_); simp only [entry, ziC, ziN, maC, maN, oA, Tryz.ntmps99]
  repeat' (first
  | ((first | refine zag ?_ | refine zaj ?_ | refine zah ?_ | refine zai ?_ | fail); simp [hne, del, nAA])
  | ((first | refine zaq ?_ | refine zao ?_ | fail); simp only [zap])
  | (refine CallP.ok1 (a1 _ (by first | omega | simp <;> omega | fail)) (by first | (simp [hne, del, nAA, zaa, getK, zab, zac]; done) | fail) (by rfl) (by rfl) ?_; (try simp [hne, del, nAA]))
  | (refine CallP.ok1 (hx _ (by first | omega | simp <;> omega | fail)) (by first | (simp [hne, del, nAA, zaa, getK, zab, zac]; done) | fail) (by rfl) (by rfl) ?_; (try simp [hne, del, nAA]))
  | fail)
  (refine EndW.frzN 1 ?_; simp [frzN, frz1, zaz, zay, St.frz, St.frzS, frzS, fv, zaH, za2, za4, zaG, zau, zam, del, frz, za5, hne, nAA])
  refine EndW.norm ?_;simp [St.norm, zaD, zaT, zaV, zaW, hne, nAA]
  (refine EndW.here ?_; (first | (refine EndOK.fin (.inr rfl) ?_) | (refine EndOK.fin (.inl rfl) ?_)); simp [zaA, zae, Tryz.results99, hne, hi]; refine FinOK.cut [(i, rOb l T)] (nx) (by simp [zaa, getK, zab, zac, Ob.under, D.under, zad, zaf, hne, hi] <;> omega) (by simp [D.under]) (by simp [hn]) ?_; try simp)
  all_goals (first | (simp [Exp.row_eq, Exp.op, Exp.n, Exp.unit, Exp.s, Exp.args, zbB]; done) | (simp [Exp.row_eq, Exp.op, Exp.n, Exp.unit, Exp.s, Exp.args, zbB]; omega) | fail)
 by_cases h7 : k = 7
 ·subst h7;rw [zdP, if_neg (by simp), if_neg (by simp), if_neg (by simp), if_neg (by simp), if_pos rfl];have hx := fun nx' (h : nx <= nx') => hP q i nx' (by omega) hq (by simp at hf'; omega);simp only [zbA] at hx ⊢;generalize zgp l f ⟨q, 0, 0⟩ = A at *;obtain ⟨e, T⟩ := A;simp only at hx ⊢;unfold rOb zbf at *
  (refine RetX.of_bodyW Tryz.func99 rfl (by simp) fun Γ hn hpan => ?_); simp only [entry, ziC, ziN, maC, maN, oA, Tryz.ntmps99]
  repeat' (first
  | ((first | refine zag ?_ | refine zaj ?_ | refine zah ?_ | refine zai ?_ | fail); simp [hne, del, nAA])
  | ((first | refine zaq ?_ | refine zao ?_ | fail); simp only [zap])
  | (refine CallP.ok1 (hx _ (by first | omega | simp <;> omega | fail)) (by first | (simp [hne, del, nAA, zaa, getK, zab, zac]; done) | fail) (by rfl) (by rfl) ?_; (try simp [hne, del, nAA]))
  | fail)
  refine EndW.norm ?_;simp [St.norm, zaD, zaT, zaV, zaW, hne, nAA]
  (refine EndW.here ?_; (first | (refine EndOK.fin (.inr rfl) ?_) | (refine EndOK.fin (.inl rfl) ?_)); simp [zaA, zae, Tryz.results99, hne, hi]; refine FinOK.cut [(i, rOb l T)] (nx) (by simp [zaa, getK, zab, zac, Ob.under, D.under, zad, zaf, hne, hi] <;> omega) (by simp [D.under]) (by simp [hn]) ?_; try simp)
  all_goals (first | (simp [Exp.row_eq, Exp.op, Exp.n, Exp.unit, Exp.s, Exp.args, zbB]; done) | (simp [Exp.row_eq, Exp.op, Exp.n, Exp.unit, Exp.s, Exp.args, zbB]; omega) | fail)
 rw [zdP, if_neg (by simp), if_neg (fun h => h0 h.1), if_neg h0, if_neg h3, if_neg h7];have hx := fun nx' (h : nx <= nx') => hX f (Nat.le_refl _) ⟨q, 0, 0⟩ (k + 1) i nx' (by omega) hv (fun _ => by simp; omega) (by omega) (by omega);have hnT := zfb hl hE (f := f) (k := k + 1) hv (by omega) (by omega) (fun _ => by simp; omega);simp only [zbA] at hx ⊢;generalize zdP l f ⟨q, 0, 0⟩ (k + 1) = A at *;obtain ⟨e0, T0⟩ := A;simp only at hx hnT ⊢;by_cases hk3 : k = 3
 ·subst hk3;have b1 : isR l ⟨q, 0, 0⟩ [110, 111, 116] = false := by simpa using h3
  have a1 := fun nx' (h : nx <= nx') => zbO l ⟨q, 0, 0⟩ [110, 111, 116] i nx' (by omega) hv hll;simp only [b1, Bool.false_eq_true, if_false, if_true] at a1 ⊢;unfold rOb zbf at *
  (refine RetX.of_bodyW Tryz.func99 rfl (by simp) fun Γ hn hpan => ?_); simp only [entry, ziC, ziN, maC, maN, oA, Tryz.ntmps99]
  repeat' (first
  | ((first | refine zag ?_ | refine zaj ?_ | fail); simp [hne, del, nAA])
  | (refine zsg ?_)
  | ((first | refine zah ?_ | refine zai ?_ | fail); simp [hne, del, nAA])
  | ((first | refine zaq ?_ | refine zao ?_ | fail); simp only [zap])
  | (refine za9 ?_; simp [zap])
  | (refine CallP.ok1 (a1 _ (by first | omega | simp <;> omega | fail)) (by first | (simp [hne, del, nAA, zaa, getK, zab, zac]; done) | fail) (by rfl) (by rfl) ?_; (try simp [hne, del, nAA]))
  | (refine CallP.ok1 (hx _ (by first | omega | simp <;> omega | fail)) (by first | (simp [hne, del, nAA, zaa, getK, zab, zac]; done) | fail) (by rfl) (by rfl) ?_; (try simp [hne, del, nAA]))
  | fail)
  refine EndW.norm ?_;simp [St.norm, zaD, zaT, zaV, zaW, hne, nAA]
  (refine EndW.here ?_; (first | (refine EndOK.fin (.inr rfl) ?_) | (refine EndOK.fin (.inl rfl) ?_)); simp [zaA, zae, Tryz.results99, hne, hi]; refine FinOK.cut [(i, rOb l T0)] (nx) (by simp [zaa, getK, zab, zac, Ob.under, D.under, zad, zaf, hne, hi] <;> omega) (by simp [D.under]) (by simp [hn]) ?_; try simp)
  all_goals (first | (simp [Exp.row_eq, Exp.op, Exp.n, Exp.unit, Exp.s, Exp.args, zbB]; done) | (simp [Exp.row_eq, Exp.op, Exp.n, Exp.unit, Exp.s, Exp.args, zbB]; omega) | fail)
 rw [if_neg hk3];generalize hR : zl4 l f k e0 T0 = R;have hR' : R = zl4 l f k e0 T0 := hR.symm;unfold rOb zbf at hx ⊢
 (refine RetX.of_bodyW Tryz.func99 rfl (by simp) fun Γ hn hpan => ?_); simp only [entry, ziC, ziN, maC, maN, oA, Tryz.ntmps99]
 repeat' (first
  | ((first | refine zag ?_ | refine zaj ?_ | fail); simp [hne, h0, h7, hk3, del, nAA])
  | (refine ⟨by omega, ?_⟩)
  | ((first | refine zah ?_ | refine zai ?_ | fail); simp [hne, h0, h7, hk3, del, nAA])
  | (refine zao ?_; simp only [zap])
  | (refine CallP.ok1 (hx _ (by first | omega | simp <;> omega | fail)) (by first | (simp [hne, h0, h7, hk3, del, nAA, zaa, getK, zab, zac]; done) | fail) (by rfl) (by rfl) ?_; (try simp [hne, h0, h7, hk3, del, nAA]))
  | fail)
 refine zcT (α := { x : Exp × RS × Nat // VS l x.2.1 /\ x.2.2 <= f /\ (x.2.1.err = 0 -> 10 * (l.length - x.2.1.q) + 2 <= x.2.2 + k.toNat) /\ R = zl4 l x.2.2 k x.1 x.2.1 }) [0, 1, 4, 8] (fun x => [])
  (fun x => [(nx + 1, zr6 x.1.1), (nx, .box [.u (.int .i64 0), .u (.int .i64 0), .u (.int .i64 0), .u (.str []), .u .nil]), (i, rOb l x.1.2.1)]) (nx + 2) (fun x => x.1.2.2) ⟨(e0, T0, f), hnT.vs, Nat.le_refl _, (fun hT => by rcases hnT with h | ⟨_, _, h, _⟩; exact absurd hT h; simp only at h hT hf' ⊢; omega), hR'⟩ ?_ ?_
 ·have hi3 : i < nx + 2 := by omega
  exact (Wk.cut rfl (by simp [hn, St.lp]) (by simp [wkO, St.lp, zaa, getK, Ob.under, D.under, zad, zaf, hi, hi3, hne]) (by simp [wkU, St.lp, zan, zaa, getK, D.under, hi, hi3, hne]) (by simp [wkE, St.lp, zan, zaa, getK, hi, hi3, hne] <;> (try (intros; simp_all; done)) <;> (try (intros; omega)) <;> (try grind)))
 rintro ⟨⟨e, S, g⟩, h1, h2, h2b, h3'⟩;simp only at h1 h2 h2b h3';simp [St.lp, St.only, zan, zaa, getK];have hnx := zcn l S h1 hll;have hsy := zk7 (zbw l S);rw [<- zq3] at hsy;cases hs : znR l S with
 | none =>
  rw [zoK hs] at h3';rw [hs] at hsy;subst h3';generalize zbw l S = t at *;simp only [zmX, zej] at hsy
  repeat' (first
  | ((first | refine zag ?_ | refine zaj ?_ | refine zah ?_ | refine zai ?_ | refine zat ?_ | fail); simp [hne, hk3, del, nAA])
  | ((first | refine zaq ?_ | refine zao ?_ | fail); simp only [zap])
  | (refine CallP.fE (hnx) (by first | rfl | fail) (by first | simp [hne, hk3, del, nAA] <;> rfl | fail) ?_; (try simp [hne, hk3, del, nAA]))
  | (refine CallP.fE (hsy) (by first | rfl | fail) (by first | simp [hne, hk3, del, nAA] <;> rfl | fail) ?_; (try simp [hne, hk3, del, nAA]))
  | fail)
  refine EndW.norm ?_;simp [St.norm, zaD, zaT, zaV, zaW, hne, nAA]
  (refine EndW.here ?_; (first | (refine EndOK.fin (.inr rfl) ?_) | (refine EndOK.fin (.inl rfl) ?_)); simp [zaA, zae, Tryz.results99, hne, hi]; refine FinOK.cut [(i, rOb l S)] (nx) (by simp [zaa, getK, zab, zac, Ob.under, D.under, zad, zaf, hne, hi] <;> omega) (by simp [D.under]) (by simp [hn]) ?_; try simp)
  all_goals (first | (simp [Exp.row_eq, Exp.op, Exp.n, Exp.unit, Exp.s, Exp.args, zbB]; done) | (simp [Exp.row_eq, Exp.op, Exp.n, Exp.unit, Exp.s, Exp.args, zbB]; omega) | fail)
 | some x =>
  obtain ⟨x1, x2, x3⟩ := zpD hs;obtain ⟨q1, rfl, hq1⟩ := zq1 hl h1 hs;have hb0 := h2b rfl;simp only at hb0;obtain ⟨g, rfl⟩ : ∃ g', g = g' + 1 := ⟨g - 1, by omega⟩;rw [zl4, hs] at h3';rw [hs] at hsy;simp only [RS.adv] at h3';generalize zbw l ⟨q1, 0, 0⟩ = t at *;simp only [zmX, zej] at hsy;have x3' : ¬ x.op < 0 := by omega
  by_cases c1 : x.form = k
  ·rw [if_neg (fun h => h c1)] at h3';have hv1 : VS l ⟨q1 + 1, 0, 0⟩ := .inr ⟨rfl, rfl, hq1⟩;have hy := fun nx' (h : nx <= nx') => hX g (by omega) ⟨q1 + 1, 0, 0⟩ (k + 1) i nx' (by omega) hv1 (fun _ => by simp; omega) (by omega) (by omega);have hny := zfb hl hE (f := g) (k := k + 1) hv1 (by omega) (by omega) (fun _ => by simp; omega);simp only [zbA] at hy;generalize zdP l g ⟨q1 + 1, 0, 0⟩ (k + 1) = A at *;obtain ⟨e2, T⟩ := A;simp only at hy hny h3';by_cases c4 : k = 4
   ·rw [if_pos c4] at h3';subst h3';subst c4;simp only [show (4 : Int) + 1 = 5 from rfl] at hy
    repeat' (first
  | (refine zfi (fun nx' h' => hy nx' (by simp at h'; omega)) (by first | (simp [hne, x3', c1, del, nAA, zaa, getK, zab, zac, zal, zaL]; done) | fail) (by rfl) (by first | assumption | simp) (by rfl) (by simp [D.under, Ob.under]) (by simp) ?_; (try simp [hne, x3', c1, del, nAA]))
  | ((first | refine zag ?_ | refine zaS rfl ?_ | refine zbJ rfl ?_ | refine zaj ?_ | fail); simp [hne, x3', c1, del, nAA])
  | (refine ⟨by omega, ?_⟩)
  | ((first | refine zah ?_ | refine zai ?_ | fail); simp [hne, x3', c1, del, nAA])
  | (refine za0 (hC _ (zbP [i] nx (by simp <;> omega) (by simp <;> omega) (by apply Exists.intro; apply And.intro; (focus (repeat' (first | exact KF.nil | exact KL.nil | apply KF.cons | apply KL.cons 0 rfl | apply KL.cons 1 rfl | apply KL.cons 2 rfl | apply KL.cons 3 rfl | apply KL.cons 4 rfl | apply KL.cons 5 rfl | apply KL.cons 6 rfl | apply KL.cons 7 rfl | apply KL.cons 8 rfl | apply KL.cons 9 rfl))); kernel_rfl))) (hk _ ?_); clear hC hk C k; simp only [zap])
  | (refine za3 rfl (by kernel_rfl) (by first | (simp [hn]; done) | (simp [hn]; omega) | fail) fun C k hC hk => ?_; simp [hne, x3', c1, del, nAA])
  | (refine zat ?_; simp [hne, x3', c1, del, nAA])
  | ((first | refine zaq ?_ | refine zao ?_ | fail); simp only [zap])
  | (refine CallP.fE (hnx) (by first | rfl | fail) (by first | simp [hne, x3', c1, del, nAA] <;> rfl | fail) ?_; (try simp [hne, x3', c1, del, nAA]))
  | (refine CallP.fE (hsy) (by first | rfl | fail) (by first | simp [hne, x3', c1, del, nAA] <;> rfl | fail) ?_; (try simp [hne, x3', c1, del, nAA]))
  | fail)
    (refine EndW.frzN 1 ?_; simp [frzN, frz1, zaz, zay, St.frz, St.frzS, frzS, fv, zaH, za2, za4, zaG, zau, zam, del, frz, za5, hne, nAA])
    refine EndW.norm ?_;simp [St.norm, zaD, zaT, zaV, zaW, hne, nAA]
    (refine EndW.here ?_; (first | (refine EndOK.fin (.inr rfl) ?_) | (refine EndOK.fin (.inl rfl) ?_)); simp [zaA, zae, Tryz.results99, hne, hi]; refine FinOK.cut [(i, rOb l T)] (nx) (by simp [zaa, getK, zab, zac, Ob.under, D.under, zad, zaf, hne, hi] <;> omega) (by simp [D.under]) (by simp [hn]) ?_; try simp)
    all_goals (first | (simp [Exp.row_eq, Exp.op, Exp.n, Exp.unit, Exp.s, Exp.args, zbB]; done) | (simp [Exp.row_eq, Exp.op, Exp.n, Exp.unit, Exp.s, Exp.args, zbB]; omega) | fail)
   ·rw [if_neg c4] at h3'
    repeat' (first
  | (refine zfi (fun nx' h' => hy nx' (by simp at h'; omega)) (by first | (simp [hne, hk3, x3', c1, c4, del, nAA, zaa, getK, zab, zac, zal, zaL]; done) | fail) (by rfl) (by first | assumption | simp) (by rfl) (by simp [D.under, Ob.under]) (by simp) ?_; (try simp [hne, hk3, x3', c1, c4, del, nAA]))
  | ((first | refine zag ?_ | refine zaS rfl ?_ | refine zbJ rfl ?_ | refine zaj ?_ | fail); simp [hne, hk3, x3', c1, c4, del, nAA])
  | (refine ⟨by omega, ?_⟩)
  | ((first | refine zah ?_ | refine zai ?_ | fail); simp [hne, hk3, x3', c1, c4, del, nAA])
  | (refine za0 (hC _ (zbP [i] nx (by simp <;> omega) (by simp <;> omega) (by apply Exists.intro; apply And.intro; (focus (repeat' (first | exact KF.nil | exact KL.nil | apply KF.cons | apply KL.cons 0 rfl | apply KL.cons 1 rfl | apply KL.cons 2 rfl | apply KL.cons 3 rfl | apply KL.cons 4 rfl | apply KL.cons 5 rfl | apply KL.cons 6 rfl | apply KL.cons 7 rfl | apply KL.cons 8 rfl | apply KL.cons 9 rfl))); kernel_rfl))) (hk _ ?_); clear hC hk C k; simp only [zap])
  | (refine za3 rfl (by kernel_rfl) (by first | (simp [hn]; done) | (simp [hn]; omega) | fail) fun C k hC hk => ?_; simp [hne, hk3, x3', c1, c4, del, nAA])
  | (refine zat ?_; simp [hne, hk3, x3', c1, c4, del, nAA])
  | (refine zao ?_; simp only [zap])
  | (refine CallP.fE (hnx) (by first | rfl | fail) (by first | simp [hne, hk3, x3', c1, c4, del, nAA] <;> rfl | fail) ?_; (try simp [hne, hk3, x3', c1, c4, del, nAA]))
  | (refine CallP.fE (hsy) (by first | rfl | fail) (by first | simp [hne, hk3, x3', c1, c4, del, nAA] <;> rfl | fail) ?_; (try simp [hne, hk3, x3', c1, c4, del, nAA]))
  | fail)
    have hi3 : i < nx + 2 := by omega
    refine LoopW.next ⟨(.mk x.op 0 0 [] [e, e2], T, g), hny.vs, (by show g <= f; omega), (fun hT => ?_), h3'⟩ (by show g < g + 1; omega) ?_
    ·rcases hny with h | ⟨_, _, h, _⟩
     ·exact absurd hT h
     ·simp only at h hT ⊢; omega
    refine Wk.trans (Wk.frzN 1 _) ?_;simp [hne, nAA, frzN, frz1, zaz, zay, St.frz, St.frzS, frzS, fv, zaH, za2, za4, zaG, zau, zam, del, frz, za5];exact (Wk.cut rfl (by simp [hn, St.lp]) (by simp [wkO, St.lp, zaa, getK, Ob.under, D.under, zad, zaf, hi, hi3, hne, Exp.row_eq, Exp.op, Exp.n, Exp.unit, Exp.s, Exp.args]) (by simp [wkU, St.lp, zan, zaa, getK, D.under, hi, hi3, hne, Exp.row_eq, Exp.op, Exp.n, Exp.unit, Exp.s, Exp.args]) (by simp [wkE, St.lp, zan, zaa, getK, hi, hi3, hne, Exp.row_eq, Exp.op, Exp.n, Exp.unit, Exp.s, Exp.args] <;> (try (intros; simp_all; done)) <;> (try (intros; omega)) <;> (try grind)))
  ·rw [if_pos c1] at h3';subst h3'
   repeat' (first
  | ((first | refine zag ?_ | refine zaj ?_ | refine zah ?_ | refine zai ?_ | refine zat ?_ | fail); simp [hne, hk3, x3', c1, del, nAA])
  | ((first | refine zaq ?_ | refine zao ?_ | fail); simp only [zap])
  | (refine CallP.fE (hnx) (by first | rfl | fail) (by first | simp [hne, hk3, x3', c1, del, nAA] <;> rfl | fail) ?_; (try simp [hne, hk3, x3', c1, del, nAA]))
  | (refine CallP.fE (hsy) (by first | rfl | fail) (by first | simp [hne, hk3, x3', c1, del, nAA] <;> rfl | fail) ?_; (try simp [hne, hk3, x3', c1, del, nAA]))
  | fail)
   refine EndW.norm ?_;simp [St.norm, zaD, zaT, zaV, zaW, hne, nAA]
   (refine EndW.here ?_; (first | (refine EndOK.fin (.inr rfl) ?_) | (refine EndOK.fin (.inl rfl) ?_)); simp [zaA, zae, Tryz.results99, hne, hi]; refine FinOK.cut [(i, rOb l ⟨q1, 0, 0⟩)] (nx) (by simp [zaa, getK, zab, zac, Ob.under, D.under, zad, zaf, hne, hi] <;> omega) (by simp [D.under]) (by simp [hn]) ?_; try simp)
   all_goals (first | (simp [Exp.row_eq, Exp.op, Exp.n, Exp.unit, Exp.s, Exp.args, zbB]; done) | (simp [Exp.row_eq, Exp.op, Exp.n, Exp.unit, Exp.s, Exp.args, zbB]; omega) | fail)
theorem zlR {l : List Tok} (hl : TokOK l) (hE : zcJ l) (hll : l.length <= 1000000) : ∀ (n f : Nat), f <= n -> zgQ l f /\ zlE l f
 | n, 0, _ => by
  refine ⟨fun S k i nx hi hv hf hk0 hk7 => ?_, fun q i nx hi hq hf => by omega⟩;have hb : S.err ≠ 0 := by
   rcases hv.ways with hb | ⟨q, rfl, hq⟩
   ·exact hb
   ·have := hf rfl;simp only at this;omega
  exact zlQ hb hi k 0
 | 0, f + 1, h => by omega
 | n + 1, f + 1, h => by
  have ih := fun g (hg : g <= f) => zlR hl hE hll n g (by omega);exact ⟨zn5 hl hE hll (fun g hg => (ih g hg).1) (ih f (Nat.le_refl _)).2, zmK hl hE hll (ih f (Nat.le_refl _)).1⟩
end Go.Proofs.YthnemhfamhnfjaaGreatDoor
namespace Go.Proofs.YthnemhfamhnfjaaGreatDoor
open Go Go.VL Go.Shelf Go.RowKit
attribute [local simp] HS zdS zcz evPure opd uOf zaN St.put St.at getK binD binI binS binB nilD aggD zjm zkZ lookD lookR zdv Go.VL.nextD zdz zlv zk0 zid zc5 mkV zep zbT zb7 mapEff zfk zhO Key.kk shiftI arith unD convD zfC loadD cellsAt fieldAddrD fieldD indexAddrD indexD sliceD cutD lenD minmaxD nilCheckD buildD fillD zcs zd9 zf2 setAll zdC zgj zdo zkH zde St.add za8 zct rowsOf ze5 zdq zal zac zaa zbK zd4 zbo entry zcb zck valD zcB zc6 zjf zen zeo zcw zch zaE zba zbX delAll effD St.effS zeq zbM zbs zer zbN zbu zc7 zbt zbg zc8 zeb zcu zc0 zb1 zcY zcZ zaL mkD zcp zce zcg zaE zdk D.ids Op.operands Call.operands zcq makeIfD makeFuncD typeAssertD zkY zeT zeU zkV zdx IntKind.bits zdG List.take_of_length_le List.range_succ
attribute [local irreducible] V G H HD HD2 HD4 znD RetX zap Eff CallP CallV EndOK Fun Ret FinOK LoopI LoopW EndW
theorem zmo : zlA Tryz.prog 74 9 = some u8T := by kernel_rfl
theorem zmz (l s : W8) (i j nx : Nat) (hi : i < nx) (hj : j < nx) (hij : i ≠ j) (hlen : l.length + s.length <= 140737488355328) :
  RetX Tryz.prog 53 [.ptr i 0, .u (.str s)] [(i, .box [.ptr i 0, .vec j l.length]), (j, .vec u8T 1 (zcA l))] nx
   (fun r o n => r = .val (.tup [.u (.int .i64 s.length), .u (.oth .nilIface)]) /\ o = [(i, .box [.ptr i 0, .vec nx (l.length + s.length)]), (nx, .vec u8T 1 (zcA (l ++ s)))] /\ n = nx + 1) := by
 have hne := zaw hi;have hne2 := zaw hj;have hcp := fun nx' (h : nx <= nx') => zo9 i nx' (by omega) (.vec j l.length);have hbi := zmo;have hca : zak Tryz.prog 108 = true := by kernel_rfl
 have hbl := zny l;rw [show zcA (l ++ s) = rowsD (zem l ++ zem s) by rw [zcA, znz]]
 (refine RetX.of_bodyW Tryz.func53 rfl (by simp) fun Γ hn hpan => ?_); simp only [entry, ziC, ziN, maC, maN, oA, Tryz.ntmps53]
 repeat' (first
  | (refine zkS ?_; simp [zgg, hne, hne2, hij, Ne.symm hij, del, hbi, hbl, hlen])
  | ((first | refine zag ?_ | refine zaj ?_ | refine zah ?_ | fail); simp [hne, hne2, hij, Ne.symm hij, del, hbi, hbl, hlen])
  | (refine zaq ?_; simp only [zap])
  | (refine CallP.ok1 (hcp _ (by first | omega | simp <;> omega | fail)) (by first | (simp [hne, hne2, hij, Ne.symm hij, del, hbi, hbl, hlen, zaa, getK, zab, zac]; done) | fail) (by rfl) (by rfl) ⟨by first | assumption | (simp; done) | fail, by simp, ?_⟩; (try simp [hne, hne2, hij, Ne.symm hij, del, hbi, hbl, hlen]))
  | fail)
 (refine EndW.here ?_; (first | (refine EndOK.fin (.inr rfl) ?_) | (refine EndOK.fin (.inl rfl) ?_)); simp [zaA, zae, Tryz.results53, hne, hne2, hi, hj, hij, Ne.symm hij]; refine FinOK.cut [(i, .box [.ptr i 0, .vec nx (l.length + s.length)]), (nx, .vec u8T 1 (rowsD (zem l) ++ rowsD (zem s)))] (nx + 1) (by simp [zaa, getK, zab, zac, Ob.under, D.under, zad, zaf, hne, hne2, hi, hj, hij, Ne.symm hij] <;> omega) (by simp [D.under]) (by simp [hn]) ?_; try simp)
theorem znG (s : W8) (i nx : Nat) (hi : i < nx) (hlen : s.length <= 140737488355328) :
  RetX Tryz.prog 53 [.ptr i 0, .u (.str s)] [(i, .nw bT)] nx
   (fun r o n => r = .val (.tup [.u (.int .i64 s.length), .u (.oth .nilIface)]) /\ o = [(i, .box [.ptr i 0, .vec (nx + 1) s.length]), (nx + 1, .vec u8T 1 (zcA s))] /\ n = nx + 2) := by
 have hne := zaw hi;have hcp := fun nx' (h : nx <= nx') => zqe i nx' (by omega);have hbi := zmo;have hca : zak Tryz.prog 108 = true := by kernel_rfl
 (refine RetX.of_bodyW Tryz.func53 rfl (by simp) fun Γ hn hpan => ?_); simp only [entry, ziC, ziN, maC, maN, oA, Tryz.ntmps53]
 repeat' (first
  | (refine zkS ?_; simp [zgg, hne, del, hbi, hlen])
  | ((first | refine zag ?_ | refine zaj ?_ | refine zah ?_ | fail); simp [hne, del, hbi, hlen])
  | (refine zaq ?_; simp only [zap])
  | (refine CallP.okL (hcp _ (by first | omega | simp <;> omega | fail)) (by first | (simp [hne, del, hbi, hlen, zaa, getK, zab, zac, zal, zaL, del]; done) | fail) (by rfl) (by rfl) ⟨by first | assumption | (simp; done) | fail, by simp, ?_⟩; (try simp [hne, del, hbi, hlen, zcV, del]))
  | fail)
 (refine EndW.here ?_; (first | (refine EndOK.fin (.inr rfl) ?_) | (refine EndOK.fin (.inl rfl) ?_)); simp [zaA, zae, Tryz.results53, hne, hi]; refine FinOK.cut [(i, .box [.ptr i 0, .vec (nx + 1) s.length]), (nx + 1, .vec u8T 1 (zcA s))] (nx + 2) (by simp [zaa, getK, zab, zac, Ob.under, D.under, zad, zaf, hne, hi] <;> omega) (by simp [D.under]) (by simp [hn]) ?_; try simp)
def zca (ws : List W8) : W8 := zbU ws ++ [32, 59, 10]
theorem zoy (l : W8) (ws : List W8) (i j nx : Nat) (hi : i < nx) (hj : j < nx) (hij : i ≠ j) (hlen : l.length + (zca ws).length <= 140737488355328) (hN : ws.length <= 140737488355328) :
  RetX Tryz.prog 52 [.u (.sl (ws.map fun w => [.str w])), .ptr i 0] [(i, .box [.ptr i 0, .vec j l.length]), (j, .vec u8T 1 (zcA l))] nx
   (fun r o n => r = .val (.tup []) /\ o = [(i, .box [.ptr i 0, .vec nx (l ++ zca ws).length]), (nx, .vec u8T 1 (zcA (l ++ zca ws)))] /\ n = nx + 1) := by
 have hne := zaw hi;have hne2 := zaw hj;have hjl : (zbU ws).length <= 140737488355328 := by simp only [zca, List.length_append] at hlen; omega
 have hjn := zma ws hjl hN;have hwr := fun nx' (h : nx <= nx') => zmz l (zca ws) i j nx' (by omega) (by omega) hij hlen;have hca : zak Tryz.prog 53 = true := by kernel_rfl
 rw [List.length_append];have hlt : zbU ws ++ [32, 59, 10] = zca ws := rfl;generalize zca ws = T at *;clear hlen
 (refine RetX.of_bodyW Tryz.func52 rfl (by simp) fun Γ hn hpan => ?_); simp only [entry, ziC, ziN, maC, maN, oA, Tryz.ntmps52]
 repeat' (first
  | ((first | refine zag ?_ | refine zaj ?_ | fail); simp [hne, hne2, hij, Ne.symm hij, del, hlt])
  | (refine ⟨by omega, ?_⟩)
  | (refine zas ?_; simp [hne, hne2, hij, Ne.symm hij, del, hlt])
  | (refine CallP.fE (hjn) (by first | rfl | fail) (by first | simp [hne, hne2, hij, Ne.symm hij, del, hlt] <;> rfl | fail) ⟨by first | assumption | (simp; done) | fail, by simp, ?_⟩; (try simp [hne, hne2, hij, Ne.symm hij, del, hlt]))
  | (refine CallP.okL (hwr _ (by first | omega | simp <;> omega | fail)) (by first | (simp [hne, hne2, hij, Ne.symm hij, del, hlt, zaa, getK, zab, zac, zal, zaL, del]; done) | fail) (by rfl) (by rfl) ⟨by first | assumption | (simp; done) | fail, by simp, ?_⟩; (try simp [hne, hne2, hij, Ne.symm hij, del, hlt, zcV, del]))
  | fail)
 (refine EndW.here ?_; (first | (refine EndOK.fin (.inr rfl) ?_) | (refine EndOK.fin (.inl rfl) ?_)); simp [zaA, zae, Tryz.results52, hne, hne2, hi, hj, hij, Ne.symm hij]; refine FinOK.cut [(i, .box [.ptr i 0, .vec nx (l.length + T.length)]), (nx, .vec u8T 1 (zcA (l ++ T)))] (nx + 1) (by simp [zaa, getK, zab, zac, Ob.under, D.under, zad, zaf, hne, hne2, hi, hj, hij, Ne.symm hij] <;> omega) (by simp [D.under]) (by simp [hn]) ?_; try simp)
theorem zg4 (ws : List W8) (i nx : Nat) (hi : i < nx) (hlen : (zca ws).length <= 140737488355328) (hN : ws.length <= 140737488355328) :
  RetX Tryz.prog 52 [.u (.sl (ws.map fun w => [.str w])), .ptr i 0] [(i, .nw bT)] nx
   (fun r o n => r = .val (.tup []) /\ o = [(i, .box [.ptr i 0, .vec (nx + 1) (zca ws).length]), (nx + 1, .vec u8T 1 (zcA (zca ws)))] /\ n = nx + 2) := by
 have hne := zaw hi;have hjl : (zbU ws).length <= 140737488355328 := by simp only [zca, List.length_append] at hlen; omega
 have hjn := zma ws hjl hN;have hwr := fun nx' (h : nx <= nx') => znG (zca ws) i nx' (by omega) hlen;have hca : zak Tryz.prog 53 = true := by kernel_rfl
 have hlt : zbU ws ++ [32, 59, 10] = zca ws := rfl;generalize zca ws = T at *;clear hlen
 (refine RetX.of_bodyW Tryz.func52 rfl (by simp) fun Γ hn hpan => ?_); simp only [entry, ziC, ziN, maC, maN, oA, Tryz.ntmps52]
 repeat' (first
  | ((first | refine zag ?_ | refine zaj ?_ | fail); simp [hne, del, hlt])
  | (refine ⟨by omega, ?_⟩)
  | (refine zas ?_; simp [hne, del, hlt])
  | (refine CallP.fE (hjn) (by first | rfl | fail) (by first | simp [hne, del, hlt] <;> rfl | fail) ⟨by first | assumption | (simp; done) | fail, by simp, ?_⟩; (try simp [hne, del, hlt]))
  | (refine CallP.okL (hwr _ (by first | omega | simp <;> omega | fail)) (by first | (simp [hne, del, hlt, zaa, getK, zab, zac, zal, zaL, del]; done) | fail) (by rfl) (by rfl) ⟨by first | assumption | (simp; done) | fail, by simp, ?_⟩; (try simp [hne, del, hlt, zcV, del]))
  | fail)
 (refine EndW.here ?_; (first | (refine EndOK.fin (.inr rfl) ?_) | (refine EndOK.fin (.inl rfl) ?_)); simp [zaA, zae, Tryz.results52, hne, hi]; refine FinOK.cut [(i, .box [.ptr i 0, .vec (nx + 1) T.length]), (nx + 1, .vec u8T 1 (zcA T))] (nx + 2) (by simp [zaa, getK, zab, zac, Ob.under, D.under, zad, zaf, hne, hi] <;> omega) (by simp [D.under]) (by simp [hn]) ?_; try simp)
end Go.Proofs.YthnemhfamhnfjaaGreatDoor
namespace Go.Proofs.YthnemhfamhnfjaaGreatDoor
open Go Go.VL
theorem zlg {l : List Tok} (hl : TokOK l) {f p : Nat} (hE : zgV l f) (hf : 4 * (l.length - p) <= f) {t : Tok} (ht : l[p]? = some t) (hk : ¬ t.kind = 2) (h1 : isB l p [116, 114, 117, 101] = false) (h2 : isB l p [102, 97, 108, 115, 101] = false)
  (h3 : isB l p [109, 105, 110] = true) (h4 : isB l p [109, 97, 120] = false) {i nx : Nat} (hi : i < nx) :
  RetX Tryz.prog 133 [.ptr i 0] [(i, pOb l p)] nx (PPost l i nx zeO (zaZ l (f + 1) p)) := zh3 hl hE hf ht hk h1 h2 (.inr ⟨h3, h4⟩) hi
end Go.Proofs.YthnemhfamhnfjaaGreatDoor
namespace Go.Proofs.YthnemhfamhnfjaaGreatDoor
open Go Go.VL
attribute [local simp] HS zdS zcz evPure opd uOf zaN St.put St.at getK binD binI binS binB nilD aggD zjm zkZ lookD lookR zdv Go.VL.nextD zdz zlv zk0 zid zc5 mkV zep zbT zb7 mapEff zfk zhO Key.kk shiftI arith unD convD zfC loadD cellsAt fieldAddrD fieldD indexAddrD indexD sliceD cutD lenD minmaxD nilCheckD buildD fillD zcs zd9 zf2 setAll zdC zgj zdo zkH zde St.add za8 zct rowsOf ze5 zdq zal zac zaa zbK zd4 zbo entry zcb zck valD zcB zc6 zjf zen zeo zcw zch zaE zba zbX delAll effD St.effS zeq zbM zbs zer zbN zbu zc7 zbt zbg zc8 zeb zcu zc0 zb1 zcY zcZ zaL mkD zcp zce zcg zaE zdk D.ids Op.operands Call.operands zcq makeIfD makeFuncD typeAssertD zkY zeT zeU zkV zdx IntKind.bits zdG List.take_of_length_le List.range_succ
attribute [local irreducible] V G H HD HD2 HD4 znD RetX zap Eff CallP CallV EndOK Fun Ret FinOK LoopI LoopW EndW
theorem zjR {l : List Tok} (hl : TokOK l) {f p : Nat} {t : Tok} (ht : l[p]? = some t) (hk : ¬ t.kind = 2) (h1 : isB l p [116, 114, 117, 101] = false) (h2 : isB l p [102, 97, 108, 115, 101] = false)
  (h3 : isB l p [109, 105, 110] = false) (h4 : isB l p [109, 97, 120] = false) (h5 : isB l p [40] = false) {i nx : Nat} (hi : i < nx) :
  RetX Tryz.prog 133 [.ptr i 0] [(i, pOb l p)] nx (PPost l i nx zeO (zaZ l (f + 1) p)) := by
 have hne := zaw hi;have hp := (lGE.1 ht).1;have hnx := zb9 l p t ht hl.len;have hll := hl.len;rw [zaZ, ht];have hh1 := fun nx' (h : nx <= nx') => zbj l p [116, 114, 117, 101] i nx' (by omega) hp hl.len;have hh2 := fun nx' (h : nx <= nx') => zbj l p [102, 97, 108, 115, 101] i nx' (by omega) hp hl.len;have hm1 := zeN l p [109, 105, 110] hp hl.len;have hm2 := zeN l p [109, 97, 120] hp hl.len;have hh3 := fun nx' (h : nx <= nx') => zbj l p [40] i nx' (by omega) hp hl.len;have hnm := zeD t.text;have hc1 := fun nx' (h : nx <= nx') => zd0 l p 12 i nx' (by omega);have hc2 := fun nx' (h : nx <= nx') => zcS l p t 12 i nx' (by omega) ht hl.len;simp only [hk, h1, h2, h3, h4, h5, if_false, if_true, Bool.false_eq_true, or_self] at hh1 hh2 hm1 hm2 hh3 ⊢;by_cases hw : t.kind = 1
 ·cases hb : zb3 t.text with
  | true =>
   simp only [hb, hw, and_self, if_true] at hnm ⊢
   (refine RetX.of_bodyW Tryz.func133 rfl (by simp) fun Γ hn hpan => ?_); simp only [entry, ziC, ziN, maC, maN, oA, Tryz.ntmps133]
   repeat' (first
  | ((first | refine zag ?_ | refine zaj ?_ | fail); simp [hne, hk, hw, del, nAA])
  | (refine ⟨by omega, ?_⟩)
  | ((first | refine zah ?_ | refine zai ?_ | fail); simp [hne, hk, hw, del, nAA])
  | ((first | refine zaq ?_ | refine zao ?_ | fail); simp only [zap])
  | (refine CallP.fE (hnx) (by first | rfl | fail) (by first | simp [hne, hk, hw, del, nAA] <;> rfl | fail) ?_; (try simp [hne, hk, hw, del, nAA]))
  | (refine CallP.fE (hm1) (by first | rfl | fail) (by first | simp [hne, hk, hw, del, nAA] <;> rfl | fail) ?_; (try simp [hne, hk, hw, del, nAA]))
  | (refine CallP.fE (hm2) (by first | rfl | fail) (by first | simp [hne, hk, hw, del, nAA] <;> rfl | fail) ?_; (try simp [hne, hk, hw, del, nAA]))
  | (refine CallP.fE (hnm) (by first | rfl | fail) (by first | simp [hne, hk, hw, del, nAA] <;> rfl | fail) ?_; (try simp [hne, hk, hw, del, nAA]))
  | (refine CallP.ok1 (hh1 _ (by first | omega | simp <;> omega | fail)) (by first | (simp [hne, hk, hw, del, nAA, zaa, getK, zab, zac]; done) | fail) (by rfl) (by rfl) ?_; (try simp [hne, hk, hw, del, nAA]))
  | (refine CallP.ok1 (hh2 _ (by first | omega | simp <;> omega | fail)) (by first | (simp [hne, hk, hw, del, nAA, zaa, getK, zab, zac]; done) | fail) (by rfl) (by rfl) ?_; (try simp [hne, hk, hw, del, nAA]))
  | (refine CallP.ok1 (hh3 _ (by first | omega | simp <;> omega | fail)) (by first | (simp [hne, hk, hw, del, nAA, zaa, getK, zab, zac]; done) | fail) (by rfl) (by rfl) ?_; (try simp [hne, hk, hw, del, nAA]))
  | (refine CallP.ok1 (hc1 _ (by first | omega | simp <;> omega | fail)) (by first | (simp [hne, hk, hw, del, nAA, zaa, getK, zab, zac]; done) | fail) (by rfl) (by rfl) ?_; (try simp [hne, hk, hw, del, nAA]))
  | fail)
   refine EndW.norm ?_;simp [St.norm, zaD, zaT, zaV, zaW, hne]
   (refine EndW.here ?_; (first | (refine EndOK.fin (.inr rfl) ?_) | (refine EndOK.fin (.inl rfl) ?_)); simp [zaA, zae, Tryz.results133, hne, hi]; refine FinOK.cut [(i, pOb l (p + 1))] (nx) (by simp [zaa, getK, zab, zac, Ob.under, D.under, zad, zaf, hne, hi] <;> omega) (by simp [D.under]) (by simp [hn]) ?_; try simp)
   exact PPost.zcy rfl (by simp [Exp.row]) rfl
  | false =>
   simp only [hb, hw, Bool.false_eq_true, and_false, if_false] at hnm ⊢
   (refine RetX.of_bodyW Tryz.func133 rfl (by simp) fun Γ hn hpan => ?_); simp only [entry, ziC, ziN, maC, maN, oA, Tryz.ntmps133]
   repeat' (first
  | ((first | refine zag ?_ | refine zaj ?_ | refine zah ?_ | refine zai ?_ | fail); simp [hne, hk, hw, del, nAA])
  | (refine zao ?_; simp only [zap])
  | (refine CallP.fE (hnx) (by first | rfl | fail) (by first | simp [hne, hk, hw, del, nAA] <;> rfl | fail) ?_; (try simp [hne, hk, hw, del, nAA]))
  | (refine CallP.fE (hm1) (by first | rfl | fail) (by first | simp [hne, hk, hw, del, nAA] <;> rfl | fail) ?_; (try simp [hne, hk, hw, del, nAA]))
  | (refine CallP.fE (hm2) (by first | rfl | fail) (by first | simp [hne, hk, hw, del, nAA] <;> rfl | fail) ?_; (try simp [hne, hk, hw, del, nAA]))
  | (refine CallP.fE (hnm) (by first | rfl | fail) (by first | simp [hne, hk, hw, del, nAA] <;> rfl | fail) ?_; (try simp [hne, hk, hw, del, nAA]))
  | (refine CallP.ok1 (hh1 _ (by first | omega | simp <;> omega | fail)) (by first | (simp [hne, hk, hw, del, nAA, zaa, getK, zab, zac]; done) | fail) (by rfl) (by rfl) ?_; (try simp [hne, hk, hw, del, nAA]))
  | (refine CallP.ok1 (hh2 _ (by first | omega | simp <;> omega | fail)) (by first | (simp [hne, hk, hw, del, nAA, zaa, getK, zab, zac]; done) | fail) (by rfl) (by rfl) ?_; (try simp [hne, hk, hw, del, nAA]))
  | (refine CallP.ok1 (hh3 _ (by first | omega | simp <;> omega | fail)) (by first | (simp [hne, hk, hw, del, nAA, zaa, getK, zab, zac]; done) | fail) (by rfl) (by rfl) ?_; (try simp [hne, hk, hw, del, nAA]))
  | (refine CallP.zeW (hc2 _ (by first | omega | simp <;> omega | fail)) (by first | (simp [hne, hk, hw, del, nAA, zaa, getK, zab, zac]; done) | fail) (by rfl) (by first | assumption | (simp; done) | fail) (by rfl) (by simp) ?_; rintro ob' ⟨q', rfl⟩; refine ⟨_, Wk.refl _, ?_⟩)
  | fail)
   (refine hpan _ _ ⟨{ n := _, env := [], obs := [(i, pOb l q')], next := nx }, (Wk.cut rfl (by simp [hn]) (by simp [wkO, zaa, getK, zab, zac, Ob.under, D.under, zad, zaf, hi, hne, zab, zac, zaa, getK]) (by simp [wkU, zan, zaa, getK, D.under, hi, hne, zab, zac, zaa, getK]) (by simp [wkE, zan, zaa, getK, hi, hne, zab, zac, zaa, getK])), by simp [hn], ?_⟩; try simp)
   exact PPost.zaF rfl
 ·simp only [hw, false_and, if_false]
  (refine RetX.of_bodyW Tryz.func133 rfl (by simp) fun Γ hn hpan => ?_); simp only [entry, ziC, ziN, maC, maN, oA, Tryz.ntmps133]
  repeat' (first
  | ((first | refine zag ?_ | refine zaj ?_ | refine zah ?_ | refine zai ?_ | fail); simp [hne, hk, hw, del, nAA])
  | (refine zao ?_; simp only [zap])
  | (refine CallP.fE (hnx) (by first | rfl | fail) (by first | simp [hne, hk, hw, del, nAA] <;> rfl | fail) ?_; (try simp [hne, hk, hw, del, nAA]))
  | (refine CallP.fE (hm1) (by first | rfl | fail) (by first | simp [hne, hk, hw, del, nAA] <;> rfl | fail) ?_; (try simp [hne, hk, hw, del, nAA]))
  | (refine CallP.fE (hm2) (by first | rfl | fail) (by first | simp [hne, hk, hw, del, nAA] <;> rfl | fail) ?_; (try simp [hne, hk, hw, del, nAA]))
  | (refine CallP.ok1 (hh1 _ (by first | omega | simp <;> omega | fail)) (by first | (simp [hne, hk, hw, del, nAA, zaa, getK, zab, zac]; done) | fail) (by rfl) (by rfl) ?_; (try simp [hne, hk, hw, del, nAA]))
  | (refine CallP.ok1 (hh2 _ (by first | omega | simp <;> omega | fail)) (by first | (simp [hne, hk, hw, del, nAA, zaa, getK, zab, zac]; done) | fail) (by rfl) (by rfl) ?_; (try simp [hne, hk, hw, del, nAA]))
  | (refine CallP.ok1 (hh3 _ (by first | omega | simp <;> omega | fail)) (by first | (simp [hne, hk, hw, del, nAA, zaa, getK, zab, zac]; done) | fail) (by rfl) (by rfl) ?_; (try simp [hne, hk, hw, del, nAA]))
  | (refine CallP.zeW (hc2 _ (by first | omega | simp <;> omega | fail)) (by first | (simp [hne, hk, hw, del, nAA, zaa, getK, zab, zac]; done) | fail) (by rfl) (by first | assumption | (simp; done) | fail) (by rfl) (by simp) ?_; rintro ob' ⟨q', rfl⟩; refine ⟨_, Wk.refl _, ?_⟩)
  | fail)
  (refine hpan _ _ ⟨{ n := _, env := [], obs := [(i, pOb l q')], next := nx }, (Wk.cut rfl (by simp [hn]) (by simp [wkO, zaa, getK, zab, zac, Ob.under, D.under, zad, zaf, hi, hne, zab, zac, zaa, getK]) (by simp [wkU, zan, zaa, getK, D.under, hi, hne, zab, zac, zaa, getK]) (by simp [wkE, zan, zaa, getK, hi, hne, zab, zac, zaa, getK])), by simp [hn], ?_⟩; try simp)
  exact PPost.zaF rfl
theorem zmd {l : List Tok} {p : Nat} {w : List UInt8} {t : Tok} (ht : l[p]? = some t) (h : isB l p w = true) : t.text = w := by
 unfold isB at h;rw [ht] at h;simp only [Bool.and_eq_true, decide_eq_true_eq] at h;exact h.2
theorem zjQ {l : List Tok} (hl : TokOK l) {f : Nat} (hE : zgV l f) : zip l (f + 1) := by
 intro p i nx hi hp hf;obtain ⟨t, ht⟩ : ∃ t, l[p]? = some t := ⟨_, List.getElem?_eq_getElem hp⟩;by_cases hk : t.kind = 2
 ·exact zlf hl ht hk hi
 cases h1 : isB l p [116, 114, 117, 101] with
 | true => exact zjP hl ht hk h1 hi
 | false =>
 cases h2 : isB l p [102, 97, 108, 115, 101] with
 | true => exact ziH hl ht hk h1 h2 hi
 | false =>
 cases h3 : isB l p [109, 105, 110] with
 | true =>
  cases h4 : isB l p [109, 97, 120] with
  | true => exact absurd ((zmd ht h3).symm.trans (zmd ht h4)) (by decide)
  | false => exact zlg hl hE (by omega) ht hk h1 h2 h3 h4 hi
 | false =>
 cases h4 : isB l p [109, 97, 120] with
 | true => exact zlh hl hE (by omega) ht hk h1 h2 h3 h4 hi
 | false =>
 cases h5 : isB l p [40] with
 | true => exact ziG hl hE (by omega) ht hk h1 h2 h3 h4 h5 hi
 | false => exact zjR hl ht hk h1 h2 h3 h4 h5 hi
end Go.Proofs.YthnemhfamhnfjaaGreatDoor
namespace Go.VL
open Go
theorem zpl {P : Program} {Γ : Ctx} {c : Code} {s : St} {Q : Exit -> St -> Prop} {x j : Nat} {cells : List U} {rows : List (List U)} (hx : getK s.env x = some (.u (.agg cells))) (hj : cells[j]? = some (.sl rows)) (h : rows.length <= 9223372036854775807 -> V P Γ c s Q) : V P Γ c s Q :=
 zqU (fun K a w hs => by
  have hr := (hs.getK hx).2;obtain ⟨vs, hl, _, hr⟩ := zez hr;have hr := hr j _ hj;generalize vs.getD j undef = v at hr;cases hr with
  | slE => simp
  | sl _ b o sz c f hc hcx => unfold maxLen at hcx; omega) h
end Go.VL
namespace Go.Proofs.YthnemhfamhnfjaaGreatDoor
open Go Go.VL
attribute [local simp] zdS zcz evPure opd uOf zaN St.put St.at getK binD binI binS binB nilD aggD zjm zkZ lookD lookR zdv Go.VL.nextD zdz zlv zk0 zid zc5 mkV zep zbT zb7 mapEff zfk zhO Key.kk shiftI arith unD convD zfC loadD cellsAt fieldAddrD fieldD indexAddrD indexD sliceD cutD lenD minmaxD nilCheckD buildD fillD zcs zd9 zf2 setAll zdC zgj zdo zkH zde St.add za8 zct rowsOf ze5 zdq zal zac zaa zbK zd4 zbo entry zcb zck valD zcB zc6 zjf zen zeo zcw zch zaE zba zbX delAll effD St.effS zeq zbM zbs zer zbN zbu zc7 zbt zbg zc8 zeb zcu zc0 zb1 zcY zcZ zaL mkD zcp zce zcg zaE zdk D.ids Op.operands Call.operands zcq makeIfD makeFuncD typeAssertD zkY zeT zeU zkV zdx IntKind.bits zdG List.take_of_length_le List.range_succ
attribute [local irreducible] V G H HD HD2 zap Eff CallP CallV EndOK Fun Ret FinOK LoopI LoopW EndW
theorem zjZ {l : List Tok} (hl : TokOK l) : ∀ f, zgV l f /\ zrD l f /\ zip l f := by
 intro f
 induction f using Nat.strongRecOn with
 | _ f ih =>
  cases f with
  | zero => exact ⟨fun p form i nx _ _ h => by omega, fun p form i nx _ _ h => by omega, fun p i nx _ _ h => by omega⟩
  | succ f =>
   obtain ⟨h1, h2, h3⟩ := ih f (by omega);exact ⟨zp7 hl (fun g hg => (ih g (by omega)).1) h2, zli hl h1 h3, zjQ hl h1⟩
def Exp.lev : Exp -> Int
 | .mk _ _ _ _ args => (args.map fun e => e.lev).foldl max 0 + 1
theorem Exp.zfj (e : Exp) : e.lev = (e.args.map Exp.lev).foldl max 0 + 1 := by
 cases e with
 | mk op n u s args => rw [Exp.lev]; rfl
theorem zby : ∀ (l : List Int) (a : Int), a <= l.foldl max a /\ ∀ x ∈ l, x <= l.foldl max a
 | [], a => ⟨by simp, fun x h => by simp at h⟩
 | b :: l, a => by
  obtain ⟨h1, h2⟩ := zby l (max a b);refine ⟨by simp only [List.foldl_cons]; omega, fun x hx => ?_⟩;rcases List.mem_cons.1 hx with rfl | hx
  ·simp only [List.foldl_cons]; omega
  ·exact h2 x hx
theorem Exp.lev_pos (e : Exp) : 1 <= e.lev := by
 rw [Exp.zfj];have := (zby (e.args.map Exp.lev) 0).1;omega
theorem Exp.zeK {e x : Exp} (h : x ∈ e.args) : SizeOf.sizeOf x < SizeOf.sizeOf e := by
 cases e with
 | mk op n u s args =>
  have := List.sizeOf_lt_of_mem h;simp only [Exp.args] at this;simp only [Exp.mk.sizeOf_spec];omega
theorem zib : ∀ (n : Nat) (e : Exp), SizeOf.sizeOf e <= n -> e.lev <= 1000000000 -> Fun Tryz.prog 44 [.u (.agg e.row)] (· = .u (.int .i64 e.lev)) := by
 intro n
 induction n with
 | zero =>
  intro e h;cases e with
  | mk op n u s args => simp only [Exp.mk.sizeOf_spec] at h; omega
 | succ n ih =>
  intro e hs he;have hx : ∀ x ∈ e.args, Fun Tryz.prog 44 [.u (.agg [.int .i64 x.op, .int .i64 x.n, .int .i64 x.unit, .str x.s, .sl (x.args.map Exp.row)])] (· = .u (.int .i64 x.lev)) := fun x hx => by
   rw [<- Exp.row_eq];refine ih x (by have := Exp.zeK hx; omega) ?_;have := (zby (e.args.map Exp.lev) 0).2 x.lev (List.mem_map.2 ⟨x, hx, rfl⟩);rw [Exp.zfj] at he;omega
  have hlb : ∀ k, ((e.args.map Exp.lev).take k).foldl max 0 <= 1000000000 := fun k => by
   rw [<- List.map_take];rw [Exp.zfj] at he;have h2 : (e.args.map Exp.lev).foldl max 0 = (e.args.drop k |>.map Exp.lev).foldl max ((e.args.take k |>.map Exp.lev).foldl max 0) := by
    rw [<- List.foldl_append, <- List.map_append, List.take_append_drop]
   have := (zby (e.args.drop k |>.map Exp.lev) ((e.args.take k |>.map Exp.lev).foldl max 0)).1;omega
  rw [Exp.row_eq, Exp.zfj];generalize hA : e.args = A at *;rw [Exp.zfj, hA] at he
  (refine Fun.of_body Tryz.func44 rfl (by simp) fun Γ hn => ?_); simp only [entry, ziC, ziN, maC, maN, oA, Tryz.ntmps44]
  refine zpl (x := 0) (j := 4) rfl rfl fun hl => ?_;simp at hl
  repeat' (first
  | ((first | refine zag ?_ | refine zaj ?_ | refine zah ?_ | refine zat ?_ | fail); simp)
  | fail)
  refine zb8 (α := { k : Nat // k <= A.length }) [0, 1, 2, 7, 8] (fun k => [(9, .u (.int .i64 k.1)), (3, .u (.int .i64 (((A.map Exp.lev).take k.1).foldl max 0)))]) (fun k => A.length - k.1) ⟨0, by omega⟩ ?_ ?_
  ·exact (Wk.env rfl rfl rfl (by simp [wkE, St.lp, zan, zaa, getK] <;> (try (intros; simp_all; done)) <;> (try (intros; omega)) <;> (try grind)))
  rintro ⟨k, hk⟩;simp [St.lp, St.only, zan, zaa, getK];rcases hy : A[k]? with _ | y
  ·have hge : A.length <= k := by simpa using hy
   have hb := hlb k;rw [List.take_of_length_le (by simpa using hge : (A.map Exp.lev).length <= k)] at hb ⊢;have hb0 := (zby (A.map Exp.lev) 0).1;generalize (A.map Exp.lev).foldl max 0 = M at *
   repeat' (first
  | ((first | refine zag ?_ | refine zaj ?_ | fail); simp [hy])
  | (refine ⟨by omega, ?_⟩)
  | (refine zah ?_; simp [hy])
  | (refine zaq ?_; simp only [zap])
  | (refine za9 ?_; simp [zap])
  | (intro hc <;> (try (exfalso; omega)))
  | fail)
   (refine EndOK.val (.inr rfl) ?_; simp [zaA, zae, zar, Tryz.results44])
  ·have hlt : k < A.length := (lGE.1 hy).1;have hfn := hx y (List.mem_of_getElem? hy);have ht : ((A.map Exp.lev).take (k + 1)).foldl max 0 = max (((A.map Exp.lev).take k).foldl max 0) y.lev := by
    rw [List.take_add_one, List.getElem?_map, hy];simp
   have hb := hlb (k + 1);rw [ht] at hb;have hb0 := (zby ((A.map Exp.lev).take k) 0).1;generalize hM : ((A.map Exp.lev).take k).foldl max 0 = M at *;have hyp := y.lev_pos
   repeat' (first
  | ((first | refine zag ?_ | refine zaj ?_ | fail); simp [hy, Exp.row_eq])
  | (refine ⟨by omega, ?_⟩)
  | ((first | refine zah ?_ | refine zas ?_ | fail); simp [hy, Exp.row_eq])
  | (refine zao ?_; simp only [zap])
  | (refine ⟨?_, by omega⟩)
  | (intro hc <;> (try (exfalso; omega)))
  | (refine CallP.fE (hfn) (by first | rfl | fail) (by first | simp [hy, Exp.row_eq] <;> rfl | fail) ?_; (try simp [hy, Exp.row_eq]))
  | fail)
   refine LoopW.next ⟨k + 1, hlt⟩ (by show A.length - (k + 1) < A.length - k; omega) ?_
   exact (Wk.cut rfl (by simp [hn, St.lp]) (by simp [wkO, St.lp, zaa, getK, Ob.under, D.under, zad, zaf, ht]) (by simp [wkU, St.lp, zan, zaa, getK, D.under, ht]) (by simp [wkE, St.lp, zan, zaa, getK, ht] <;> (try (intros; simp_all; done)) <;> (try (intros; omega)) <;> (try grind)))
end Go.Proofs.YthnemhfamhnfjaaGreatDoor
namespace Go.Proofs.YthnemhfamhnfjaaGreatDoor
open Go Go.VL
def zpt (l : List Tok) (p : Nat) (least most : Int) : PR Int := match l[p]? with
 | none => .stop 0 0
 | some t => if t.kind = 2 then if least <= t.n /\ t.n <= most then .ok t.n (p + 1) else .stop t.pos 3 else .stop t.pos 12
def zdr (l : List Tok) (p : Nat) (word : W8) (least most : Int) (behind : List W8) : PR Int :=
 if isB l p word = true then (zpt l (p + 1) least most).bind fun n q => (zbd l q behind).bind fun _ r => .ok n r else .ok 0 p
def zdu (l : List Tok) (p : Nat) : PR Exp := (zdZ l (4 * l.length + 3) p 0).bind fun e q =>
 if isB l q [59] = true then if e.lev <= 12 then .ok e (q + 1) else .stop (zbL l q) 6 else .stop (zbL l q) 12
def zhu (l : List Tok) (p : Nat) : PR (Int × Bool) := (zbd l p [[99, 105, 114, 99, 108, 101]]).bind fun _ q =>
 if isB l q [114, 111, 116, 97, 116, 105, 110, 103] = true then (zbd l (q + 1) [[59]]).bind fun _ r => .ok (0, false) r
 else if isB l q [115, 97, 118, 105, 110, 103] = true then (zbd l (q + 1) [[59]]).bind fun _ r => .ok (2, false) r
 else (zbd l q [[98, 105, 100, 100, 105, 110, 103]]).bind fun _ r => if isB l r [115, 101, 97, 108, 101, 100] = true then (zbd l (r + 1) [[59]]).bind fun _ r => .ok (1, true) r else (zbd l r [[59]]).bind fun _ r => .ok (1, false) r
def ordersW : List W8 := [[106, 111, 105, 110], [100, 114, 97, 119], [110, 101, 101, 100]]
def ze3 (l : List Tok) (p : Nat) : PR Int :=
 if isB l p [111, 114, 100, 101, 114] = true then match ordersW.findIdx? fun w => isB l (p + 1) w with
  | some i => (zbd l (p + 2) [[59]]).bind fun _ r => .ok i r
  | none => .stop (zbL l (p + 1)) 12
 else .ok 0 p
def zeQ (l : List Tok) : Nat -> Nat -> List Let -> PR (List Let)
 | 0, _, _ => .stop 0 0
 | f + 1, p, acc => if isB l p [108, 101, 116] = true then
   if acc.length < 20 then match l[p + 1]? with
    | none => .stop 0 0
    | some t => if t.kind = 1 ∧ zb3 t.text = true then
          if (acc.any fun x => decide (x.name = t.text)) = true then .stop t.pos 5
          else (zbd l (p + 2) [[61]]).bind fun _ q => (zdu l q).bind fun e r => zeQ l f r (acc ++ [⟨t.text, e⟩])
     else .stop t.pos 12
   else .stop (zbL l p) 6
  else .ok acc p
def nothingE : Exp := .mk 0 0 3 [] []
def zdt (l : List Tok) (p : Nat) (word : W8) : PR Exp := if isB l p word = true then zdu l (p + 1) else .ok nothingE p
def zgt (l : List Tok) (p : Nat) (word : W8) : PR Unit := if isB l p word = true then .ok () p else .stop (zbL l p) 12
def zo2 (l : List Tok) (p : Nat) : PR Unit := match l[p]? with | some t => if t.kind = 0 then .ok () p else .stop t.pos 12 | none => .stop 0 0
def zql (l : List Tok) : PR By :=
 (zhu l 0).bind fun k p => (zgt l p [112, 101, 114, 105, 111, 100]).bind fun _ p => (zdr l p [112, 101, 114, 105, 111, 100] 1 1000 [[100, 97, 121, 115], [59]]).bind fun period p =>
 (zgt l p [108, 97, 115, 116]).bind fun _ p => (zdr l p [108, 97, 115, 116] 1 1000 [[59]]).bind fun last p =>
 (zdr l p [103, 114, 97, 99, 101] 0 1000 [[100, 97, 121, 115], [59]]).bind fun grace p => (zdr l p [119, 97, 105, 116] 0 1000 [[100, 97, 121, 115], [59]]).bind fun wait p =>
 (ze3 l p).bind fun order p => (zdr l p [98, 97, 99, 107, 115] 0 60 [[59]]).bind fun backs p => (zdr l p [118, 111, 105, 99, 101, 115] 0 1000 [[112, 101, 114], [109, 105, 108, 108, 101], [59]]).bind fun voices p =>
 (zdr l p [106, 117, 114, 121] 0 60 [[59]]).bind fun jury p => (zdr l p [102, 117, 110, 100] 0 1000 [[112, 101, 114], [109, 105, 108, 108, 101], [59]]).bind fun fund p =>
 (zeQ l 21 p []).bind fun lets p => (zbd l p [[100, 117, 101]]).bind fun _ p => (zdu l p).bind fun due p =>
 (zdt l p [102, 105, 110, 101]).bind fun fine p => (zdt l p [112, 97, 121]).bind fun pay p => (zdt l p [99, 111, 118, 101, 114]).bind fun cover p => (zdt l p [104, 111, 108, 100]).bind fun hold p =>
 (zo2 l p).bind fun _ p => .ok ⟨k.1, period, grace, wait, last, order, k.2, backs, voices, jury, fund, lets, due, fine, pay, cover, hold⟩ p
def StopAt (l : List Tok) (p : Nat) (S : List W8) : Prop := ∀ v, v ∉ S -> isB l p v = false
theorem StopAt.head {l p} {w : W8} {b : List W8} (h : Reads l p (w :: b)) : StopAt l p [w] := fun v hv => by
 rw [h.isB]; exact decide_eq_false fun e => hv (by simp [e])
end Go.Proofs.YthnemhfamhnfjaaGreatDoor
namespace Go.Proofs.YthnemhfamhnfjaaGreatDoor
open Go Go.VL
theorem zot {l : List Tok} {p q : Nat} {w : W8} {x : Unit} (h : zgt l p w = .ok x q) : q = p /\ isB l p w = true := by
 unfold zgt at h;split at h
 ·cases h; exact ⟨rfl, by assumption⟩
 ·cases h
def znF (l : List Tok) (p : Nat) (b : Bool) (e : Int) : PR Unit := if b = true then .ok () p else .stop (zbL l p) e
theorem zhH (l : List Tok) (p : Nat) (b : Bool) (e : Int) (i nx : Nat) (hi : i < nx) (hp : p < l.length) (hl : TokOK l) :
  RetX Tryz.prog 42 [.ptr i 0, .u (.bool b), .u (.int .i64 e)] [(i, pOb l p)] nx (PPost l i nx (fun _ => .tup []) (znF l p b e)) := by
 obtain ⟨t, ht⟩ : ∃ t, l[p]? = some t := ⟨_, List.getElem?_eq_getElem hp⟩;have hpa : zbL l p = t.pos := by unfold zbL; rw [ht]
 unfold znF;cases b with
 | true => exact zd0 l p e i nx hi
 | false => rw [if_neg (by simp), hpa]; exact zcS l p t e i nx hi ht hl.len
theorem zlU (l : List Tok) (p : Nat) (w : W8) (i nx : Nat) (hi : i < nx) (hp : p < l.length) (hl : TokOK l) :
  RetX Tryz.prog 42 [.ptr i 0, .u (.bool (isB l p w)), .u (.int .i64 12)] [(i, pOb l p)] nx (PPost l i nx (fun _ => .tup []) (zgt l p w)) := zhH l p (isB l p w) 12 i nx hi hp hl
theorem zpb {l : List Tok} {p q : Nat} {b : Bool} {e : Int} {x : Unit} (h : znF l p b e = .ok x q) : q = p /\ b = true := by
 unfold znF at h;split at h
 ·cases h; exact ⟨rfl, by assumption⟩
 ·cases h
theorem zrs {l : List Tok} {p : Nat} {t : Tok} (ht : l[p]? = some t) (i nx : Nat) (hi : i < nx) (hl : TokOK l) :
  RetX Tryz.prog 42 [.ptr i 0, .u (.bool (decide (t.kind = 0))), .u (.int .i64 12)] [(i, pOb l p)] nx (PPost l i nx (fun _ => .tup []) (zo2 l p)) := by
 have h := zhH l p (decide (t.kind = 0)) 12 i nx hi (lGE.1 ht).1 hl;have e : znF l p (decide (t.kind = 0)) 12 = zo2 l p := by
  unfold znF zo2 zbL;rw [ht];simp
 rwa [e] at h
theorem zr7 {l : List Tok} {p q : Nat} {x : Unit} (h : zo2 l p = .ok x q) : q = p := by
 unfold zo2 at h;split at h
 ·split at h
  ·cases h; rfl
  ·cases h
 ·cases h
theorem zm9 {l : List Tok} {f p : Nat} {acc : List Let} {t : Tok} (ht : l[p + 1]? = some t) : zeQ l (f + 1) p acc = if isB l p [108, 101, 116] = true then
  (znF l p (decide ((acc.length : Int) < 20)) 6).bind fun _ _ => (znF l (p + 1) (decide (t.kind = 1) && zb3 t.text) 12).bind fun _ _ =>
  (znF l (p + 1) (!(acc.any fun x => decide (x.name = t.text))) 5).bind fun _ _ => (zbd l (p + 2) [[61]]).bind fun _ q => (zdu l q).bind fun e r => zeQ l f r (acc ++ [⟨t.text, e⟩])
  else .ok acc p := by
 have hpa : zbL l (p + 1) = t.pos := by unfold zbL; rw [ht]
 rw [zeQ, ht];unfold znF;rw [hpa];by_cases h1 : isB l p [108, 101, 116] = true
 ·rw [if_pos h1, if_pos h1];by_cases h2 : acc.length < 20
  ·rw [if_pos h2, if_pos (by simp; omega), PR.zaB];simp only;by_cases h3 : t.kind = 1 /\ zb3 t.text = true
   ·have e3 : (decide (t.kind = 1) && zb3 t.text) = true := by simp [h3]
    rw [if_pos h3, e3];simp only [if_true, PR.zaB];by_cases h4 : (acc.any fun x => decide (x.name = t.text)) = true
    ·have e4 : (!acc.any fun x => decide (x.name = t.text)) = false := by rw [h4]; rfl
     rw [if_pos h4, e4];rfl
    ·have e4 : (!acc.any fun x => decide (x.name = t.text)) = true := by simpa using h4
     rw [if_neg h4, e4];rfl
   ·have e3 : (decide (t.kind = 1) && zb3 t.text) = false := by simpa using h3
    rw [if_neg h3, e3];rfl
  ·have e2 : decide ((acc.length : Int) < 20) = false := by simp; omega
   rw [if_neg h2, e2];rfl
 ·rw [if_neg h1, if_neg h1]
theorem zoD {l : List Tok} {f p : Nat} {acc : List Let} (h : ¬ isB l p [108, 101, 116] = true) : zeQ l (f + 1) p acc = .ok acc p := by rw [zeQ, if_neg h]
theorem PR.zes {α β γ : Type} {r : PR α} {f : α -> Nat -> PR β} {g : β -> Nat -> PR γ} : (r.bind f).bind g = r.bind fun a p => (f a p).bind g := by cases r <;> rfl
def zds (acc : List Let) : List (List U) := acc.map fun l => [.str l.name, .int .i64 l.body.op, .int .i64 l.body.n, .int .i64 l.body.unit, .str l.body.s, .sl (l.body.args.map Exp.row)]
theorem zkh (acc : List Let) : (zds acc).length = acc.length := by simp [zds]
theorem zic (acc : List Let) (s : W8) (e : Exp) : zds (acc ++ [⟨s, e⟩]) = zds acc ++ [[.str s, .int .i64 e.op, .int .i64 e.n, .int .i64 e.unit, .str e.s, .sl (e.args.map Exp.row)]] := by simp [zds]
abbrev byD (b : By) : D := .u (.agg (zbb b))
end Go.Proofs.YthnemhfamhnfjaaGreatDoor
namespace Go.Proofs.YthnemhfamhnfjaaGreatDoor
open Go Go.VL
theorem Reads.lt {l p} {w : W8} {b : List W8} (h : Reads l p (w :: b)) : p < l.length := by
 obtain ⟨_, t, ht, _⟩ := h.head;exact (lGE.1 ht).1
end Go.Proofs.YthnemhfamhnfjaaGreatDoor
namespace Go.Proofs.YthnemhfamhnfjaaGreatDoor
open Go Go.VL
end Go.Proofs.YthnemhfamhnfjaaGreatDoor
namespace Go.Proofs.YthnemhfamhnfjaaGreatDoor
open Go Go.VL
end Go.Proofs.YthnemhfamhnfjaaGreatDoor
namespace Go.Proofs.YthnemhfamhnfjaaGreatDoor
open Go Go.VL
def NoSemi (ws : List W8) : Prop := ∀ w ∈ ws, w ≠ [59]
theorem NoSemi.nil : NoSemi [] := fun _ h => by cases h
theorem NoSemi.cons {w : W8} {ws : List W8} (h : w ≠ [59]) (h2 : NoSemi ws) : NoSemi (w :: ws) := fun x hx => by
 rcases List.mem_cons.1 hx with rfl | hx
 ·exact h
 ·exact h2 x hx
theorem NoSemi.app {a b : List W8} (h : NoSemi a) (h2 : NoSemi b) : NoSemi (a ++ b) := fun x hx => by
 rcases List.mem_append.1 hx with hx | hx
 ·exact h x hx
 ·exact h2 x hx
end Go.Proofs.YthnemhfamhnfjaaGreatDoor
namespace Go.Proofs.YthnemhfamhnfjaaGreatDoor
open Go Go.VL
def RX (e : Exp) : Prop := ∀ d : Nat, e.lev <= d -> zaP d e = true
end Go.Proofs.YthnemhfamhnfjaaGreatDoor
namespace Go.Proofs.YthnemhfamhnfjaaGreatDoor
open Go Go.VL
end Go.Proofs.YthnemhfamhnfjaaGreatDoor
namespace Go.Proofs.YthnemhfamhnfjaaGreatDoor
open Go Go.VL
end Go.Proofs.YthnemhfamhnfjaaGreatDoor
namespace Go.Proofs.YthnemhfamhnfjaaGreatDoor
open Go Go.VL
def txt (e : Exp) (least : Int) : W8 := zbU (zfB e least)
theorem zbh (w : W8) : zbU [w] = w := by simp [zbU, spW, zlx]
theorem zbR {w : W8} {l : List W8} (h : l ≠ []) : zbU (w :: l) = w ++ [32] ++ zbU l := by
 cases l with
 | nil => exact absurd rfl h
 | cons v l => exact zbr w v l
theorem zkJ {d : Nat} {e : Exp} (h : zaP d e = true) : zcc e ≠ [] := by
 cases d with
 | zero => rw [zaP] at h; cases h
 | succ d =>
  obtain ⟨op, n, u, s, args⟩ := e;rcases zfL h with ⟨rfl, rfl, rfl, hn⟩ | ⟨rfl, rfl, rfl, rfl, hn⟩ | ⟨rfl, rfl, rfl, ha, ⟨rfl, hl⟩ | ⟨rfl, hl⟩ | ⟨g0, g1, g12, g13, g2, g3, hl⟩⟩
  ·rw [zcc, zfM, if_pos rfl, zgR];split <;> simp
  ·rw [zcc, zfM, if_neg (by decide), if_pos rfl]; simp
  ·obtain ⟨a, rfl⟩ := zre hl;rw [zmq]; simp
  ·obtain ⟨a, b, c, rfl⟩ := zrc hl;rw [zpd]; simp
  ·obtain ⟨a, b, rfl⟩ := zrd hl;by_cases h6 : op = 6
   ·subst h6; rw [zmr]; simp
   ·by_cases h7 : op = 7
    ·subst h7; rw [zms]; simp
    ·obtain ⟨o, ho, rfl⟩ := zoi (by omega) (by omega) h6 h7;rw [zmp ho]; simp
theorem zdb {d : Nat} {e : Exp} (h : zaP d e = true) (least : Int) : zfB e least ≠ [] := by
 rw [zfB, zr1];split
 ·simp
 ·exact zkJ h
theorem zgX {d : Nat} {e : Exp} (h : zaP d e = true) {least : Int} (hl : zeS e.op < least) : txt e least = [40, 32] ++ zbU (zcc e) ++ [32, 41] := by
 rw [txt, zfB, zr1, if_pos hl];simp only [List.cons_append];rw [zbR (by simp), zcP _ _ (zkJ h) (by simp), zbh];simp
theorem zda {e : Exp} {least : Int} (hl : ¬ zeS e.op < least) : txt e least = zbU (zcc e) := by
 rw [txt, zfB, zr1, if_neg hl]
theorem zoO {d : Nat} {a b c : Exp} (ha : zaP d a = true) (hb : zaP d b = true) (hc : zaP d c = true) :
  zbU (zcc (.mk 13 0 0 [] [a, b, c])) = [105, 102, 32] ++ txt a 0 ++ [32, 116, 104, 101, 110, 32] ++ txt b 0 ++ [32, 101, 108, 115, 101, 32] ++ txt c 0 := by
 rw [zpd, zbR (by simp), zcP _ _ (zdb ha 0) (by simp), zbR (by simp), zcP _ _ (zdb hb 0) (by simp), zbR (zdb hc 0)];simp [txt]
theorem zl7 {d : Nat} {a : Exp} (ha : zaP d a = true) : zbU (zcc (.mk 12 0 0 [] [a])) = [110, 111, 116, 32] ++ txt a 3 := by
 rw [zmq, zbR (zdb ha 3)];simp [txt]
theorem zl8 {d : Nat} {a b : Exp} (ha : zaP d a = true) (hb : zaP d b = true) : zbU (zcc (.mk 6 0 0 [] [a, b])) = [109, 105, 110, 32, 40, 32] ++ txt a 0 ++ [32, 44, 32] ++ txt b 0 ++ [32, 41] := by
 rw [zmr, zbR (by simp), zbR (by simp), zcP _ _ (zdb ha 0) (by simp), zbR (by simp), zcP _ _ (zdb hb 0) (by simp), zbh];simp [txt]
theorem zl9 {d : Nat} {a b : Exp} (ha : zaP d a = true) (hb : zaP d b = true) : zbU (zcc (.mk 7 0 0 [] [a, b])) = [109, 97, 120, 32, 40, 32] ++ txt a 0 ++ [32, 44, 32] ++ txt b 0 ++ [32, 41] := by
 rw [zms, zbR (by simp), zbR (by simp), zcP _ _ (zdb ha 0) (by simp), zbR (by simp), zcP _ _ (zdb hb 0) (by simp), zbh];simp [txt]
theorem zft {d : Nat} {a b : Exp} {o : Opr} (ho : o ∈ oprs) (ha : zaP d a = true) (hb : zaP d b = true) :
  zbU (zcc (.mk o.op 0 0 [] [a, b])) = txt a (if o.form = 4 then 5 else o.form) ++ [32] ++ o.text ++ [32] ++ txt b (o.form + 1) := by
 rw [zmp ho, zcP _ _ (zdb ha _) (by simp), zbR (zdb hb _)];simp [txt]
def SB : Nat -> Nat
 | 0 => 0
 | d + 1 => 3 * SB d + 200
theorem ziZ {n : Int} (h0 : 0 <= n) (h1 : n <= 1099511627776) : (Lib.itoa n).length <= 13 := by
 rw [Lib.itoa, if_neg (by omega)];have hlt : n.toNat < 10 ^ (12 + 1) := by
  have : (10 : Nat) ^ 13 = 10000000000000 := by decide
  omega
 exact zi8 n.toNat 12 hlt
theorem zon {n u : Int} (h : zra (.mk 0 n u [] []) = true) : (zbU (zgR n u)).length <= 30 := by
 obtain ⟨hu0, hu1, hn0, hn2, hn1⟩ := zoo h;have hi := ziZ hn0 hn2;rw [zgR];split
 ·rw [zbh]; split <;> simp
 ·split
  ·rw [zbr, zbh]; simp; omega
  ·split
   ·rw [zbr, zbh]; simp; omega
   ·split
    ·rw [zbr, zbr, zbh]; simp; omega
    ·rw [zbh]; omega
theorem ziT {s : W8} (h : zb3 s = true) : s.length <= 20 := by
 simp only [zb3, Bool.and_eq_true] at h;have h := h.1;cases s with
 | nil => simp
 | cons c r =>
  simp only [zeX, Bool.and_eq_true, decide_eq_true_eq] at h;exact h.1.2
theorem zok {o : Opr} (ho : o ∈ oprs) : o.text.length <= 3 := by
 simp only [oprs, List.mem_cons, List.not_mem_nil, or_false] at ho;rcases ho with rfl | rfl | rfl | rfl | rfl | rfl | rfl | rfl <;> decide
theorem zmt : ∀ (d : Nat) (e : Exp), zaP d e = true -> (zbU (zcc e)).length + 4 <= SB d
 | 0, e, h => by rw [zaP] at h; cases h
 | d + 1, .mk op n u s args, h => by
  have hx : ∀ x : Exp, zaP d x = true -> ∀ least, (txt x least).length <= SB d := fun x hx least => by
   have h1 := zmt d x hx;by_cases hl : zeS x.op < least
   ·rw [zgX hx hl]; simp; omega
   ·rw [zda hl]; omega
  rw [SB];rcases zfL h with ⟨rfl, rfl, rfl, hn⟩ | ⟨rfl, rfl, rfl, rfl, hn⟩ | ⟨rfl, rfl, rfl, ha, ⟨rfl, hl⟩ | ⟨rfl, hl⟩ | ⟨g0, g1, g12, g13, g2, g3, hl⟩⟩
  ·rw [zcc, zfM, if_pos rfl];have := zon hn;omega
  ·rw [zcc, zfM, if_neg (by decide), if_pos rfl, zbh];have := ziT hn;omega
  ·obtain ⟨a, rfl⟩ := zre hl;have h1 := ha a (by simp);rw [zl7 h1];have := hx a h1 3;simp;omega
  ·obtain ⟨a, b, c, rfl⟩ := zrc hl;have h1 := ha a (by simp);have h2 := ha b (by simp);have h3 := ha c (by simp);rw [zoO h1 h2 h3];have := hx a h1 0;have := hx b h2 0;have := hx c h3 0;simp;omega
  ·obtain ⟨a, b, rfl⟩ := zrd hl;have h1 := ha a (by simp);have h2 := ha b (by simp);by_cases h6 : op = 6
   ·subst h6;rw [zl8 h1 h2];have := hx a h1 0;have := hx b h2 0;simp;omega
   ·by_cases h7 : op = 7
    ·subst h7;rw [zl9 h1 h2];have := hx a h1 0;have := hx b h2 0;simp;omega
    ·obtain ⟨o, ho, rfl⟩ := zoi (by omega) (by omega) h6 h7;rw [zft ho h1 h2];have := hx a h1 (if o.form = 4 then 5 else o.form);have := hx b h2 (o.form + 1);have := zok ho;simp only [List.length_append, List.length_cons, List.length_nil];omega
theorem zsY {d : Nat} (h : d <= 12) : SB d <= 53144000 := by
 have key : ∀ n, n <= 12 -> SB n <= 53144000 := by decide
 exact key d h
theorem zcE {d : Nat} {e : Exp} (h : zaP d e = true) (hd : d <= 12) (least : Int) : (txt e least).length <= 53144000 := by
 have h1 := zmt d e h;have h2 := zsY hd;by_cases hl : zeS e.op < least
 ·rw [zgX h hl]; simp; omega
 ·rw [zda hl]; omega
end Go.Proofs.YthnemhfamhnfjaaGreatDoor
