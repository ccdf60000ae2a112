import Derived.Test.YtepiegcjnaohjaaGreatDoorJ6
set_option linter.all false
set_option maxRecDepth 100000
set_option maxHeartbeats 8000000
namespace Go.Proofs.YtepiegcjnaohjaaGreatDoor
open Go Go.VL
attribute [local simp] HS zdf zcf evPure opd uOf zaI St.put St.at getK binD binI binS binB nilD aggD zgQ zhI lookD lookR zcE Go.VL.nextD zcI zhV zhU zfX zb8 mkV zbo zbh zbf zbe zda zbb zbx zbJ mapEff zdm zfI Key.kk shiftI arith unD convD zdP loadD cellsAt fieldAddrD fieldD indexAddrD indexD sliceD cutD lenD minmaxD nilCheckD buildD fillD zb3 zdi zeX setAll zc1 zeI zcD zg3 zcy St.add zaO zbU rowsOf zdJ zcJ zam zac zaa zbm zcS zaN entry zbH zbL valD zcb zcp zgK zdr zds zcc zbN zaz za1 zbn delAll effD St.effS zc7 zbi za3 zc8 zbj za5 zcn za4 zaT zco zc4 zbM zcl zbw zcj zck zaY mkD zbq zbG zb0 zaz zcC D.ids Op.operands Call.operands zby makeIfD makeFuncD typeAssertD zhG zdG zdH zhb zcG IntKind.bits zcg zaS List.take_of_length_le List.range_succ
attribute [local irreducible] V G H HD HD2 HD4 znh RetX zan Eff CallP CallV EndOK Fun Ret FinOK LoopI LoopW EndW
theorem znK {l : List Tok} (hl : TokOK l) {f p : Nat} {form : Int} (hE : zhS l f) (hp : p < l.length) (hf : 4 * (l.length - p) + 1 <= f)
  (hf0 : form = 0) (h1 : isB l p [105, 102] = true) {i nx : Nat} (hi : i < nx) :
  RetX Tryz.prog 247 [.ptr i 0, zjf form] [(i, pOb l p)] nx (PPost l i nx zj2 (zbS l (f + 1) p form)) := by
 have hne := za0 hi;have hll := hl.len;rw [zbS];have hp2 := zbr hl h1;subst hf0;have hf0 : (0 : Int) = 0 := rfl;have hf3 : (0 : Int) <= 3 := by omega
 have hh1 := fun nx' (h : nx <= nx') => zbt l p [105, 102] i nx' (by omega) hp hl.len;simp only [h1, if_true] at hh1;rw [if_pos ⟨rfl, h1⟩];have ha := fun nx' (h : nx <= nx') => hE (p + 1) 0 i nx' (by omega) hp2 (by omega) (by omega) (by omega);cases hr0 : zeM l f (p + 1) 0 with
 | stop pos e =>
  simp only [hr0] at ha
  (refine RetX.of_bodyW Tryz.func247 rfl (by simp) fun Γ hn hpan => ?_); simp only [entry, ziC, ziN, maC, maN, oA, Tryz.ntmps247]
  repeat' (first
  | ((first | refine zag ?_ | refine zaj ?_ | refine zah ?_ | refine zai ?_ | fail); simp [hne, hf0, hf3, del, nAA])
  | (refine CallP.ok1 (hh1 _ (by first | omega | simp <;> omega | fail)) (by first | (simp [hne, hf0, hf3, del, nAA, zaa, getK, zab, zac]; done) | fail) (by rfl) (by rfl) ?_; (try simp [hne, hf0, hf3, del, nAA]))
  | (refine CallP.zeN (ha _ (by first | omega | simp <;> omega | fail)) (by first | (simp [hne, hf0, hf3, del, nAA, zaa, getK, zab, zac]; done) | fail) (by rfl) (by first | assumption | (simp; done) | fail) (by rfl) (by simp) ?_; rintro ob' ⟨q', rfl⟩; refine ⟨_, Wk.refl _, ?_⟩)
  | fail)
  (refine hpan _ _ ⟨{ n := _, env := [], obs := [(i, pOb l q')], next := nx }, (Wk.cut rfl (by simp [hn]) (by simp [wkO, zaa, getK, zab, zac, Ob.under, D.under, zad, zae, hi, hne, zab, zac, zaa, getK]) (by simp [wkU, zal, zaa, getK, D.under, hi, hne, zab, zac, zaa, getK]) (by simp [wkE, zal, zaa, getK, hi, hne, zab, zac, zaa, getK])), by simp [hn], ?_⟩; try simp)
  exact PPost.zaG (by simp [PR.bind, *])
 | ok v0 q0 =>
  have ha := fun nx' h => zdB (ha nx' h) hr0;obtain ⟨g0a, g0b⟩ := (zcz hl f).1 _ _ _ _ hr0 hp2;have hw1 := fun nx' (h : nx <= nx') => zeO hl [116, 104, 101, 110] (q := q0) (i := i) (nx := nx') (by omega) g0b;cases hr1 : zb7 l q0 [[116, 104, 101, 110]] with
  | stop pos e =>
   simp only [hr1] at hw1
   (refine RetX.of_bodyW Tryz.func247 rfl (by simp) fun Γ hn hpan => ?_); simp only [entry, ziC, ziN, maC, maN, oA, Tryz.ntmps247]
   repeat' (first
  | ((first | refine zag ?_ | refine zaj ?_ | refine zah ?_ | refine zai ?_ | fail); simp [hne, hf0, hf3, del, nAA])
  | (refine CallP.ok1 (hh1 _ (by first | omega | simp <;> omega | fail)) (by first | (simp [hne, hf0, hf3, del, nAA, zaa, getK, zab, zac]; done) | fail) (by rfl) (by rfl) ?_; (try simp [hne, hf0, hf3, del, nAA]))
  | (refine CallP.ok1 (ha _ (by first | omega | simp <;> omega | fail)) (by first | (simp [hne, hf0, hf3, del, nAA, zaa, getK, zab, zac]; done) | fail) (by rfl) (by rfl) ?_; (try simp [hne, hf0, hf3, del, nAA]))
  | (refine CallP.zeN (hw1 _ (by first | omega | simp <;> omega | fail)) (by first | (simp [hne, hf0, hf3, del, nAA, zaa, getK, zab, zac]; done) | fail) (by rfl) (by first | assumption | (simp; done) | fail) (by rfl) (by simp) ?_; rintro ob' ⟨q', rfl⟩; refine ⟨_, Wk.refl _, ?_⟩)
  | (refine zaJ (by first | rfl | fail) ?_; simp [hne, hf0, hf3, del, nAA, frzN, frz1, zaD, zaC, St.frz, St.frzS, frzS, fv, zaV, za8, za9, frzObS, zay, zat, del, frz, zbc])
  | fail)
   (refine hpan _ _ ⟨{ n := _, env := [], obs := [(i, pOb l q')], next := nx }, (Wk.cut rfl (by simp [hn]) (by simp [wkO, zaa, getK, zab, zac, Ob.under, D.under, zad, zae, hi, hne, zab, zac, zaa, getK]) (by simp [wkU, zal, zaa, getK, D.under, hi, hne, zab, zac, zaa, getK]) (by simp [wkE, zal, zaa, getK, hi, hne, zab, zac, zaa, getK])), by simp [hn], ?_⟩; try simp)
   exact PPost.zaG (by simp [PR.bind, *])
  | ok v1 q1 =>
   simp only [hr1] at hw1;obtain ⟨g1a, g1b⟩ := za6 hl _ hr1 g0b;have hb := fun nx' (h : nx <= nx') => hE q1 0 i nx' (by omega) g1b (by omega) (by omega) (by omega);cases hr2 : zeM l f q1 0 with
   | stop pos e =>
    simp only [hr2] at hb
    (refine RetX.of_bodyW Tryz.func247 rfl (by simp) fun Γ hn hpan => ?_); simp only [entry, ziC, ziN, maC, maN, oA, Tryz.ntmps247]
    repeat' (first
  | ((first | refine zag ?_ | refine zaj ?_ | refine zah ?_ | refine zai ?_ | fail); simp [hne, hf0, hf3, del, nAA])
  | (refine CallP.ok1 (hh1 _ (by first | omega | simp <;> omega | fail)) (by first | (simp [hne, hf0, hf3, del, nAA, zaa, getK, zab, zac]; done) | fail) (by rfl) (by rfl) ?_; (try simp [hne, hf0, hf3, del, nAA]))
  | (refine CallP.ok1 (ha _ (by first | omega | simp <;> omega | fail)) (by first | (simp [hne, hf0, hf3, del, nAA, zaa, getK, zab, zac]; done) | fail) (by rfl) (by rfl) ?_; (try simp [hne, hf0, hf3, del, nAA]))
  | (refine CallP.ok1 (hw1 _ (by first | omega | simp <;> omega | fail)) (by first | (simp [hne, hf0, hf3, del, nAA, zaa, getK, zab, zac]; done) | fail) (by rfl) (by rfl) ?_; (try simp [hne, hf0, hf3, del, nAA]))
  | (refine CallP.zeN (hb _ (by first | omega | simp <;> omega | fail)) (by first | (simp [hne, hf0, hf3, del, nAA, zaa, getK, zab, zac]; done) | fail) (by rfl) (by first | assumption | (simp; done) | fail) (by rfl) (by simp) ?_; rintro ob' ⟨q', rfl⟩; refine ⟨_, Wk.refl _, ?_⟩)
  | (refine zaJ (by first | rfl | fail) ?_; simp [hne, hf0, hf3, del, nAA, frzN, frz1, zaD, zaC, St.frz, St.frzS, frzS, fv, zaV, za8, za9, frzObS, zay, zat, del, frz, zbc])
  | fail)
    (refine hpan _ _ ⟨{ n := _, env := [], obs := [(i, pOb l q')], next := nx }, (Wk.cut rfl (by simp [hn]) (by simp [wkO, zaa, getK, zab, zac, Ob.under, D.under, zad, zae, hi, hne, zab, zac, zaa, getK]) (by simp [wkU, zal, zaa, getK, D.under, hi, hne, zab, zac, zaa, getK]) (by simp [wkE, zal, zaa, getK, hi, hne, zab, zac, zaa, getK])), by simp [hn], ?_⟩; try simp)
    exact PPost.zaG (by simp [PR.bind, *])
   | ok v2 q2 =>
    have hb := fun nx' h => zdB (hb nx' h) hr2;obtain ⟨g2a, g2b⟩ := (zcz hl f).1 _ _ _ _ hr2 g1b;have hw2 := fun nx' (h : nx <= nx') => zeO hl [101, 108, 115, 101] (q := q2) (i := i) (nx := nx') (by omega) g2b;cases hr3 : zb7 l q2 [[101, 108, 115, 101]] with
    | stop pos e =>
     simp only [hr3] at hw2
     (refine RetX.of_bodyW Tryz.func247 rfl (by simp) fun Γ hn hpan => ?_); simp only [entry, ziC, ziN, maC, maN, oA, Tryz.ntmps247]
     repeat' (first
  | ((first | refine zag ?_ | refine zaj ?_ | refine zah ?_ | refine zai ?_ | fail); simp [hne, hf0, hf3, del, nAA])
  | (refine CallP.ok1 (hh1 _ (by first | omega | simp <;> omega | fail)) (by first | (simp [hne, hf0, hf3, del, nAA, zaa, getK, zab, zac]; done) | fail) (by rfl) (by rfl) ?_; (try simp [hne, hf0, hf3, del, nAA]))
  | (refine CallP.ok1 (ha _ (by first | omega | simp <;> omega | fail)) (by first | (simp [hne, hf0, hf3, del, nAA, zaa, getK, zab, zac]; done) | fail) (by rfl) (by rfl) ?_; (try simp [hne, hf0, hf3, del, nAA]))
  | (refine CallP.ok1 (hw1 _ (by first | omega | simp <;> omega | fail)) (by first | (simp [hne, hf0, hf3, del, nAA, zaa, getK, zab, zac]; done) | fail) (by rfl) (by rfl) ?_; (try simp [hne, hf0, hf3, del, nAA]))
  | (refine CallP.ok1 (hb _ (by first | omega | simp <;> omega | fail)) (by first | (simp [hne, hf0, hf3, del, nAA, zaa, getK, zab, zac]; done) | fail) (by rfl) (by rfl) ?_; (try simp [hne, hf0, hf3, del, nAA]))
  | (refine CallP.zeN (hw2 _ (by first | omega | simp <;> omega | fail)) (by first | (simp [hne, hf0, hf3, del, nAA, zaa, getK, zab, zac]; done) | fail) (by rfl) (by first | assumption | (simp; done) | fail) (by rfl) (by simp) ?_; rintro ob' ⟨q', rfl⟩; refine ⟨_, Wk.refl _, ?_⟩)
  | (refine zaJ (by first | rfl | fail) ?_; simp [hne, hf0, hf3, del, nAA, frzN, frz1, zaD, zaC, St.frz, St.frzS, frzS, fv, zaV, za8, za9, frzObS, zay, zat, del, frz, zbc])
  | fail)
     (refine hpan _ _ ⟨{ n := _, env := [], obs := [(i, pOb l q')], next := nx }, (Wk.cut rfl (by simp [hn]) (by simp [wkO, zaa, getK, zab, zac, Ob.under, D.under, zad, zae, hi, hne, zab, zac, zaa, getK]) (by simp [wkU, zal, zaa, getK, D.under, hi, hne, zab, zac, zaa, getK]) (by simp [wkE, zal, zaa, getK, hi, hne, zab, zac, zaa, getK])), by simp [hn], ?_⟩; try simp)
     exact PPost.zaG (by simp [PR.bind, *])
    | ok v3 q3 =>
     simp only [hr3] at hw2;obtain ⟨g3a, g3b⟩ := za6 hl _ hr3 g2b;have hc := fun nx' (h : nx <= nx') => hE q3 0 i nx' (by omega) g3b (by omega) (by omega) (by omega);cases hr4 : zeM l f q3 0 with
     | stop pos e =>
      simp only [hr4] at hc
      (refine RetX.of_bodyW Tryz.func247 rfl (by simp) fun Γ hn hpan => ?_); simp only [entry, ziC, ziN, maC, maN, oA, Tryz.ntmps247]
      repeat' (first
  | (refine zgb (fun nx' h' => hc nx' (by simp at h'; omega)) (by first | (simp [hne, hf0, hf3, del, nAA, zaa, getK, zab, zac, zam, zaY]; done) | fail) (by rfl) (by first | assumption | simp) (by rfl) (by simp) ?_ ?_; rintro env' ob' n' hn' ⟨q', rfl⟩; refine ⟨_, Wk.refl _, ?_⟩)
  | (refine zfc rfl (by simp) ?_; simp)
  | ((first | refine zag ?_ | refine zbW rfl ?_ | refine zaj ?_ | refine zah ?_ | refine zai ?_ | fail); simp [hne, hf0, hf3, del, nAA])
  | (refine zgc (hC _ (zdu [i] nx (by simp <;> omega) (by simp <;> omega) (by apply Exists.intro; apply And.intro; (focus (repeat' (first | exact KF.nil | exact KL.nil | apply KF.cons | apply KL.cons 0 rfl | apply KL.cons 1 rfl | apply KL.cons 2 rfl | apply KL.cons 3 rfl | apply KL.cons 4 rfl | apply KL.cons 5 rfl | apply KL.cons 6 rfl | apply KL.cons 7 rfl | apply KL.cons 8 rfl | apply KL.cons 9 rfl))); kernel_rfl))) rfl; done)
  | (refine zbV rfl (by kernel_rfl) (by first | (simp [hn]; done) | (simp [hn]; omega) | fail) fun C k hC hk => ?_; simp [hne, hf0, hf3, del, nAA])
  | (refine CallP.ok1 (hh1 _ (by first | omega | simp <;> omega | fail)) (by first | (simp [hne, hf0, hf3, del, nAA, zaa, getK, zab, zac]; done) | fail) (by rfl) (by rfl) ?_; (try simp [hne, hf0, hf3, del, nAA]))
  | (refine CallP.ok1 (ha _ (by first | omega | simp <;> omega | fail)) (by first | (simp [hne, hf0, hf3, del, nAA, zaa, getK, zab, zac]; done) | fail) (by rfl) (by rfl) ?_; (try simp [hne, hf0, hf3, del, nAA]))
  | (refine CallP.ok1 (hw1 _ (by first | omega | simp <;> omega | fail)) (by first | (simp [hne, hf0, hf3, del, nAA, zaa, getK, zab, zac]; done) | fail) (by rfl) (by rfl) ?_; (try simp [hne, hf0, hf3, del, nAA]))
  | (refine CallP.ok1 (hb _ (by first | omega | simp <;> omega | fail)) (by first | (simp [hne, hf0, hf3, del, nAA, zaa, getK, zab, zac]; done) | fail) (by rfl) (by rfl) ?_; (try simp [hne, hf0, hf3, del, nAA]))
  | (refine CallP.ok1 (hw2 _ (by first | omega | simp <;> omega | fail)) (by first | (simp [hne, hf0, hf3, del, nAA, zaa, getK, zab, zac]; done) | fail) (by rfl) (by rfl) ?_; (try simp [hne, hf0, hf3, del, nAA]))
  | (refine zaJ (by first | rfl | fail) ?_; simp [hne, hf0, hf3, del, nAA, frzN, frz1, zaD, zaC, St.frz, St.frzS, frzS, fv, zaV, za8, za9, frzObS, zay, zat, del, frz, zbc])
  | fail)
      (refine hpan _ _ ⟨{ n := _, env := [], obs := [(i, pOb l q')], next := nx }, (Wk.cut rfl (by simp [hn]) (by simp [wkO, zaa, getK, zab, zac, Ob.under, D.under, zad, zae, hi, hne, zab, zac, zaa, getK]) (by simp [wkU, zal, zaa, getK, D.under, hi, hne, zab, zac, zaa, getK]) (by simp [wkE, zal, zaa, getK, hi, hne, zab, zac, zaa, getK])), by simp [hn], ?_⟩; try simp)
      exact PPost.zaG (by simp [PR.bind, *])
     | ok v4 q4 =>
      have hc := fun nx' h => zdB (hc nx' h) hr4;obtain ⟨g4a, g4b⟩ := (zcz hl f).1 _ _ _ _ hr4 g3b
      (refine RetX.of_bodyW Tryz.func247 rfl (by simp) fun Γ hn hpan => ?_); simp only [entry, ziC, ziN, maC, maN, oA, Tryz.ntmps247]
      repeat' (first
  | (refine zhP (fun nx' h' => hc nx' (by simp at h'; omega)) (by first | (simp [hne, hf0, hf3, del, nAA, zaa, getK, zab, zac, zam, zaY]; done) | fail) (by rfl) (by first | assumption | simp) (by rfl) (by simp [D.under, Ob.under]) (by simp) ?_; (try simp [hne, hf0, hf3, del, nAA]))
  | ((first | refine zag ?_ | refine zbW rfl ?_ | refine zdt rfl ?_ | refine zaj ?_ | refine zah ?_ | refine zai ?_ | fail); simp [hne, hf0, hf3, del, nAA])
  | (refine zcu (hC _ (zdu [i] nx (by simp <;> omega) (by simp <;> omega) (by apply Exists.intro; apply And.intro; (focus (repeat' (first | exact KF.nil | exact KL.nil | apply KF.cons | apply KL.cons 0 rfl | apply KL.cons 1 rfl | apply KL.cons 2 rfl | apply KL.cons 3 rfl | apply KL.cons 4 rfl | apply KL.cons 5 rfl | apply KL.cons 6 rfl | apply KL.cons 7 rfl | apply KL.cons 8 rfl | apply KL.cons 9 rfl))); kernel_rfl))) (hk _ ?_); clear hC hk C k; simp only [zan])
  | (refine zbV rfl (by kernel_rfl) (by first | (simp [hn]; done) | (simp [hn]; omega) | fail) fun C k hC hk => ?_; simp [hne, hf0, hf3, del, nAA])
  | (refine zar ?_; simp only [zan])
  | (refine CallP.ok1 (hh1 _ (by first | omega | simp <;> omega | fail)) (by first | (simp [hne, hf0, hf3, del, nAA, zaa, getK, zab, zac]; done) | fail) (by rfl) (by rfl) ?_; (try simp [hne, hf0, hf3, del, nAA]))
  | (refine CallP.ok1 (ha _ (by first | omega | simp <;> omega | fail)) (by first | (simp [hne, hf0, hf3, del, nAA, zaa, getK, zab, zac]; done) | fail) (by rfl) (by rfl) ?_; (try simp [hne, hf0, hf3, del, nAA]))
  | (refine CallP.ok1 (hw1 _ (by first | omega | simp <;> omega | fail)) (by first | (simp [hne, hf0, hf3, del, nAA, zaa, getK, zab, zac]; done) | fail) (by rfl) (by rfl) ?_; (try simp [hne, hf0, hf3, del, nAA]))
  | (refine CallP.ok1 (hb _ (by first | omega | simp <;> omega | fail)) (by first | (simp [hne, hf0, hf3, del, nAA, zaa, getK, zab, zac]; done) | fail) (by rfl) (by rfl) ?_; (try simp [hne, hf0, hf3, del, nAA]))
  | (refine CallP.ok1 (hw2 _ (by first | omega | simp <;> omega | fail)) (by first | (simp [hne, hf0, hf3, del, nAA, zaa, getK, zab, zac]; done) | fail) (by rfl) (by rfl) ?_; (try simp [hne, hf0, hf3, del, nAA]))
  | (refine zaJ (by first | rfl | fail) ?_; simp [hne, hf0, hf3, del, nAA, frzN, frz1, zaD, zaC, St.frz, St.frzS, frzS, fv, zaV, za8, za9, frzObS, zay, zat, del, frz, zbc])
  | fail)
      (refine EndW.frzN 1 ?_; simp [frzN, frz1, zaD, zaC, St.frz, St.frzS, frzS, fv, zaV, za8, za9, frzObS, zay, zat, del, frz, zbc, hne, nAA])
      refine EndW.norm ?_;simp [St.norm, zbg, zbZ, zcd, zce, hne, nAA]
      (refine EndW.here ?_; (first | (refine EndOK.fin (.inr rfl) ?_) | (refine EndOK.fin (.inl rfl) ?_)); simp [zaK, zaf, Tryz.results247, hne, hi]; refine FinOK.cut [(i, pOb l q4)] (nx) (by simp [zaa, getK, zab, zac, Ob.under, D.under, zad, zae, hne, hi] <;> omega) (by simp [D.under]) (by simp [hn]) ?_; try simp)
      exact PPost.zcQ (by simp [PR.bind, *]; rfl) (by simp [Exp.row_eq, Exp.op, Exp.n, Exp.unit, Exp.s, Exp.args]) rfl
theorem zk3 {l : List Tok} (hl : TokOK l) {f p : Nat} {form : Int} (hE : zhS l f) (hp : p < l.length) (hf : 4 * (l.length - p) + 1 <= f)
  (hf0 : form = 0) (hf3 : form <= 3) (h1 : isB l p [105, 102] = false) (h2 : isB l p [110, 111, 116] = true) {i nx : Nat} (hi : i < nx) :
  RetX Tryz.prog 247 [.ptr i 0, zjf form] [(i, pOb l p)] nx (PPost l i nx zj2 (zbS l (f + 1) p form)) := by
 have hne := za0 hi;have hll := hl.len;rw [zbS];have hh1 := fun nx' (h : nx <= nx') => zbt l p [105, 102] i nx' (by omega) hp hl.len;rw [h1] at hh1;simp only [if_true, Bool.false_eq_true, if_false] at hh1;have hp2 := zbr hl h2;have hh2 := fun nx' (h : nx <= nx') => zbt l p [110, 111, 116] i nx' (by omega) hp hl.len;rw [h2] at hh2;simp only [if_true, Bool.false_eq_true, if_false] at hh2;rw [if_neg (by simp [*]), if_pos ⟨hf3, h2⟩];have ha := fun nx' (h : nx <= nx') => hE (p + 1) 3 i nx' (by omega) hp2 (by omega) (by omega) (by omega);cases hr0 : zeM l f (p + 1) 3 with
 | stop pos e =>
  simp only [hr0] at ha
  (refine RetX.of_bodyW Tryz.func247 rfl (by simp) fun Γ hn hpan => ?_); simp only [entry, ziC, ziN, maC, maN, oA, Tryz.ntmps247]
  repeat' (first
  | ((first | refine zag ?_ | refine zaj ?_ | refine zah ?_ | refine zai ?_ | fail); simp [hne, hf0, hf3, del, nAA])
  | (refine zap ?_; simp only [zan])
  | (refine CallP.ok1 (hh1 _ (by first | omega | simp <;> omega | fail)) (by first | (simp [hne, hf0, hf3, del, nAA, zaa, getK, zab, zac]; done) | fail) (by rfl) (by rfl) ?_; (try simp [hne, hf0, hf3, del, nAA]))
  | (refine CallP.ok1 (hh2 _ (by first | omega | simp <;> omega | fail)) (by first | (simp [hne, hf0, hf3, del, nAA, zaa, getK, zab, zac]; done) | fail) (by rfl) (by rfl) ?_; (try simp [hne, hf0, hf3, del, nAA]))
  | (refine CallP.zeN (ha _ (by first | omega | simp <;> omega | fail)) (by first | (simp [hne, hf0, hf3, del, nAA, zaa, getK, zab, zac]; done) | fail) (by rfl) (by first | assumption | (simp; done) | fail) (by rfl) (by simp) ?_; rintro ob' ⟨q', rfl⟩; refine ⟨_, Wk.refl _, ?_⟩)
  | fail)
  (refine hpan _ _ ⟨{ n := _, env := [], obs := [(i, pOb l q')], next := nx }, (Wk.cut rfl (by simp [hn]) (by simp [wkO, zaa, getK, zab, zac, Ob.under, D.under, zad, zae, hi, hne, zab, zac, zaa, getK]) (by simp [wkU, zal, zaa, getK, D.under, hi, hne, zab, zac, zaa, getK]) (by simp [wkE, zal, zaa, getK, hi, hne, zab, zac, zaa, getK])), by simp [hn], ?_⟩; try simp)
  exact PPost.zaG (by simp [PR.bind, *])
 | ok v0 q0 =>
  have ha := fun nx' h => zdB (ha nx' h) hr0
  (refine RetX.of_bodyW Tryz.func247 rfl (by simp) fun Γ hn hpan => ?_); simp only [entry, ziC, ziN, maC, maN, oA, Tryz.ntmps247]
  repeat' (first
  | ((first | refine zag ?_ | refine zaj ?_ | refine zah ?_ | refine zai ?_ | fail); simp [hne, hf0, hf3, del, nAA])
  | ((first | refine zar ?_ | refine zap ?_ | fail); simp only [zan])
  | (refine CallP.ok1 (hh1 _ (by first | omega | simp <;> omega | fail)) (by first | (simp [hne, hf0, hf3, del, nAA, zaa, getK, zab, zac]; done) | fail) (by rfl) (by rfl) ?_; (try simp [hne, hf0, hf3, del, nAA]))
  | (refine CallP.ok1 (hh2 _ (by first | omega | simp <;> omega | fail)) (by first | (simp [hne, hf0, hf3, del, nAA, zaa, getK, zab, zac]; done) | fail) (by rfl) (by rfl) ?_; (try simp [hne, hf0, hf3, del, nAA]))
  | (refine CallP.ok1 (ha _ (by first | omega | simp <;> omega | fail)) (by first | (simp [hne, hf0, hf3, del, nAA, zaa, getK, zab, zac]; done) | fail) (by rfl) (by rfl) ?_; (try simp [hne, hf0, hf3, del, nAA]))
  | fail)
  (refine EndW.frzN 1 ?_; simp [frzN, frz1, zaD, zaC, St.frz, St.frzS, frzS, fv, zaV, za8, za9, frzObS, zay, zat, del, frz, zbc, hne, nAA])
  refine EndW.norm ?_;simp [St.norm, zbg, zbZ, zcd, zce, hne, nAA]
  (refine EndW.here ?_; (first | (refine EndOK.fin (.inr rfl) ?_) | (refine EndOK.fin (.inl rfl) ?_)); simp [zaK, zaf, Tryz.results247, hne, hi]; refine FinOK.cut [(i, pOb l q0)] (nx) (by simp [zaa, getK, zab, zac, Ob.under, D.under, zad, zae, hne, hi] <;> omega) (by simp [D.under]) (by simp [hn]) ?_; try simp)
  exact PPost.zcQ (by simp [PR.bind, *]; rfl) (by simp [Exp.row_eq, Exp.op, Exp.n, Exp.unit, Exp.s, Exp.args]) rfl
theorem zk2 {l : List Tok} (hl : TokOK l) {f p : Nat} {form : Int} (hE : zhS l f) (hp : p < l.length) (hf : 4 * (l.length - p) + 1 <= f)
  (hf0 : ¬ form = 0) (hf3 : form <= 3) (h2 : isB l p [110, 111, 116] = true) {i nx : Nat} (hi : i < nx) :
  RetX Tryz.prog 247 [.ptr i 0, zjf form] [(i, pOb l p)] nx (PPost l i nx zj2 (zbS l (f + 1) p form)) := by
 have hne := za0 hi;have hll := hl.len;rw [zbS];have hp2 := zbr hl h2;have hh2 := fun nx' (h : nx <= nx') => zbt l p [110, 111, 116] i nx' (by omega) hp hl.len;rw [h2] at hh2;simp only [if_true, Bool.false_eq_true, if_false] at hh2;rw [if_neg (by simp [*]), if_pos ⟨hf3, h2⟩];have ha := fun nx' (h : nx <= nx') => hE (p + 1) 3 i nx' (by omega) hp2 (by omega) (by omega) (by omega);cases hr0 : zeM l f (p + 1) 3 with
 | stop pos e =>
  simp only [hr0] at ha
  (refine RetX.of_bodyW Tryz.func247 rfl (by simp) fun Γ hn hpan => ?_); simp only [entry, ziC, ziN, maC, maN, oA, Tryz.ntmps247]
  repeat' (first
  | ((first | refine zag ?_ | refine zaj ?_ | refine zah ?_ | refine zai ?_ | fail); simp [hne, hf0, hf3, del, nAA])
  | (refine zap ?_; simp only [zan])
  | (refine CallP.ok1 (hh2 _ (by first | omega | simp <;> omega | fail)) (by first | (simp [hne, hf0, hf3, del, nAA, zaa, getK, zab, zac]; done) | fail) (by rfl) (by rfl) ?_; (try simp [hne, hf0, hf3, del, nAA]))
  | (refine CallP.zeN (ha _ (by first | omega | simp <;> omega | fail)) (by first | (simp [hne, hf0, hf3, del, nAA, zaa, getK, zab, zac]; done) | fail) (by rfl) (by first | assumption | (simp; done) | fail) (by rfl) (by simp) ?_; rintro ob' ⟨q', rfl⟩; refine ⟨_, Wk.refl _, ?_⟩)
  | fail)
  (refine hpan _ _ ⟨{ n := _, env := [], obs := [(i, pOb l q')], next := nx }, (Wk.cut rfl (by simp [hn]) (by simp [wkO, zaa, getK, zab, zac, Ob.under, D.under, zad, zae, hi, hne, zab, zac, zaa, getK]) (by simp [wkU, zal, zaa, getK, D.under, hi, hne, zab, zac, zaa, getK]) (by simp [wkE, zal, zaa, getK, hi, hne, zab, zac, zaa, getK])), by simp [hn], ?_⟩; try simp)
  exact PPost.zaG (by simp [PR.bind, *])
 | ok v0 q0 =>
  have ha := fun nx' h => zdB (ha nx' h) hr0
  (refine RetX.of_bodyW Tryz.func247 rfl (by simp) fun Γ hn hpan => ?_); simp only [entry, ziC, ziN, maC, maN, oA, Tryz.ntmps247]
  repeat' (first
  | ((first | refine zag ?_ | refine zaj ?_ | refine zah ?_ | refine zai ?_ | fail); simp [hne, hf0, hf3, del, nAA])
  | ((first | refine zar ?_ | refine zap ?_ | fail); simp only [zan])
  | (refine CallP.ok1 (hh2 _ (by first | omega | simp <;> omega | fail)) (by first | (simp [hne, hf0, hf3, del, nAA, zaa, getK, zab, zac]; done) | fail) (by rfl) (by rfl) ?_; (try simp [hne, hf0, hf3, del, nAA]))
  | (refine CallP.ok1 (ha _ (by first | omega | simp <;> omega | fail)) (by first | (simp [hne, hf0, hf3, del, nAA, zaa, getK, zab, zac]; done) | fail) (by rfl) (by rfl) ?_; (try simp [hne, hf0, hf3, del, nAA]))
  | fail)
  (refine EndW.frzN 1 ?_; simp [frzN, frz1, zaD, zaC, St.frz, St.frzS, frzS, fv, zaV, za8, za9, frzObS, zay, zat, del, frz, zbc, hne, nAA])
  refine EndW.norm ?_;simp [St.norm, zbg, zbZ, zcd, zce, hne, nAA]
  (refine EndW.here ?_; (first | (refine EndOK.fin (.inr rfl) ?_) | (refine EndOK.fin (.inl rfl) ?_)); simp [zaK, zaf, Tryz.results247, hne, hi]; refine FinOK.cut [(i, pOb l q0)] (nx) (by simp [zaa, getK, zab, zac, Ob.under, D.under, zad, zae, hne, hi] <;> omega) (by simp [D.under]) (by simp [hn]) ?_; try simp)
  exact PPost.zcQ (by simp [PR.bind, *]; rfl) (by simp [Exp.row_eq, Exp.op, Exp.n, Exp.unit, Exp.s, Exp.args]) rfl
theorem zjX {l : List Tok} (hl : TokOK l) {f p : Nat} {form : Int} (hP : ziQ l f) (hp : p < l.length) (hf : 4 * (l.length - p) + 1 <= f)
  (hf0 : form = 0) (hf3 : form <= 3) (h1 : isB l p [105, 102] = false) (h2 : isB l p [110, 111, 116] = false) {i nx : Nat} (hi : i < nx) :
  RetX Tryz.prog 247 [.ptr i 0, zjf form] [(i, pOb l p)] nx (PPost l i nx zj2 (zbS l (f + 1) p form)) := by
 have hne := za0 hi;have hll := hl.len;rw [zbS];have hh1 := fun nx' (h : nx <= nx') => zbt l p [105, 102] i nx' (by omega) hp hl.len;rw [h1] at hh1;simp only [if_true, Bool.false_eq_true, if_false] at hh1;have hh2 := fun nx' (h : nx <= nx') => zbt l p [110, 111, 116] i nx' (by omega) hp hl.len;rw [h2] at hh2;simp only [if_true, Bool.false_eq_true, if_false] at hh2;rw [if_neg (by simp [*]), if_neg (by simp [*])];have ha := fun nx' (h : nx <= nx') => hP p i nx' (by omega) hp (by omega);cases hr0 : zbk l f p with
 | stop pos e =>
  simp only [hr0] at ha
  (refine RetX.of_bodyW Tryz.func247 rfl (by simp) fun Γ hn hpan => ?_); simp only [entry, ziC, ziN, maC, maN, oA, Tryz.ntmps247]
  repeat' (first
  | ((first | refine zag ?_ | refine zaj ?_ | refine zah ?_ | refine zai ?_ | fail); simp [hne, hf0, hf3, del, nAA])
  | (refine zap ?_; simp only [zan])
  | (refine CallP.ok1 (hh1 _ (by first | omega | simp <;> omega | fail)) (by first | (simp [hne, hf0, hf3, del, nAA, zaa, getK, zab, zac]; done) | fail) (by rfl) (by rfl) ?_; (try simp [hne, hf0, hf3, del, nAA]))
  | (refine CallP.ok1 (hh2 _ (by first | omega | simp <;> omega | fail)) (by first | (simp [hne, hf0, hf3, del, nAA, zaa, getK, zab, zac]; done) | fail) (by rfl) (by rfl) ?_; (try simp [hne, hf0, hf3, del, nAA]))
  | (refine CallP.zeN (ha _ (by first | omega | simp <;> omega | fail)) (by first | (simp [hne, hf0, hf3, del, nAA, zaa, getK, zab, zac]; done) | fail) (by rfl) (by first | assumption | (simp; done) | fail) (by rfl) (by simp) ?_; rintro ob' ⟨q', rfl⟩; refine ⟨_, Wk.refl _, ?_⟩)
  | fail)
  (refine hpan _ _ ⟨{ n := _, env := [], obs := [(i, pOb l q')], next := nx }, (Wk.cut rfl (by simp [hn]) (by simp [wkO, zaa, getK, zab, zac, Ob.under, D.under, zad, zae, hi, hne, zab, zac, zaa, getK]) (by simp [wkU, zal, zaa, getK, D.under, hi, hne, zab, zac, zaa, getK]) (by simp [wkE, zal, zaa, getK, hi, hne, zab, zac, zaa, getK])), by simp [hn], ?_⟩; try simp)
  exact PPost.zaG (by simp [PR.bind, *])
 | ok v0 q0 =>
  have ha := fun nx' h => zdB (ha nx' h) hr0
  (refine RetX.of_bodyW Tryz.func247 rfl (by simp) fun Γ hn hpan => ?_); simp only [entry, ziC, ziN, maC, maN, oA, Tryz.ntmps247]
  repeat' (first
  | ((first | refine zag ?_ | refine zaj ?_ | refine zah ?_ | refine zai ?_ | fail); simp [hne, hf0, hf3, del, nAA])
  | ((first | refine zar ?_ | refine zap ?_ | fail); simp only [zan])
  | (refine CallP.ok1 (hh1 _ (by first | omega | simp <;> omega | fail)) (by first | (simp [hne, hf0, hf3, del, nAA, zaa, getK, zab, zac]; done) | fail) (by rfl) (by rfl) ?_; (try simp [hne, hf0, hf3, del, nAA]))
  | (refine CallP.ok1 (hh2 _ (by first | omega | simp <;> omega | fail)) (by first | (simp [hne, hf0, hf3, del, nAA, zaa, getK, zab, zac]; done) | fail) (by rfl) (by rfl) ?_; (try simp [hne, hf0, hf3, del, nAA]))
  | (refine CallP.ok1 (ha _ (by first | omega | simp <;> omega | fail)) (by first | (simp [hne, hf0, hf3, del, nAA, zaa, getK, zab, zac]; done) | fail) (by rfl) (by rfl) ?_; (try simp [hne, hf0, hf3, del, nAA]))
  | fail)
  refine EndW.norm ?_;simp [St.norm, zbg, zbZ, zcd, zce, hne, nAA]
  (refine EndW.here ?_; (first | (refine EndOK.fin (.inr rfl) ?_) | (refine EndOK.fin (.inl rfl) ?_)); simp [zaK, zaf, Tryz.results247, hne, hi]; refine FinOK.cut [(i, pOb l q0)] (nx) (by simp [zaa, getK, zab, zac, Ob.under, D.under, zad, zae, hne, hi] <;> omega) (by simp [D.under]) (by simp [hn]) ?_; try simp)
  exact PPost.zcQ (by simp [PR.bind, *]; rfl) (by simp [Exp.row_eq, Exp.op, Exp.n, Exp.unit, Exp.s, Exp.args]) rfl
theorem zjW {l : List Tok} (hl : TokOK l) {f p : Nat} {form : Int} (hP : ziQ l f) (hp : p < l.length) (hf : 4 * (l.length - p) + 1 <= f)
  (hf0 : ¬ form = 0) (hf3 : form <= 3) (h2 : isB l p [110, 111, 116] = false) {i nx : Nat} (hi : i < nx) :
  RetX Tryz.prog 247 [.ptr i 0, zjf form] [(i, pOb l p)] nx (PPost l i nx zj2 (zbS l (f + 1) p form)) := by
 have hne := za0 hi;have hll := hl.len;rw [zbS];have hh2 := fun nx' (h : nx <= nx') => zbt l p [110, 111, 116] i nx' (by omega) hp hl.len;rw [h2] at hh2;simp only [if_true, Bool.false_eq_true, if_false] at hh2;rw [if_neg (by simp [*]), if_neg (by simp [*])];have ha := fun nx' (h : nx <= nx') => hP p i nx' (by omega) hp (by omega);cases hr0 : zbk l f p with
 | stop pos e =>
  simp only [hr0] at ha
  (refine RetX.of_bodyW Tryz.func247 rfl (by simp) fun Γ hn hpan => ?_); simp only [entry, ziC, ziN, maC, maN, oA, Tryz.ntmps247]
  repeat' (first
  | ((first | refine zag ?_ | refine zaj ?_ | refine zah ?_ | refine zai ?_ | fail); simp [hne, hf0, hf3, del, nAA])
  | (refine zap ?_; simp only [zan])
  | (refine CallP.ok1 (hh2 _ (by first | omega | simp <;> omega | fail)) (by first | (simp [hne, hf0, hf3, del, nAA, zaa, getK, zab, zac]; done) | fail) (by rfl) (by rfl) ?_; (try simp [hne, hf0, hf3, del, nAA]))
  | (refine CallP.zeN (ha _ (by first | omega | simp <;> omega | fail)) (by first | (simp [hne, hf0, hf3, del, nAA, zaa, getK, zab, zac]; done) | fail) (by rfl) (by first | assumption | (simp; done) | fail) (by rfl) (by simp) ?_; rintro ob' ⟨q', rfl⟩; refine ⟨_, Wk.refl _, ?_⟩)
  | fail)
  (refine hpan _ _ ⟨{ n := _, env := [], obs := [(i, pOb l q')], next := nx }, (Wk.cut rfl (by simp [hn]) (by simp [wkO, zaa, getK, zab, zac, Ob.under, D.under, zad, zae, hi, hne, zab, zac, zaa, getK]) (by simp [wkU, zal, zaa, getK, D.under, hi, hne, zab, zac, zaa, getK]) (by simp [wkE, zal, zaa, getK, hi, hne, zab, zac, zaa, getK])), by simp [hn], ?_⟩; try simp)
  exact PPost.zaG (by simp [PR.bind, *])
 | ok v0 q0 =>
  have ha := fun nx' h => zdB (ha nx' h) hr0
  (refine RetX.of_bodyW Tryz.func247 rfl (by simp) fun Γ hn hpan => ?_); simp only [entry, ziC, ziN, maC, maN, oA, Tryz.ntmps247]
  repeat' (first
  | ((first | refine zag ?_ | refine zaj ?_ | refine zah ?_ | refine zai ?_ | fail); simp [hne, hf0, hf3, del, nAA])
  | ((first | refine zar ?_ | refine zap ?_ | fail); simp only [zan])
  | (refine CallP.ok1 (hh2 _ (by first | omega | simp <;> omega | fail)) (by first | (simp [hne, hf0, hf3, del, nAA, zaa, getK, zab, zac]; done) | fail) (by rfl) (by rfl) ?_; (try simp [hne, hf0, hf3, del, nAA]))
  | (refine CallP.ok1 (ha _ (by first | omega | simp <;> omega | fail)) (by first | (simp [hne, hf0, hf3, del, nAA, zaa, getK, zab, zac]; done) | fail) (by rfl) (by rfl) ?_; (try simp [hne, hf0, hf3, del, nAA]))
  | fail)
  refine EndW.norm ?_;simp [St.norm, zbg, zbZ, zcd, zce, hne, nAA]
  (refine EndW.here ?_; (first | (refine EndOK.fin (.inr rfl) ?_) | (refine EndOK.fin (.inl rfl) ?_)); simp [zaK, zaf, Tryz.results247, hne, hi]; refine FinOK.cut [(i, pOb l q0)] (nx) (by simp [zaa, getK, zab, zac, Ob.under, D.under, zad, zae, hne, hi] <;> omega) (by simp [D.under]) (by simp [hn]) ?_; try simp)
  exact PPost.zcQ (by simp [PR.bind, *]; rfl) (by simp [Exp.row_eq, Exp.op, Exp.n, Exp.unit, Exp.s, Exp.args]) rfl
theorem zjV {l : List Tok} (hl : TokOK l) {f p : Nat} {form : Int} (hP : ziQ l f) (hp : p < l.length) (hf : 4 * (l.length - p) + 1 <= f)
  (hf0 : ¬ form = 0) (hf3 : ¬ form <= 3) {i nx : Nat} (hi : i < nx) :
  RetX Tryz.prog 247 [.ptr i 0, zjf form] [(i, pOb l p)] nx (PPost l i nx zj2 (zbS l (f + 1) p form)) := by
 have hne := za0 hi;have hll := hl.len;rw [zbS];rw [if_neg (by simp [*]), if_neg (by simp [*])];have ha := fun nx' (h : nx <= nx') => hP p i nx' (by omega) hp (by omega);cases hr0 : zbk l f p with
 | stop pos e =>
  simp only [hr0] at ha
  (refine RetX.of_bodyW Tryz.func247 rfl (by simp) fun Γ hn hpan => ?_); simp only [entry, ziC, ziN, maC, maN, oA, Tryz.ntmps247]
  repeat' (first
  | ((first | refine zag ?_ | refine zaj ?_ | refine zah ?_ | refine zai ?_ | fail); simp [hne, hf0, hf3, del, nAA])
  | (refine zap ?_; simp only [zan])
  | (refine CallP.zeN (ha _ (by first | omega | simp <;> omega | fail)) (by first | (simp [hne, hf0, hf3, del, nAA, zaa, getK, zab, zac]; done) | fail) (by rfl) (by first | assumption | (simp; done) | fail) (by rfl) (by simp) ?_; rintro ob' ⟨q', rfl⟩; refine ⟨_, Wk.refl _, ?_⟩)
  | fail)
  (refine hpan _ _ ⟨{ n := _, env := [], obs := [(i, pOb l q')], next := nx }, (Wk.cut rfl (by simp [hn]) (by simp [wkO, zaa, getK, zab, zac, Ob.under, D.under, zad, zae, hi, hne, zab, zac, zaa, getK]) (by simp [wkU, zal, zaa, getK, D.under, hi, hne, zab, zac, zaa, getK]) (by simp [wkE, zal, zaa, getK, hi, hne, zab, zac, zaa, getK])), by simp [hn], ?_⟩; try simp)
  exact PPost.zaG (by simp [PR.bind, *])
 | ok v0 q0 =>
  have ha := fun nx' h => zdB (ha nx' h) hr0
  (refine RetX.of_bodyW Tryz.func247 rfl (by simp) fun Γ hn hpan => ?_); simp only [entry, ziC, ziN, maC, maN, oA, Tryz.ntmps247]
  repeat' (first
  | ((first | refine zag ?_ | refine zaj ?_ | refine zah ?_ | refine zai ?_ | fail); simp [hne, hf0, hf3, del, nAA])
  | ((first | refine zar ?_ | refine zap ?_ | fail); simp only [zan])
  | (refine CallP.ok1 (ha _ (by first | omega | simp <;> omega | fail)) (by first | (simp [hne, hf0, hf3, del, nAA, zaa, getK, zab, zac]; done) | fail) (by rfl) (by rfl) ?_; (try simp [hne, hf0, hf3, del, nAA]))
  | fail)
  refine EndW.norm ?_;simp [St.norm, zbg, zbZ, zcd, zce, hne, nAA]
  (refine EndW.here ?_; (first | (refine EndOK.fin (.inr rfl) ?_) | (refine EndOK.fin (.inl rfl) ?_)); simp [zaK, zaf, Tryz.results247, hne, hi]; refine FinOK.cut [(i, pOb l q0)] (nx) (by simp [zaa, getK, zab, zac, Ob.under, D.under, zad, zae, hne, hi] <;> omega) (by simp [D.under]) (by simp [hn]) ?_; try simp)
  exact PPost.zcQ (by simp [PR.bind, *]; rfl) (by simp [Exp.row_eq, Exp.op, Exp.n, Exp.unit, Exp.s, Exp.args]) rfl
theorem zk1 {l : List Tok} (hl : TokOK l) {f : Nat} (hE : zhS l f) (hP : ziQ l f) : zrZ l (f + 1) := by
 intro p form i nx hi hp hf hm0 hm7;have hf' : 4 * (l.length - p) + 1 <= f := by omega
 by_cases hf0 : form = 0
 ·have hf3 : form <= 3 := by omega
  cases h1 : isB l p [105, 102] with
  | true => exact znK hl hE hp hf' hf0 h1 hi
  | false =>
   cases h2 : isB l p [110, 111, 116] with
   | true => exact zk3 hl hE hp hf' hf0 hf3 h1 h2 hi
   | false => exact zjX hl hP hp hf' hf0 hf3 h1 h2 hi
 ·by_cases hf3 : form <= 3
  ·cases h2 : isB l p [110, 111, 116] with
   | true => exact zk2 hl hE hp hf' hf0 hf3 h2 hi
   | false => exact zjW hl hP hp hf' hf0 hf3 h2 hi
  ·exact zjV hl hP hp hf' hf0 hf3 hi
theorem zss {l : List Tok} {F : FuncId} {r : PR (Exp × Int)} {e : Exp × Int} {q i nx : Nat} {ds : List D} {obs : List (Nat × Ob)} (h : RetX Tryz.prog F ds obs nx (PPost l i nx zj2 r)) (hr : r = .ok e q) :
  RetX Tryz.prog F ds obs nx fun r o n => r = .val (.tup [.u (.agg [.int .i64 e.1.op, .int .i64 e.1.n, .int .i64 e.1.unit, .str e.1.s, .sl (e.1.args.map Exp.row)]), .u (.int .i64 e.2)]) /\ o = [(i, pOb l q)] /\ n = nx := by
 subst hr;rw [<- Exp.row_eq];exact h
abbrev ztI (e : Exp) : Ob := .box [.u (.int .i64 e.op), .u (.int .i64 e.n), .u (.int .i64 e.unit), .u (.str e.s), .u (.sl (e.args.map Exp.row))]
theorem zp9 {l : List Tok} (hl : TokOK l) {f : Nat} (hE : ∀ g, g < f -> zhS l g) (hP : zrZ l f) : zhS l (f + 1) := by
 intro p form i nx hi hp hf hm0 hm7;have hne := za0 hi;have hll := hl.len;rw [zeM];have ha := fun nx' (h : nx <= nx') => hP p form i nx' (by omega) hp (by omega) hm0 hm7;have hop := zi7;cases hr0 : zbS l f p form with
 | stop pos e =>
  simp only [hr0] at ha
  (refine RetX.of_bodyW Tryz.func203 rfl (by simp) fun Γ hn hpan => ?_); simp only [entry, ziC, ziN, maC, maN, oA, Tryz.ntmps203]
  repeat' (first
  | ((first | refine zag ?_ | refine zaj ?_ | refine zah ?_ | fail); simp [hne, del, nAA])
  | (refine CallP.zeN (ha _ (by first | omega | simp <;> omega | fail)) (by first | (simp [hne, del, nAA, zaa, getK, zab, zac]; done) | fail) (by rfl) (by first | assumption | (simp; done) | fail) (by rfl) (by simp) ?_; rintro ob' ⟨q', rfl⟩; refine ⟨_, Wk.refl _, ?_⟩)
  | fail)
  (refine hpan _ _ ⟨{ n := _, env := [], obs := [(i, pOb l q')], next := nx }, (Wk.cut rfl (by simp [hn]) (by simp [wkO, zaa, getK, zab, zac, Ob.under, D.under, zad, zae, hi, hne, zab, zac, zaa, getK]) (by simp [wkU, zal, zaa, getK, D.under, hi, hne, zab, zac, zaa, getK]) (by simp [wkE, zal, zaa, getK, hi, hne, zab, zac, zaa, getK])), by simp [hn], ?_⟩; try simp)
  exact PPost.zaG (by simp [PR.bind, *])
 | ok v0 q0 =>
  have ha := fun nx' h => zss (ha nx' h) hr0;obtain ⟨g0a, g0b⟩ := (zcz hl f).2.2.1 _ _ _ _ hr0 hp;generalize hR : (PR.ok v0 q0).bind (fun e q => zfu l f form e.1 e.2 q) = R;have hR' : R = zfu l f form v0.1 v0.2 q0 := hR.symm
  (refine RetX.of_bodyW Tryz.func203 rfl (by simp) fun Γ hn hpan => ?_); simp only [entry, ziC, ziN, maC, maN, oA, Tryz.ntmps203]
  repeat' (first
  | ((first | refine zag ?_ | refine zaj ?_ | refine zah ?_ | refine zaA ?_ | fail); simp [hne, del, nAA])
  | (refine CallP.ok1 (ha _ (by first | omega | simp <;> omega | fail)) (by first | (simp [hne, del, nAA, zaa, getK, zab, zac]; done) | fail) (by rfl) (by rfl) ?_; (try simp [hne, del, nAA]))
  | fail)
  refine zb4 (α := { x : Exp × Int × Nat × Nat // x.2.2.1 < l.length /\ 4 * (l.length - x.2.2.1) + 2 <= x.2.2.2 /\ x.2.2.2 <= f /\ R = zfu l x.2.2.2 form x.1 x.2.1 x.2.2.1 }) [0, 1, 2, 4, 5] (fun x => [(6, .u (.int .i64 x.1.2.1))])
   (fun x => [(nx + 2, ztI x.1.1), (nx + 1, .box [.u (.int .i64 0), .u (.int .i64 0), .u (.int .i64 0), .u (.str []), .u .nil]), (nx, .box [.ptr i 0]), (i, pOb l x.1.2.2.1)]) (nx + 3) (fun x => x.1.2.2.2) ⟨(v0.1, v0.2, q0, f), g0b, (by show 4 * (l.length - q0) + 2 <= f; omega), (by show f <= f; omega), hR'⟩ ?_ ?_
  ·have hi3 : i < nx + 3 := by omega
   exact (Wk.cut rfl (by simp [hn, St.lp]) (by simp [wkO, St.lp, zaa, getK, Ob.under, D.under, zad, zae, hi, hi3, hne]) (by simp [wkU, St.lp, zal, zaa, getK, D.under, hi, hi3, hne]) (by simp [wkE, St.lp, zal, zaa, getK, hi, hi3, hne] <;> (try (intros; simp_all; done)) <;> (try (intros; omega)) <;> (try grind)))
  rintro ⟨⟨e, own, q, g⟩, h1, h2, h2b, h3⟩;simp only at h1 h2 h2b h3;simp [St.lp, St.only, zal, zaa, getK];obtain ⟨g, rfl⟩ : ∃ g', g = g' + 1 := ⟨g - 1, by omega⟩;rw [zfu] at h3;have hix := zmR l q h1 hl.len;cases hx : zst l q with
  | none =>
   rw [(zhz oprs 0).1 hx] at hix;rw [hx] at h3
   repeat' (first
  | ((first | refine zag ?_ | refine zaj ?_ | refine zah ?_ | refine zai ?_ | refine zaA ?_ | fail); simp [hne, del, nAA])
  | (refine zar ?_; simp only [zan])
  | (refine CallP.fE (hop) (by first | rfl | fail) (by first | simp [hne, del, nAA] <;> rfl | fail) ?_; (try simp [hne, del, nAA]))
  | (refine CallP.fE (hix) (by first | rfl | fail) (by first | simp [hne, del, nAA] <;> rfl | fail) ?_; (try simp [hne, del, nAA]))
  | fail)
   refine EndW.norm ?_;simp [St.norm, zbg, zbZ, zcd, zce, hne, nAA]
   (refine EndW.here ?_; (first | (refine EndOK.fin (.inr rfl) ?_) | (refine EndOK.fin (.inl rfl) ?_)); simp [zaK, zaf, Tryz.results203, hne, hi]; refine FinOK.cut [(i, pOb l q)] (nx) (by simp [zaa, getK, zab, zac, Ob.under, D.under, zad, zae, hne, hi] <;> omega) (by simp [D.under]) (by simp [hn]) ?_; try simp)
   exact PPost.zcQ h3 (by simp [Exp.row_eq]) rfl
  | some x =>
   obtain ⟨k, hk1, hk2⟩ := (zhz oprs 0).2 x hx;rw [hk2] at hix;rw [hx] at h3;simp only at h3;have hqb := zbr hl (by have := List.find?_some (p := fun o : Opr => isB l q o.text) hx; exact this);have hk0 : ¬ ((k : Int) < 0) := by omega
   have hkl : k < 8 := (lGE.1 hk1).1;rw [show (0 : Int) + k = (k : Int) by omega] at hix;have hfm : 0 <= x.form /\ x.form <= 6 := by
    have := List.mem_of_getElem? hk1;simp only [oprs, List.mem_cons, List.not_mem_nil, or_false] at this;rcases this with rfl | rfl | rfl | rfl | rfl | rfl | rfl | rfl <;> decide
   obtain ⟨hf0, hf6⟩ := hfm;generalize hL : oprs = L at hop hix hk1;by_cases c1 : x.form < form
   ·rw [if_pos (Or.inl c1)] at h3
    repeat' (first
  | ((first | refine zag ?_ | refine zaj ?_ | refine zah ?_ | refine zai ?_ | refine zaA ?_ | fail); simp [hne, del, nAA, hk0, hk1, c1])
  | ((first | refine zar ?_ | refine zap ?_ | fail); simp only [zan])
  | (refine CallP.fE (hop) (by first | rfl | fail) (by first | simp [hne, del, nAA, hk0, hk1, c1] <;> rfl | fail) ?_; (try simp [hne, del, nAA, hk0, hk1, c1]))
  | (refine CallP.fE (hix) (by first | rfl | fail) (by first | simp [hne, del, nAA, hk0, hk1, c1] <;> rfl | fail) ?_; (try simp [hne, del, nAA, hk0, hk1, c1]))
  | fail)
    refine EndW.norm ?_;simp [St.norm, zbg, zbZ, zcd, zce, hne, nAA]
    (refine EndW.here ?_; (first | (refine EndOK.fin (.inr rfl) ?_) | (refine EndOK.fin (.inl rfl) ?_)); simp [zaK, zaf, Tryz.results203, hne, hi]; refine FinOK.cut [(i, pOb l q)] (nx) (by simp [zaa, getK, zab, zac, Ob.under, D.under, zad, zae, hne, hi] <;> omega) (by simp [D.under]) (by simp [hn]) ?_; try simp)
    exact PPost.zcQ h3 (by simp [Exp.row_eq]) rfl
   ·by_cases c2 : own < x.form
    ·rw [if_pos (Or.inr (Or.inl c2))] at h3
     repeat' (first
  | ((first | refine zag ?_ | refine zaj ?_ | refine zah ?_ | refine zai ?_ | refine zaA ?_ | fail); simp [hne, del, nAA, hk0, hk1, c1, c2])
  | ((first | refine zar ?_ | refine zap ?_ | fail); simp only [zan])
  | (refine CallP.fE (hop) (by first | rfl | fail) (by first | simp [hne, del, nAA, hk0, hk1, c1, c2] <;> rfl | fail) ?_; (try simp [hne, del, nAA, hk0, hk1, c1, c2]))
  | (refine CallP.fE (hix) (by first | rfl | fail) (by first | simp [hne, del, nAA, hk0, hk1, c1, c2] <;> rfl | fail) ?_; (try simp [hne, del, nAA, hk0, hk1, c1, c2]))
  | fail)
     refine EndW.norm ?_;simp [St.norm, zbg, zbZ, zcd, zce, hne, nAA]
     (refine EndW.here ?_; (first | (refine EndOK.fin (.inr rfl) ?_) | (refine EndOK.fin (.inl rfl) ?_)); simp [zaK, zaf, Tryz.results203, hne, hi]; refine FinOK.cut [(i, pOb l q)] (nx) (by simp [zaa, getK, zab, zac, Ob.under, D.under, zad, zae, hne, hi] <;> omega) (by simp [D.under]) (by simp [hn]) ?_; try simp)
     exact PPost.zcQ h3 (by simp [Exp.row_eq]) rfl
    ·by_cases c3 : own = 4 /\ x.form = 4
     ·rw [if_pos (Or.inr (Or.inr c3))] at h3;obtain ⟨c4, c5⟩ := c3
      repeat' (first
  | ((first | refine zag ?_ | refine zaj ?_ | refine zah ?_ | refine zai ?_ | refine zaA ?_ | fail); simp [hne, del, nAA, hk0, hk1, c1, c2, c4, c5])
  | ((first | refine zar ?_ | refine zap ?_ | fail); simp only [zan])
  | (refine ⟨?_, by omega⟩)
  | (intro hc <;> (try (exfalso; omega)))
  | (refine CallP.fE (hop) (by first | rfl | fail) (by first | simp [hne, del, nAA, hk0, hk1, c1, c2, c4, c5] <;> rfl | fail) ?_; (try simp [hne, del, nAA, hk0, hk1, c1, c2, c4, c5]))
  | (refine CallP.fE (hix) (by first | rfl | fail) (by first | simp [hne, del, nAA, hk0, hk1, c1, c2, c4, c5] <;> rfl | fail) ?_; (try simp [hne, del, nAA, hk0, hk1, c1, c2, c4, c5]))
  | fail)
      refine EndW.norm ?_;simp [St.norm, zbg, zbZ, zcd, zce, hne, nAA]
      (refine EndW.here ?_; (first | (refine EndOK.fin (.inr rfl) ?_) | (refine EndOK.fin (.inl rfl) ?_)); simp [zaK, zaf, Tryz.results203, hne, hi]; refine FinOK.cut [(i, pOb l q)] (nx) (by simp [zaa, getK, zab, zac, Ob.under, D.under, zad, zae, hne, hi] <;> omega) (by simp [D.under]) (by simp [hn]) ?_; try simp)
      exact PPost.zcQ h3 (by simp [Exp.row_eq]) rfl
     ·rw [if_neg (by rintro (h | h | h) <;> contradiction)] at h3;have hb := fun nx' (h : nx <= nx') => hE g (by omega) (q + 1) (x.form + 1) i nx' (by omega) hqb (by omega) (by omega) (by omega);cases hr1 : zeM l g (q + 1) (x.form + 1) with
      | stop pos err =>
       simp only [hr1] at hb;rw [hr1] at h3;by_cases c4 : own = 4
       ·have c5 : ¬ x.form = 4 := fun h => c3 ⟨c4, h⟩
        repeat' (first
  | (refine zgb (fun nx' h' => hb nx' (by simp at h'; omega)) (by first | (simp [hne, del, nAA, hk0, hk1, c1, c2, c4, c5, zaa, getK, zab, zac, zam, zaY]; done) | fail) (by rfl) (by first | assumption | simp) (by rfl) (by simp) ?_ ?_; rintro env' ob' n' hn' ⟨q', rfl⟩; refine ⟨_, Wk.refl _, ?_⟩)
  | (refine zfc rfl (by simp) ?_; simp)
  | ((first | refine zag ?_ | refine zbW rfl ?_ | refine zaj ?_ | fail); simp [hne, del, nAA, hk0, hk1, c1, c2, c4, c5])
  | (refine ⟨by omega, ?_⟩)
  | ((first | refine zah ?_ | refine zai ?_ | fail); simp [hne, del, nAA, hk0, hk1, c1, c2, c4, c5])
  | (refine zgc (hC _ (zdu [i] nx (by simp <;> omega) (by simp <;> omega) (by apply Exists.intro; apply And.intro; (focus (repeat' (first | exact KF.nil | exact KL.nil | apply KF.cons | apply KL.cons 0 rfl | apply KL.cons 1 rfl | apply KL.cons 2 rfl | apply KL.cons 3 rfl | apply KL.cons 4 rfl | apply KL.cons 5 rfl | apply KL.cons 6 rfl | apply KL.cons 7 rfl | apply KL.cons 8 rfl | apply KL.cons 9 rfl))); kernel_rfl))) rfl; done)
  | (refine zbV rfl (by kernel_rfl) (by first | (simp [hn]; done) | (simp [hn]; omega) | fail) fun C k hC hk => ?_; simp [hne, del, nAA, hk0, hk1, c1, c2, c4, c5])
  | (refine zaA ?_; simp [hne, del, nAA, hk0, hk1, c1, c2, c4, c5])
  | (refine zap ?_; simp only [zan])
  | (refine ⟨?_, by omega⟩)
  | (intro hc <;> (try (exfalso; omega)))
  | (refine CallP.fE (hop) (by first | rfl | fail) (by first | simp [hne, del, nAA, hk0, hk1, c1, c2, c4, c5] <;> rfl | fail) ?_; (try simp [hne, del, nAA, hk0, hk1, c1, c2, c4, c5]))
  | (refine CallP.fE (hix) (by first | rfl | fail) (by first | simp [hne, del, nAA, hk0, hk1, c1, c2, c4, c5] <;> rfl | fail) ?_; (try simp [hne, del, nAA, hk0, hk1, c1, c2, c4, c5]))
  | fail)
        (refine hpan _ _ ⟨{ n := _, env := [], obs := [(i, pOb l q')], next := nx }, (Wk.cut rfl (by simp [hn]) (by simp [wkO, zaa, getK, zab, zac, Ob.under, D.under, zad, zae, hi, hne, zab, zac, zaa, getK]) (by simp [wkU, zal, zaa, getK, D.under, hi, hne, zab, zac, zaa, getK]) (by simp [wkE, zal, zaa, getK, hi, hne, zab, zac, zaa, getK])), by simp [hn], ?_⟩; try simp)
        exact PPost.zaG h3
       ·repeat' (first
  | (refine zgb (fun nx' h' => hb nx' (by simp at h'; omega)) (by first | (simp [hne, del, nAA, hk0, hk1, c1, c2, c4, zaa, getK, zab, zac, zam, zaY]; done) | fail) (by rfl) (by first | assumption | simp) (by rfl) (by simp) ?_ ?_; rintro env' ob' n' hn' ⟨q', rfl⟩; refine ⟨_, Wk.refl _, ?_⟩)
  | (refine zfc rfl (by simp) ?_; simp)
  | ((first | refine zag ?_ | refine zbW rfl ?_ | refine zaj ?_ | fail); simp [hne, del, nAA, hk0, hk1, c1, c2, c4])
  | (refine ⟨by omega, ?_⟩)
  | ((first | refine zah ?_ | refine zai ?_ | fail); simp [hne, del, nAA, hk0, hk1, c1, c2, c4])
  | (refine zgc (hC _ (zdu [i] nx (by simp <;> omega) (by simp <;> omega) (by apply Exists.intro; apply And.intro; (focus (repeat' (first | exact KF.nil | exact KL.nil | apply KF.cons | apply KL.cons 0 rfl | apply KL.cons 1 rfl | apply KL.cons 2 rfl | apply KL.cons 3 rfl | apply KL.cons 4 rfl | apply KL.cons 5 rfl | apply KL.cons 6 rfl | apply KL.cons 7 rfl | apply KL.cons 8 rfl | apply KL.cons 9 rfl))); kernel_rfl))) rfl; done)
  | (refine zbV rfl (by kernel_rfl) (by first | (simp [hn]; done) | (simp [hn]; omega) | fail) fun C k hC hk => ?_; simp [hne, del, nAA, hk0, hk1, c1, c2, c4])
  | (refine zaA ?_; simp [hne, del, nAA, hk0, hk1, c1, c2, c4])
  | (refine zap ?_; simp only [zan])
  | (refine CallP.fE (hop) (by first | rfl | fail) (by first | simp [hne, del, nAA, hk0, hk1, c1, c2, c4] <;> rfl | fail) ?_; (try simp [hne, del, nAA, hk0, hk1, c1, c2, c4]))
  | (refine CallP.fE (hix) (by first | rfl | fail) (by first | simp [hne, del, nAA, hk0, hk1, c1, c2, c4] <;> rfl | fail) ?_; (try simp [hne, del, nAA, hk0, hk1, c1, c2, c4]))
  | fail)
        (refine hpan _ _ ⟨{ n := _, env := [], obs := [(i, pOb l q')], next := nx }, (Wk.cut rfl (by simp [hn]) (by simp [wkO, zaa, getK, zab, zac, Ob.under, D.under, zad, zae, hi, hne, zab, zac, zaa, getK]) (by simp [wkU, zal, zaa, getK, D.under, hi, hne, zab, zac, zaa, getK]) (by simp [wkE, zal, zaa, getK, hi, hne, zab, zac, zaa, getK])), by simp [hn], ?_⟩; try simp)
        exact PPost.zaG h3
      | ok e2 q2 =>
       have hb := fun nx' h => zdB (hb nx' h) hr1;obtain ⟨g1a, g1b⟩ := (zcz hl g).1 _ _ _ _ hr1 hqb;rw [hr1] at h3;by_cases c4 : own = 4
       ·have c5 : ¬ x.form = 4 := fun h => c3 ⟨c4, h⟩
        repeat' (first
  | (refine zhP (fun nx' h' => hb nx' (by simp at h'; omega)) (by first | (simp [hne, del, nAA, hk0, hk1, c1, c2, c4, c5, zaa, getK, zab, zac, zam, zaY]; done) | fail) (by rfl) (by first | assumption | simp) (by rfl) (by simp [D.under, Ob.under]) (by simp) ?_; (try simp [hne, del, nAA, hk0, hk1, c1, c2, c4, c5]))
  | ((first | refine zag ?_ | refine zbW rfl ?_ | refine zdt rfl ?_ | refine zaj ?_ | fail); simp [hne, del, nAA, hk0, hk1, c1, c2, c4, c5])
  | (refine ⟨by omega, ?_⟩)
  | ((first | refine zah ?_ | refine zai ?_ | fail); simp [hne, del, nAA, hk0, hk1, c1, c2, c4, c5])
  | (refine zcu (hC _ (zdu [i] nx (by simp <;> omega) (by simp <;> omega) (by apply Exists.intro; apply And.intro; (focus (repeat' (first | exact KF.nil | exact KL.nil | apply KF.cons | apply KL.cons 0 rfl | apply KL.cons 1 rfl | apply KL.cons 2 rfl | apply KL.cons 3 rfl | apply KL.cons 4 rfl | apply KL.cons 5 rfl | apply KL.cons 6 rfl | apply KL.cons 7 rfl | apply KL.cons 8 rfl | apply KL.cons 9 rfl))); kernel_rfl))) (hk _ ?_); clear hC hk C k; simp only [zan])
  | (refine zbV rfl (by kernel_rfl) (by first | (simp [hn]; done) | (simp [hn]; omega) | fail) fun C k hC hk => ?_; simp [hne, del, nAA, hk0, hk1, c1, c2, c4, c5])
  | ((first | refine zaA ?_ | refine zaq ?_ | fail); simp [hne, del, nAA, hk0, hk1, c1, c2, c4, c5])
  | (refine zap ?_; simp only [zan])
  | (refine ⟨?_, by omega⟩)
  | (intro hc <;> (try (exfalso; omega)))
  | (refine CallP.fE (hop) (by first | rfl | fail) (by first | simp [hne, del, nAA, hk0, hk1, c1, c2, c4, c5] <;> rfl | fail) ?_; (try simp [hne, del, nAA, hk0, hk1, c1, c2, c4, c5]))
  | (refine CallP.fE (hix) (by first | rfl | fail) (by first | simp [hne, del, nAA, hk0, hk1, c1, c2, c4, c5] <;> rfl | fail) ?_; (try simp [hne, del, nAA, hk0, hk1, c1, c2, c4, c5]))
  | fail)
        have hi3 : i < nx + 3 := by omega
        refine LoopW.next ⟨(.mk x.op 0 0 [] [e, e2], x.form, q2, g), g1b, (by show 4 * (l.length - q2) + 2 <= g; omega), (by show g <= f; omega), h3⟩ (by show g < g + 1; omega) ?_
        refine Wk.trans (Wk.frzN 1 _) ?_;simp [hne, nAA, frzN, frz1, zaD, zaC, St.frz, St.frzS, frzS, fv, zaV, za8, za9, frzObS, zay, zat, del, frz, zbc];exact (Wk.cut rfl (by simp [hn, St.lp]) (by simp [wkO, St.lp, zaa, getK, Ob.under, D.under, zad, zae, hi, hi3, hne, Exp.row_eq, Exp.op, Exp.n, Exp.unit, Exp.s, Exp.args]) (by simp [wkU, St.lp, zal, zaa, getK, D.under, hi, hi3, hne, Exp.row_eq, Exp.op, Exp.n, Exp.unit, Exp.s, Exp.args]) (by simp [wkE, St.lp, zal, zaa, getK, hi, hi3, hne, Exp.row_eq, Exp.op, Exp.n, Exp.unit, Exp.s, Exp.args] <;> (try (intros; simp_all; done)) <;> (try (intros; omega)) <;> (try grind)))
       ·repeat' (first
  | (refine zhP (fun nx' h' => hb nx' (by simp at h'; omega)) (by first | (simp [hne, del, nAA, hk0, hk1, c1, c2, c4, zaa, getK, zab, zac, zam, zaY]; done) | fail) (by rfl) (by first | assumption | simp) (by rfl) (by simp [D.under, Ob.under]) (by simp) ?_; (try simp [hne, del, nAA, hk0, hk1, c1, c2, c4]))
  | ((first | refine zag ?_ | refine zbW rfl ?_ | refine zdt rfl ?_ | refine zaj ?_ | fail); simp [hne, del, nAA, hk0, hk1, c1, c2, c4])
  | (refine ⟨by omega, ?_⟩)
  | ((first | refine zah ?_ | refine zai ?_ | fail); simp [hne, del, nAA, hk0, hk1, c1, c2, c4])
  | (refine zcu (hC _ (zdu [i] nx (by simp <;> omega) (by simp <;> omega) (by apply Exists.intro; apply And.intro; (focus (repeat' (first | exact KF.nil | exact KL.nil | apply KF.cons | apply KL.cons 0 rfl | apply KL.cons 1 rfl | apply KL.cons 2 rfl | apply KL.cons 3 rfl | apply KL.cons 4 rfl | apply KL.cons 5 rfl | apply KL.cons 6 rfl | apply KL.cons 7 rfl | apply KL.cons 8 rfl | apply KL.cons 9 rfl))); kernel_rfl))) (hk _ ?_); clear hC hk C k; simp only [zan])
  | (refine zbV rfl (by kernel_rfl) (by first | (simp [hn]; done) | (simp [hn]; omega) | fail) fun C k hC hk => ?_; simp [hne, del, nAA, hk0, hk1, c1, c2, c4])
  | ((first | refine zaA ?_ | refine zaq ?_ | fail); simp [hne, del, nAA, hk0, hk1, c1, c2, c4])
  | (refine zap ?_; simp only [zan])
  | (refine CallP.fE (hop) (by first | rfl | fail) (by first | simp [hne, del, nAA, hk0, hk1, c1, c2, c4] <;> rfl | fail) ?_; (try simp [hne, del, nAA, hk0, hk1, c1, c2, c4]))
  | (refine CallP.fE (hix) (by first | rfl | fail) (by first | simp [hne, del, nAA, hk0, hk1, c1, c2, c4] <;> rfl | fail) ?_; (try simp [hne, del, nAA, hk0, hk1, c1, c2, c4]))
  | fail)
        have hi3 : i < nx + 3 := by omega
        refine LoopW.next ⟨(.mk x.op 0 0 [] [e, e2], x.form, q2, g), g1b, (by show 4 * (l.length - q2) + 2 <= g; omega), (by show g <= f; omega), h3⟩ (by show g < g + 1; omega) ?_
        refine Wk.trans (Wk.frzN 1 _) ?_;simp [hne, nAA, frzN, frz1, zaD, zaC, St.frz, St.frzS, frzS, fv, zaV, za8, za9, frzObS, zay, zat, del, frz, zbc];exact (Wk.cut rfl (by simp [hn, St.lp]) (by simp [wkO, St.lp, zaa, getK, Ob.under, D.under, zad, zae, hi, hi3, hne, Exp.row_eq, Exp.op, Exp.n, Exp.unit, Exp.s, Exp.args]) (by simp [wkU, St.lp, zal, zaa, getK, D.under, hi, hi3, hne, Exp.row_eq, Exp.op, Exp.n, Exp.unit, Exp.s, Exp.args]) (by simp [wkE, St.lp, zal, zaa, getK, hi, hi3, hne, Exp.row_eq, Exp.op, Exp.n, Exp.unit, Exp.s, Exp.args] <;> (try (intros; simp_all; done)) <;> (try (intros; omega)) <;> (try grind)))
theorem zrm (s : List UInt8) (l : List Tok) (nx : Nat) (h : zmF s = .ok l) :
  RetX Tryz.prog 61 [.u (.str s)] [] nx (fun r o n => r = .val (.tup [.ptr nx 0, .u (.int .i64 0), .u (.int .i64 0)]) /\ o = [(nx, pOb l 0)] /\ n = nx + 1) := by
 have h1 := zoa s;rw [h] at h1;simp only [ziy] at h1
 (refine RetX.of_bodyW Tryz.func61 rfl (by simp) fun Γ hn hpan => ?_); simp only [entry, ziC, ziN, maC, maN, oA, Tryz.ntmps61]
 repeat' (first
  | ((first | refine zag ?_ | refine zaj ?_ | refine zah ?_ | fail); simp)
  | (refine zar ?_; simp only [zan])
  | (refine CallP.fE (h1) (by first | rfl | fail) (by first | (simp; done) | (simp; rfl) | fail) ?_; (try simp))
  | fail)
 (refine EndW.here ?_; (first | (refine EndOK.fin (.inr rfl) ?_) | (refine EndOK.fin (.inl rfl) ?_)); simp [zaK, zaf, Tryz.results61]; refine FinOK.here (by simp) ?_; try simp)
theorem zpC (s : List UInt8) (p : Nat) (e : Int) (nx : Nat) (h : zmF s = .error (p, e)) :
  RetX Tryz.prog 61 [.u (.str s)] [] nx (fun r o n => r = .val (.tup [.ptr nx 0, .u (.int .i64 p), .u (.int .i64 e)]) /\ o = [(nx, pOb [] 0)] /\ n = nx + 1) := by
 have h1 := zoa s;rw [h] at h1;simp only [ziy] at h1
 (refine RetX.of_bodyW Tryz.func61 rfl (by simp) fun Γ hn hpan => ?_); simp only [entry, ziC, ziN, maC, maN, oA, Tryz.ntmps61]
 repeat' (first
  | ((first | refine zag ?_ | refine zaj ?_ | refine zah ?_ | fail); simp)
  | (refine zar ?_; simp only [zan])
  | (refine CallP.fE (h1) (by first | rfl | fail) (by first | (simp; done) | (simp; rfl) | fail) ?_; (try simp))
  | fail)
 (refine EndW.here ?_; (first | (refine EndOK.fin (.inr rfl) ?_) | (refine EndOK.fin (.inl rfl) ?_)); simp [zaK, zaf, Tryz.results61]; refine FinOK.here (by simp) ?_; try simp)
theorem zlp (i j nx : Nat) (hi : i < nx) (hj : j < nx) (hij : i ≠ j) (p e : Int) :
  RetX Tryz.prog 63 [.u (.oth .nilIface), .ptr i 0, .ptr j 0] [(i, .box [.u (.int .i64 p)]), (j, .box [.u (.int .i64 e)])] nx
   (fun r o n => r = .val (.u (.bool false)) /\ o = [(i, .box [.u (.int .i64 p)]), (j, .box [.u (.int .i64 e)])] /\ n = nx) := by
 have hne := za0 hi;have hne2 := za0 hj
 (refine RetX.of_bodyW Tryz.func63 rfl (by simp) fun Γ hn hpan => ?_); simp only [entry, ziC, ziN, maC, maN, oA, Tryz.ntmps63]
 repeat' (first
  | ((first | refine zag ?_ | refine zaj ?_ | refine zah ?_ | fail); simp [hne, hne2, hij, Ne.symm hij])
  | fail)
 refine ⟨[.int .i64 0, .int .i64 0], rfl, ?_⟩
 repeat' (first
  | ((first | refine zag ?_ | refine zaj ?_ | refine zah ?_ | refine zai ?_ | fail); simp [hne, hne2, hij, Ne.symm hij])
  | ((first | refine zar ?_ | refine zap ?_ | fail); simp only [zan])
  | fail)
 (refine EndW.here ?_; (first | (refine EndOK.fin (.inr rfl) ?_) | (refine EndOK.fin (.inl rfl) ?_)); simp [zaK, zaf, Tryz.results63, hne, hne2, hij, Ne.symm hij, hi, hj]; refine FinOK.cut [(i, .box [.u (.int .i64 p)]), (j, .box [.u (.int .i64 e)])] (nx) (by simp [zaa, getK, zab, zac, Ob.under, D.under, zad, zae, hne, hne2, hij, Ne.symm hij, hi, hj] <;> omega) (by simp [D.under]) (by simp [hn]) ?_; try simp)
theorem zlo (i j nx : Nat) (hi : i < nx) (hj : j < nx) (hij : i ≠ j) (p e pos err : Int) :
  RetX Tryz.prog 63 [.u (.oth (.iface 194 (.agg #[.int .i64 pos, .int .i64 err]))), .ptr i 0, .ptr j 0] [(i, .box [.u (.int .i64 p)]), (j, .box [.u (.int .i64 e)])] nx
   (fun r o n => r = .val (.u (.bool true)) /\ o = [(i, .box [.u (.int .i64 pos)]), (j, .box [.u (.int .i64 err)])] /\ n = nx) := by
 have hne := za0 hi;have hne2 := za0 hj
 (refine RetX.of_bodyW Tryz.func63 rfl (by simp) fun Γ hn hpan => ?_); simp only [entry, ziC, ziN, maC, maN, oA, Tryz.ntmps63]
 repeat' (first
  | ((first | refine zag ?_ | refine zbW rfl ?_ | refine zdt rfl ?_ | refine zaj ?_ | refine zah ?_ | refine zai ?_ | fail); simp [hne, hne2, hij, Ne.symm hij])
  | (refine zcu (hC _ (zdu [i, j] nx (by simp <;> omega) (by simp <;> omega) (by apply Exists.intro; apply And.intro; (focus (repeat' (first | exact KF.nil | exact KL.nil | apply KF.cons | apply KL.cons 0 rfl | apply KL.cons 1 rfl | apply KL.cons 2 rfl | apply KL.cons 3 rfl | apply KL.cons 4 rfl | apply KL.cons 5 rfl | apply KL.cons 6 rfl | apply KL.cons 7 rfl | apply KL.cons 8 rfl | apply KL.cons 9 rfl))); kernel_rfl))) (hk _ ?_); clear hC hk C k; simp only [zan])
  | (refine zbV rfl (by kernel_rfl) (by first | (simp [hn]; done) | (simp [hn]; omega) | fail) fun C k hC hk => ?_; simp [hne, hne2, hij, Ne.symm hij])
  | ((first | refine zar ?_ | refine zap ?_ | fail); simp only [zan])
  | fail)
 (refine EndW.here ?_; (first | (refine EndOK.fin (.inr rfl) ?_) | (refine EndOK.fin (.inl rfl) ?_)); simp [zaK, zaf, Tryz.results63, hne, hne2, hij, Ne.symm hij, hi, hj]; refine FinOK.cut [(i, .box [.u (.int .i64 pos)]), (j, .box [.u (.int .i64 err)])] (nx) (by simp [zaa, getK, zab, zac, Ob.under, D.under, zad, zae, hne, hne2, hij, Ne.symm hij, hi, hj] <;> omega) (by simp [D.under]) (by simp [hn]) ?_; try simp)
end Go.Proofs.YtepiegcjnaohjaaGreatDoor
namespace Go.VL
open Go
theorem zsO {P : Program} {Γ : Ctx} {c : Code} {s : St} {Q : Exit -> St -> Prop} {x j : Nat} {cells : List U} {rows : List (List U)} (hx : getK s.env x = some (.u (.agg cells))) (hj : cells[j]? = some (.sl rows)) (h : rows.length <= 9223372036854775807 -> V P Γ c s Q) : V P Γ c s Q :=
 zq6 (fun K a w hs => by
  have hr := (hs.getK hx).2;obtain ⟨vs, hl, _, hr⟩ := zez hr;have hr := hr j _ hj;generalize vs.getD j undef = v at hr;cases hr with
  | slE => simp
  | sl _ b o sz c f hc hcx => unfold maxLen at hcx; omega) h
end Go.VL
namespace Go.Proofs.YtepiegcjnaohjaaGreatDoor
open Go Go.VL
attribute [local simp] zdf zcf evPure opd uOf zaI St.put St.at getK binD binI binS binB nilD aggD zgQ zhI lookD lookR zcE Go.VL.nextD zcI zhV zhU zfX zb8 mkV zbo zbh zbf zbe zda zbb zbx zbJ mapEff zdm zfI Key.kk shiftI arith unD convD zdP loadD cellsAt fieldAddrD fieldD indexAddrD indexD sliceD cutD lenD minmaxD nilCheckD buildD fillD zb3 zdi zeX setAll zc1 zeI zcD zg3 zcy St.add zaO zbU rowsOf zdJ zcJ zam zac zaa zbm zcS zaN entry zbH zbL valD zcb zcp zgK zdr zds zcc zbN zaz za1 zbn delAll effD St.effS zc7 zbi za3 zc8 zbj za5 zcn za4 zaT zco zc4 zbM zcl zbw zcj zck zaY mkD zbq zbG zb0 zaz zcC D.ids Op.operands Call.operands zby makeIfD makeFuncD typeAssertD zhG zdG zdH zhb zcG IntKind.bits zcg zaS List.take_of_length_le List.range_succ
attribute [local irreducible] V G H HD HD2 zan Eff CallP CallV EndOK Fun Ret FinOK LoopI LoopW EndW
theorem znO {l : List Tok} (hl : TokOK l) : ∀ f, zhS l f /\ zrZ l f /\ ziQ l f := by
 intro f
 induction f using Nat.strongRecOn with
 | _ f ih =>
  cases f with
  | zero => exact ⟨fun p form i nx _ _ h => by omega, fun p form i nx _ _ h => by omega, fun p i nx _ _ h => by omega⟩
  | succ f =>
   obtain ⟨h1, h2, h3⟩ := ih f (by omega);exact ⟨zp9 hl (fun g hg => (ih g (by omega)).1) h2, zk1 hl h1 h3, zjT hl h1⟩
def Exp.lev : Exp -> Int
 | .mk _ _ _ _ args => (args.map fun e => e.lev).foldl max 0 + 1
theorem Exp.zhT (e : Exp) : e.lev = (e.args.map Exp.lev).foldl max 0 + 1 := by
 cases e with
 | mk op n u s args => rw [Exp.lev]; rfl
theorem zcM : ∀ (l : List Int) (a : Int), a <= l.foldl max a /\ ∀ x ∈ l, x <= l.foldl max a
 | [], a => ⟨by simp, fun x h => by simp at h⟩
 | b :: l, a => by
  obtain ⟨h1, h2⟩ := zcM l (max a b);refine ⟨by simp only [List.foldl_cons]; omega, fun x hx => ?_⟩;rcases List.mem_cons.1 hx with rfl | hx
  ·simp only [List.foldl_cons]; omega
  ·exact h2 x hx
theorem Exp.lev_pos (e : Exp) : 1 <= e.lev := by
 rw [Exp.zhT];have := (zcM (e.args.map Exp.lev) 0).1;omega
theorem Exp.zly {e x : Exp} (h : x ∈ e.args) : SizeOf.sizeOf x < SizeOf.sizeOf e := by
 cases e with
 | mk op n u s args =>
  have := List.sizeOf_lt_of_mem h;simp only [Exp.args] at this;simp only [Exp.mk.sizeOf_spec];omega
theorem zmG : ∀ (n : Nat) (e : Exp), SizeOf.sizeOf e <= n -> e.lev <= 1000000000 -> Fun Tryz.prog 204 [.u (.agg e.row)] (· = .u (.int .i64 e.lev)) := by
 intro n
 induction n with
 | zero =>
  intro e h;cases e with
  | mk op n u s args => simp only [Exp.mk.sizeOf_spec] at h; omega
 | succ n ih =>
  intro e hs he;have hx : ∀ x ∈ e.args, Fun Tryz.prog 204 [.u (.agg [.int .i64 x.op, .int .i64 x.n, .int .i64 x.unit, .str x.s, .sl (x.args.map Exp.row)])] (· = .u (.int .i64 x.lev)) := fun x hx => by
   rw [<- Exp.row_eq];refine ih x (by have := Exp.zly hx; omega) ?_;have := (zcM (e.args.map Exp.lev) 0).2 x.lev (List.mem_map.2 ⟨x, hx, rfl⟩);rw [Exp.zhT] at he;omega
  have hlb : ∀ k, ((e.args.map Exp.lev).take k).foldl max 0 <= 1000000000 := fun k => by
   rw [<- List.map_take];rw [Exp.zhT] at he;have h2 : (e.args.map Exp.lev).foldl max 0 = (e.args.drop k |>.map Exp.lev).foldl max ((e.args.take k |>.map Exp.lev).foldl max 0) := by
    rw [<- List.foldl_append, <- List.map_append, List.take_append_drop]
   have := (zcM (e.args.drop k |>.map Exp.lev) ((e.args.take k |>.map Exp.lev).foldl max 0)).1;omega
  rw [Exp.row_eq, Exp.zhT];generalize hA : e.args = A at *;rw [Exp.zhT, hA] at he
  (refine Fun.of_body Tryz.func204 rfl (by simp) fun Γ hn => ?_); simp only [entry, ziC, ziN, maC, maN, oA, Tryz.ntmps204]
  refine zsO (x := 0) (j := 4) rfl rfl fun hl => ?_;simp at hl
  repeat' (first
  | ((first | refine zag ?_ | refine zaj ?_ | refine zah ?_ | refine zaA ?_ | fail); simp)
  | fail)
  refine zb2 (α := { k : Nat // k <= A.length }) [0, 1, 2, 7, 8] (fun k => [(9, .u (.int .i64 k.1)), (3, .u (.int .i64 (((A.map Exp.lev).take k.1).foldl max 0)))]) (fun k => A.length - k.1) ⟨0, by omega⟩ ?_ ?_
  ·exact (Wk.env rfl rfl rfl (by simp [wkE, St.lp, zal, zaa, getK] <;> (try (intros; simp_all; done)) <;> (try (intros; omega)) <;> (try grind)))
  rintro ⟨k, hk⟩;simp [St.lp, St.only, zal, zaa, getK];rcases hy : A[k]? with _ | y
  ·have hge : A.length <= k := by simpa using hy
   have hb := hlb k;rw [List.take_of_length_le (by simpa using hge : (A.map Exp.lev).length <= k)] at hb ⊢;have hb0 := (zcM (A.map Exp.lev) 0).1;generalize (A.map Exp.lev).foldl max 0 = M at *
   repeat' (first
  | ((first | refine zag ?_ | refine zaj ?_ | fail); simp [hy])
  | (refine ⟨by omega, ?_⟩)
  | (refine zah ?_; simp [hy])
  | (refine zar ?_; simp only [zan])
  | (refine zaZ ?_; simp [zan])
  | (intro hc <;> (try (exfalso; omega)))
  | fail)
   (refine EndOK.val (.inr rfl) ?_; simp [zaK, zaf, zas, Tryz.results204])
  ·have hlt : k < A.length := (lGE.1 hy).1;have hfn := hx y (List.mem_of_getElem? hy);have ht : ((A.map Exp.lev).take (k + 1)).foldl max 0 = max (((A.map Exp.lev).take k).foldl max 0) y.lev := by
    rw [List.take_add_one, List.getElem?_map, hy];simp
   have hb := hlb (k + 1);rw [ht] at hb;have hb0 := (zcM ((A.map Exp.lev).take k) 0).1;generalize hM : ((A.map Exp.lev).take k).foldl max 0 = M at *;have hyp := y.lev_pos
   repeat' (first
  | ((first | refine zag ?_ | refine zaj ?_ | fail); simp [hy, Exp.row_eq])
  | (refine ⟨by omega, ?_⟩)
  | ((first | refine zah ?_ | refine zaq ?_ | fail); simp [hy, Exp.row_eq])
  | (refine zap ?_; simp only [zan])
  | (refine ⟨?_, by omega⟩)
  | (intro hc <;> (try (exfalso; omega)))
  | (refine CallP.fE (hfn) (by first | rfl | fail) (by first | simp [hy, Exp.row_eq] <;> rfl | fail) ?_; (try simp [hy, Exp.row_eq]))
  | fail)
   refine LoopW.next ⟨k + 1, hlt⟩ (by show A.length - (k + 1) < A.length - k; omega) ?_
   exact (Wk.cut rfl (by simp [hn, St.lp]) (by simp [wkO, St.lp, zaa, getK, Ob.under, D.under, zad, zae, ht]) (by simp [wkU, St.lp, zal, zaa, getK, D.under, ht]) (by simp [wkE, St.lp, zal, zaa, getK, ht] <;> (try (intros; simp_all; done)) <;> (try (intros; omega)) <;> (try grind)))
end Go.Proofs.YtepiegcjnaohjaaGreatDoor
namespace Go.Proofs.YtepiegcjnaohjaaGreatDoor
open Go Go.VL
def zqY (l : List Tok) (p : Nat) (least most : Int) : PR Int := match l[p]? with
 | none => .stop 0 0
 | some t => if t.kind = 2 then if least <= t.n /\ t.n <= most then .ok t.n (p + 1) else .stop t.pos 3 else .stop t.pos 12
def zdX (l : List Tok) (p : Nat) (word : W8) (least most : Int) (behind : List W8) : PR Int :=
 if isB l p word = true then (zqY l (p + 1) least most).bind fun n q => (zb7 l q behind).bind fun _ r => .ok n r else .ok 0 p
def zeJ (l : List Tok) (p : Nat) : PR Exp := (zeM l (4 * l.length + 3) p 0).bind fun e q =>
 if isB l q [59] = true then if e.lev <= 12 then .ok e (q + 1) else .stop (zdO l q) 6 else .stop (zdO l q) 12
def zlc (l : List Tok) (p : Nat) : PR (Int × Bool) := (zb7 l p [[99, 105, 114, 99, 108, 101]]).bind fun _ q =>
 if isB l q [114, 111, 116, 97, 116, 105, 110, 103] = true then (zb7 l (q + 1) [[59]]).bind fun _ r => .ok (0, false) r
 else if isB l q [115, 97, 118, 105, 110, 103] = true then (zb7 l (q + 1) [[59]]).bind fun _ r => .ok (2, false) r
 else (zb7 l q [[98, 105, 100, 100, 105, 110, 103]]).bind fun _ r => if isB l r [115, 101, 97, 108, 101, 100] = true then (zb7 l (r + 1) [[59]]).bind fun _ r => .ok (1, true) r else (zb7 l r [[59]]).bind fun _ r => .ok (1, false) r
def ordersW : List W8 := [[106, 111, 105, 110], [100, 114, 97, 119], [110, 101, 101, 100]]
def zhl (l : List Tok) (p : Nat) : PR Int :=
 if isB l p [111, 114, 100, 101, 114] = true then match ordersW.findIdx? fun w => isB l (p + 1) w with
  | some i => (zb7 l (p + 2) [[59]]).bind fun _ r => .ok i r
  | none => .stop (zdO l (p + 1)) 12
 else .ok 0 p
def zht (l : List Tok) : Nat -> Nat -> List Let -> PR (List Let)
 | 0, _, _ => .stop 0 0
 | f + 1, p, acc => if isB l p [108, 101, 116] = true then
   if acc.length < 20 then match l[p + 1]? with
    | none => .stop 0 0
    | some t => if t.kind = 1 ∧ zeA t.text = true then
          if (acc.any fun x => decide (x.name = t.text)) = true then .stop t.pos 5
          else (zb7 l (p + 2) [[61]]).bind fun _ q => (zeJ l q).bind fun e r => zht l f r (acc ++ [⟨t.text, e⟩])
     else .stop t.pos 12
   else .stop (zdO l p) 6
  else .ok acc p
def nothingE : Exp := .mk 0 0 3 [] []
def zd9 (l : List Tok) (p : Nat) (word : W8) : PR Exp := if isB l p word = true then zeJ l (p + 1) else .ok nothingE p
def zk6 (l : List Tok) (p : Nat) (word : W8) : PR Unit := if isB l p word = true then .ok () p else .stop (zdO l p) 12
def zrG (l : List Tok) (p : Nat) : PR Unit := match l[p]? with | some t => if t.kind = 0 then .ok () p else .stop t.pos 12 | none => .stop 0 0
def zqr (l : List Tok) : PR By :=
 (zlc l 0).bind fun k p => (zk6 l p [112, 101, 114, 105, 111, 100]).bind fun _ p => (zdX l p [112, 101, 114, 105, 111, 100] 1 1000 [[100, 97, 121, 115], [59]]).bind fun period p =>
 (zk6 l p [108, 97, 115, 116]).bind fun _ p => (zdX l p [108, 97, 115, 116] 1 1000 [[59]]).bind fun last p =>
 (zdX l p [103, 114, 97, 99, 101] 0 1000 [[100, 97, 121, 115], [59]]).bind fun grace p => (zdX l p [119, 97, 105, 116] 0 1000 [[100, 97, 121, 115], [59]]).bind fun wait p =>
 (zhl l p).bind fun order p => (zdX l p [98, 97, 99, 107, 115] 0 60 [[59]]).bind fun backs p => (zdX l p [118, 111, 105, 99, 101, 115] 0 1000 [[112, 101, 114], [109, 105, 108, 108, 101], [59]]).bind fun voices p =>
 (zdX l p [106, 117, 114, 121] 0 60 [[59]]).bind fun jury p => (zdX l p [102, 117, 110, 100] 0 1000 [[112, 101, 114], [109, 105, 108, 108, 101], [59]]).bind fun fund p =>
 (zht l 21 p []).bind fun lets p => (zb7 l p [[100, 117, 101]]).bind fun _ p => (zeJ l p).bind fun due p =>
 (zd9 l p [102, 105, 110, 101]).bind fun fine p => (zd9 l p [112, 97, 121]).bind fun pay p => (zd9 l p [99, 111, 118, 101, 114]).bind fun cover p => (zd9 l p [104, 111, 108, 100]).bind fun hold p =>
 (zrG l p).bind fun _ p => .ok ⟨k.1, period, grace, wait, last, order, k.2, backs, voices, jury, fund, lets, due, fine, pay, cover, hold⟩ p
def StopAt (l : List Tok) (p : Nat) (S : List W8) : Prop := ∀ v, v ∉ S -> isB l p v = false
theorem StopAt.head {l p} {w : W8} {b : List W8} (h : Reads l p (w :: b)) : StopAt l p [w] := fun v hv => by
 rw [h.isB]; exact decide_eq_false fun e => hv (by simp [e])
theorem StopAt.more {l p} {S T : List W8} (h : StopAt l p S) (hs : ∀ v ∈ S, v ∈ T) : StopAt l p T := fun v hv => h v fun hm => hv (hs v hm)
end Go.Proofs.YtepiegcjnaohjaaGreatDoor
namespace Go.Proofs.YtepiegcjnaohjaaGreatDoor
open Go Go.VL
theorem zn0 {l : List Tok} {p q : Nat} {w : W8} {x : Unit} (h : zk6 l p w = .ok x q) : q = p /\ isB l p w = true := by
 unfold zk6 at h;split at h
 ·cases h; exact ⟨rfl, by assumption⟩
 ·cases h
def zng (l : List Tok) (p : Nat) (b : Bool) (e : Int) : PR Unit := if b = true then .ok () p else .stop (zdO l p) e
theorem zhJ (l : List Tok) (p : Nat) (b : Bool) (e : Int) (i nx : Nat) (hi : i < nx) (hp : p < l.length) (hl : TokOK l) :
  RetX Tryz.prog 123 [.ptr i 0, .u (.bool b), .u (.int .i64 e)] [(i, pOb l p)] nx (PPost l i nx (fun _ => .tup []) (zng l p b e)) := by
 obtain ⟨t, ht⟩ : ∃ t, l[p]? = some t := ⟨_, List.getElem?_eq_getElem hp⟩;have hpa : zdO l p = t.pos := by unfold zdO; rw [ht]
 unfold zng;cases b with
 | true => exact zfq l p e i nx hi
 | false => rw [if_neg (by simp), hpa]; exact zdW l p t e i nx hi ht hl.len
theorem zlN (l : List Tok) (p : Nat) (w : W8) (i nx : Nat) (hi : i < nx) (hp : p < l.length) (hl : TokOK l) :
  RetX Tryz.prog 123 [.ptr i 0, .u (.bool (isB l p w)), .u (.int .i64 12)] [(i, pOb l p)] nx (PPost l i nx (fun _ => .tup []) (zk6 l p w)) := zhJ l p (isB l p w) 12 i nx hi hp hl
theorem zoS {l : List Tok} {p q : Nat} {b : Bool} {e : Int} {x : Unit} (h : zng l p b e = .ok x q) : q = p /\ b = true := by
 unfold zng at h;split at h
 ·cases h; exact ⟨rfl, by assumption⟩
 ·cases h
theorem zrF {l : List Tok} {p : Nat} {t : Tok} (ht : l[p]? = some t) (i nx : Nat) (hi : i < nx) (hl : TokOK l) :
  RetX Tryz.prog 123 [.ptr i 0, .u (.bool (decide (t.kind = 0))), .u (.int .i64 12)] [(i, pOb l p)] nx (PPost l i nx (fun _ => .tup []) (zrG l p)) := by
 have h := zhJ l p (decide (t.kind = 0)) 12 i nx hi (lGE.1 ht).1 hl;have e : zng l p (decide (t.kind = 0)) 12 = zrG l p := by
  unfold zng zrG zdO;rw [ht];simp
 rwa [e] at h
theorem zsE {l : List Tok} {p q : Nat} {x : Unit} (h : zrG l p = .ok x q) : q = p := by
 unfold zrG at h;split at h
 ·split at h
  ·cases h; rfl
  ·cases h
 ·cases h
theorem zmH {l : List Tok} {f p : Nat} {acc : List Let} {t : Tok} (ht : l[p + 1]? = some t) : zht l (f + 1) p acc = if isB l p [108, 101, 116] = true then
  (zng l p (decide ((acc.length : Int) < 20)) 6).bind fun _ _ => (zng l (p + 1) (decide (t.kind = 1) && zeA t.text) 12).bind fun _ _ =>
  (zng l (p + 1) (!(acc.any fun x => decide (x.name = t.text))) 5).bind fun _ _ => (zb7 l (p + 2) [[61]]).bind fun _ q => (zeJ l q).bind fun e r => zht l f r (acc ++ [⟨t.text, e⟩])
  else .ok acc p := by
 have hpa : zdO l (p + 1) = t.pos := by unfold zdO; rw [ht]
 rw [zht, ht];unfold zng;rw [hpa];by_cases h1 : isB l p [108, 101, 116] = true
 ·rw [if_pos h1, if_pos h1];by_cases h2 : acc.length < 20
  ·rw [if_pos h2, if_pos (by simp; omega), PR.bind_ok];simp only;by_cases h3 : t.kind = 1 /\ zeA t.text = true
   ·have e3 : (decide (t.kind = 1) && zeA t.text) = true := by simp [h3]
    rw [if_pos h3, e3];simp only [if_true, PR.bind_ok];by_cases h4 : (acc.any fun x => decide (x.name = t.text)) = true
    ·have e4 : (!acc.any fun x => decide (x.name = t.text)) = false := by rw [h4]; rfl
     rw [if_pos h4, e4];rfl
    ·have e4 : (!acc.any fun x => decide (x.name = t.text)) = true := by simpa using h4
     rw [if_neg h4, e4];rfl
   ·have e3 : (decide (t.kind = 1) && zeA t.text) = false := by simpa using h3
    rw [if_neg h3, e3];rfl
  ·have e2 : decide ((acc.length : Int) < 20) = false := by simp; omega
   rw [if_neg h2, e2];rfl
 ·rw [if_neg h1, if_neg h1]
theorem zof {l : List Tok} {f p : Nat} {acc : List Let} (h : ¬ isB l p [108, 101, 116] = true) : zht l (f + 1) p acc = .ok acc p := by rw [zht, if_neg h]
theorem PR.zer {α β γ : Type} {r : PR α} {f : α -> Nat -> PR β} {g : β -> Nat -> PR γ} : (r.bind f).bind g = r.bind fun a p => (f a p).bind g := by cases r <;> rfl
def zgO (acc : List Let) : List (List U) := acc.map fun l => [.str l.name, .int .i64 l.body.op, .int .i64 l.body.n, .int .i64 l.body.unit, .str l.body.s, .sl (l.body.args.map Exp.row)]
theorem zog (acc : List Let) : (zgO acc).length = acc.length := by simp [zgO]
theorem zmI (acc : List Let) (s : W8) (e : Exp) : zgO (acc ++ [⟨s, e⟩]) = zgO acc ++ [[.str s, .int .i64 e.op, .int .i64 e.n, .int .i64 e.unit, .str e.s, .sl (e.args.map Exp.row)]] := by simp [zgO]
abbrev byD (b : By) : D := .u (.agg (zbu b))
end Go.Proofs.YtepiegcjnaohjaaGreatDoor
namespace Go.Proofs.YtepiegcjnaohjaaGreatDoor
open Go Go.VL
theorem Reads.lt {l p} {w : W8} {b : List W8} (h : Reads l p (w :: b)) : p < l.length := by
 obtain ⟨_, t, ht, _⟩ := h.head;exact (lGE.1 ht).1
end Go.Proofs.YtepiegcjnaohjaaGreatDoor
namespace Go.Proofs.YtepiegcjnaohjaaGreatDoor
open Go Go.VL
end Go.Proofs.YtepiegcjnaohjaaGreatDoor
namespace Go.Proofs.YtepiegcjnaohjaaGreatDoor
open Go Go.VL
end Go.Proofs.YtepiegcjnaohjaaGreatDoor
namespace Go.Proofs.YtepiegcjnaohjaaGreatDoor
open Go Go.VL
def NoSemi (ws : List W8) : Prop := ∀ w ∈ ws, w ≠ [59]
theorem NoSemi.nil : NoSemi [] := fun _ h => by cases h
theorem NoSemi.cons {w : W8} {ws : List W8} (h : w ≠ [59]) (h2 : NoSemi ws) : NoSemi (w :: ws) := fun x hx => by
 rcases List.mem_cons.1 hx with rfl | hx
 ·exact h
 ·exact h2 x hx
theorem NoSemi.app {a b : List W8} (h : NoSemi a) (h2 : NoSemi b) : NoSemi (a ++ b) := fun x hx => by
 rcases List.mem_append.1 hx with hx | hx
 ·exact h x hx
 ·exact h2 x hx
end Go.Proofs.YtepiegcjnaohjaaGreatDoor
namespace Go.Proofs.YtepiegcjnaohjaaGreatDoor
open Go Go.VL
def RX (e : Exp) : Prop := ∀ d : Nat, e.lev <= d -> zbB d e = true
end Go.Proofs.YtepiegcjnaohjaaGreatDoor
namespace Go.Proofs.YtepiegcjnaohjaaGreatDoor
open Go Go.VL
theorem zmC {l : List Tok} {p q : Nat} {a b n : Int} (h : zqY l p a b = .ok n q) : a <= n /\ n <= b := by
 unfold zqY at h;split at h
 ·cases h
 ·split at h
  ·split at h
   ·cases h; assumption
   ·cases h
  ·cases h
theorem zmw {l : List Tok} {p q : Nat} {w : W8} {a b n : Int} {bh : List W8} (h : zdX l p w a b bh = .ok n q) : n = 0 \/ a <= n /\ n <= b := by
 unfold zdX at h;split at h
 ·obtain ⟨m, r, h1, h2⟩ := PR.zaB h;obtain ⟨_, r2, h3, h4⟩ := PR.zaB h2;cases h4;exact .inr (zmC h1)
 ·cases h; exact .inl rfl
end Go.Proofs.YtepiegcjnaohjaaGreatDoor
namespace Go.Proofs.YtepiegcjnaohjaaGreatDoor
open Go Go.VL
attribute [local simp] HS zdf zcf evPure opd uOf zaI St.put St.at getK binD binI binS binB nilD aggD zgQ zhI lookD lookR zcE Go.VL.nextD zcI zhV zhU zfX zb8 mkV zbo zbh zbf zbe zda zbb zbx zbJ mapEff zdm zfI Key.kk shiftI arith unD convD zdP loadD cellsAt fieldAddrD fieldD indexAddrD indexD sliceD cutD lenD minmaxD nilCheckD buildD fillD zb3 zdi zeX setAll zc1 zeI zcD zg3 zcy St.add zaO zbU rowsOf zdJ zcJ zam zac zaa zbm zcS zaN entry zbH zbL valD zcb zcp zgK zdr zds zcc zbN zaz za1 zbn delAll effD St.effS zc7 zbi za3 zc8 zbj za5 zcn za4 zaT zco zc4 zbM zcl zbw zcj zck zaY mkD zbq zbG zb0 zaz zcC D.ids Op.operands Call.operands zby makeIfD makeFuncD typeAssertD zhG zdG zdH zhb zcG IntKind.bits zcg zaS List.take_of_length_le List.range_succ
attribute [local irreducible] V G H HD HD2 HD4 znh RetX zan Eff CallP CallV EndOK Fun Ret FinOK LoopI LoopW EndW
theorem zob {s : List UInt8} : ∀ (f p : Nat) (l : List Tok), zoc f s p = .ok l -> s.length < p + f -> p <= s.length ->
  (∀ (i : Nat) (t : Tok), l[i]? = some t -> t.kind ≠ 0 -> i + 1 < l.length) /\ l.length <= s.length - p + 1 /\ 0 < l.length
 | 0, p, l, _, h2, h3 => by omega
 | f + 1, p, l, h, h2, h3 => by
  rw [zoc] at h;have hle := zdY zcr (s.drop p);rw [List.length_drop] at hle;split at h
  ·cases h;refine ⟨fun i t hi hk => ?_, by simp, by simp⟩;rcases i with _ | i
   ·simp at hi;subst hi;exact absurd rfl hk
   ·simp at hi
  ·rename_i c r hd;have hdl : (s.drop (p + zcT zcr (s.drop p))).length = r.length + 1 := by rw [hd]; rfl
   rw [List.length_drop] at hdl;split at h
   ·cases h
   ·rename_i t ht;obtain ⟨ht1, ht2⟩ := zgn ht;simp only [List.length_cons] at ht2;split at h
    ·cases h
    ·rename_i l' hl';cases h;obtain ⟨g1, g2, g3⟩ := zob f _ l' hl' (by omega) (by omega);refine ⟨fun i t' hi hk => ?_, by simp only [List.length_cons]; omega, by simp⟩;rcases i with _ | i
     ·simp; exact g3
     ·simp only [List.getElem?_cons_succ] at hi;have := g1 i t' hi hk;simp only [List.length_cons];omega
theorem zrr {s : List UInt8} {l : List Tok} (h : zmF s = .ok l) : TokOK l /\ l.length <= 2001 /\ 0 < l.length := by
 unfold zmF at h;split at h
 ·cases h
 ·obtain ⟨g1, g2, g3⟩ := zob _ _ _ h (by omega) (by omega);exact ⟨⟨g1, by omega⟩, by omega, g3⟩
theorem Exp.zkJ {op n u : Int} {s : List UInt8} {args : List Exp} {B : Int} (h : ∀ x ∈ args, x.lev <= B) (h0 : 0 <= B) : (Exp.mk op n u s args).lev <= B + 1 := by
 rw [Exp.zhT];simp only [Exp.args];have : ∀ (l : List Int) (a : Int), a <= B -> (∀ x ∈ l, x <= B) -> l.foldl max a <= B := by
  intro l
  induction l with
  | nil => intro a ha _; exact ha
  | cons b l ih => intro a ha hl; exact ih _ (by have := hl b (by simp); omega) fun x hx => hl x (by simp [hx])
 have := this (args.map Exp.lev) 0 h0 (fun x hx => by obtain ⟨y, hy, rfl⟩ := List.mem_map.1 hx; exact h y hy);omega
theorem zjZ {l : List Tok} : ∀ (f : Nat),
  (∀ p form e q, zeM l f p form = .ok e q -> e.lev <= f * f + 1) /\
  (∀ form e own p e' q, zfu l f form e own p = .ok e' q -> e'.lev <= max e.lev (f * f + 1) + f) /\
  (∀ p form e q, zbS l f p form = .ok e q -> e.1.lev <= f * f + 1) /\
  (∀ p e q, zbk l f p = .ok e q -> e.lev <= f * f + 1)
 | 0 => ⟨fun _ _ _ _ h => by simp [zeM] at h, fun _ _ _ _ _ _ h => by simp [zfu] at h, fun _ _ _ _ h => by simp [zbS] at h, fun _ _ _ h => by simp [zbk] at h⟩
 | f + 1 => by
  obtain ⟨he, hlo, hpr, hpm⟩ := zjZ f;have hsq : ((f + 1 : Nat) : Int) * ((f + 1 : Nat) : Int) = (f : Int) * f + 2 * f + 1 := by
   rw [show ((f + 1 : Nat) : Int) = (f : Int) + 1 by omega, Int.add_mul, Int.mul_add]; omega
  rw [hsq];have h0 : (0 : Int) <= (f : Int) * f := Int.mul_nonneg (by omega) (by omega);generalize hF : (f : Int) * f = F at *;refine ⟨fun p form e q h => ?_, fun form e own p e' q h => ?_, fun p form e q h => ?_, fun p e q h => ?_⟩
  ·rw [zeM] at h;obtain ⟨a, r, h1, h2⟩ := PR.zaB h;have g1 := hpr _ _ _ _ h1;have g2 := hlo _ _ _ _ _ _ h2;omega
  ·rw [zfu] at h;split at h
   ·cases h; omega
   ·split at h
    ·cases h; omega
    ·obtain ⟨a, r, h1, h2⟩ := PR.zaB h;have g1 := he _ _ _ _ h1;have g2 := hlo _ _ _ _ _ _ h2;rename_i x _ _;have g3 := Exp.zkJ (op := x.op) (n := 0) (u := 0) (s := []) (args := [e, a]) (B := max e.lev (F + 1)) (by
      intro y hy;simp only [List.mem_cons, List.not_mem_nil, or_false] at hy;rcases hy with rfl | rfl <;> omega) (by omega)
     omega
  ·rw [zbS] at h;split at h
   ·obtain ⟨a, r, h1, h⟩ := PR.zaB h;obtain ⟨_, r2, h2, h⟩ := PR.zaB h;obtain ⟨b, r3, h3, h⟩ := PR.zaB h;obtain ⟨_, r4, h4, h⟩ := PR.zaB h;obtain ⟨c, r5, h5, h⟩ := PR.zaB h;cases h;have g1 := he _ _ _ _ h1;have g3 := he _ _ _ _ h3;have g5 := he _ _ _ _ h5;have := Exp.zkJ (op := 13) (n := 0) (u := 0) (s := []) (args := [a, b, c]) (B := F + 1) (by
     intro y hy;simp only [List.mem_cons, List.not_mem_nil, or_false] at hy;rcases hy with rfl | rfl | rfl <;> omega) (by omega)
    simp only;omega
   ·split at h
    ·obtain ⟨a, r, h1, h⟩ := PR.zaB h;cases h;have g1 := he _ _ _ _ h1;have := Exp.zkJ (op := 12) (n := 0) (u := 0) (s := []) (args := [a]) (B := F + 1) (by
      intro y hy;simp only [List.mem_cons, List.not_mem_nil, or_false] at hy;rcases hy with rfl; omega) (by omega)
     simp only;omega
    ·obtain ⟨a, r, h1, h⟩ := PR.zaB h;cases h;have g1 := hpm _ _ _ h1;simp only;omega
  ·have leaf : ∀ (op n u : Int) (s : List UInt8), (Exp.mk op n u s []).lev <= F + 2 * f + 1 + 1 := fun op n u s => by
    have := Exp.zkJ (op := op) (n := n) (u := u) (s := s) (args := []) (B := 0) (by simp) (by omega);omega
   rw [zbk] at h;split at h
   ·cases h
   ·split at h
    ·obtain ⟨a, r, h1, h⟩ := PR.zaB h;cases h; exact leaf ..
    split at h
    ·cases h; exact leaf ..
    split at h
    ·cases h; exact leaf ..
    split at h
    ·obtain ⟨_, r2, h2, h⟩ := PR.zaB h;obtain ⟨a, r3, h3, h⟩ := PR.zaB h;obtain ⟨_, r4, h4, h⟩ := PR.zaB h;obtain ⟨b, r5, h5, h⟩ := PR.zaB h;obtain ⟨_, r6, h6, h⟩ := PR.zaB h;have g3 := he _ _ _ _ h3;have g5 := he _ _ _ _ h5;have := Exp.zkJ (op := if isB l p [109, 97, 120] = true then 7 else 6) (n := 0) (u := 0) (s := []) (args := [a, b]) (B := F + 1) (by
      intro y hy;simp only [List.mem_cons, List.not_mem_nil, or_false] at hy;rcases hy with rfl | rfl <;> omega) (by omega)
     cases h;omega
    split at h
    ·obtain ⟨a, r3, h3, h⟩ := PR.zaB h;obtain ⟨_, r4, h4, h⟩ := PR.zaB h;cases h;have g3 := he _ _ _ _ h3;omega
    split at h
    ·cases h; exact leaf ..
    ·cases h
def zsy (l : List Tok) (p : Nat) : Int := match l[p]? with | some t => t.kind | none => 0
def zg6 : Exp := .mk 0 0 0 [] []
theorem zmA (l : List Tok) (p : Nat) (a b : Int) (i nx : Nat) (hi : i < nx) (hp : p < l.length) (hl : TokOK l) :
  RetX Tryz.prog 201 [.ptr i 0, zjf a, zjf b] [(i, pOb l p)] nx (PPost l i nx zjf (zqY l p a b)) := by
 have hne := za0 hi;obtain ⟨t, ht⟩ : ∃ t, l[p]? = some t := ⟨_, List.getElem?_eq_getElem hp⟩;have hnx := zcv l p t ht hl.len;have hll := hl.len;have hc1 := fun e nx' (h : nx <= nx') => zfq l p e i nx' (by omega);have hc2 := fun e nx' (h : nx <= nx') => zdW l p t e i nx' (by omega) ht hl.len;rw [zqY, ht];by_cases hk2 : t.kind = 2
 ·simp only [hk2, if_true];by_cases h1 : a <= t.n
  ·by_cases h2 : t.n <= b
   ·simp only [h1, h2, and_self, if_true]
    (refine RetX.of_bodyW Tryz.func201 rfl (by simp) fun Γ hn hpan => ?_); simp only [entry, ziC, ziN, maC, maN, oA, Tryz.ntmps201]
    repeat' (first
  | ((first | refine zag ?_ | refine zaj ?_ | fail); simp [hne, hk2, h1, h2, del])
  | (refine ⟨by omega, ?_⟩)
  | (refine zah ?_; simp [hne, hk2, h1, h2, del])
  | (refine zar ?_; simp only [zan])
  | (refine CallP.fE (hnx) (by first | rfl | fail) (by first | simp [hne, hk2, h1, h2, del] <;> rfl | fail) ?_; (try simp [hne, hk2, h1, h2, del]))
  | (refine CallP.ok1 (hc1 _ _ (by first | omega | simp <;> omega | fail)) (by first | (simp [hne, hk2, h1, h2, del, zaa, getK, zab, zac]; done) | fail) (by rfl) (by rfl) ?_; (try simp [hne, hk2, h1, h2, del]))
  | fail)
    (refine EndW.here ?_; (first | (refine EndOK.fin (.inr rfl) ?_) | (refine EndOK.fin (.inl rfl) ?_)); simp [zaK, zaf, Tryz.results201, hne, hi]; refine FinOK.cut [(i, pOb l (p + 1))] (nx) (by simp [zaa, getK, zab, zac, Ob.under, D.under, zad, zae, hne, hi] <;> omega) (by simp [D.under]) (by simp [hn]) ?_; try simp)
    exact PPost.zcQ rfl rfl rfl
   ·simp only [h1, h2, and_false, if_false]
    (refine RetX.of_bodyW Tryz.func201 rfl (by simp) fun Γ hn hpan => ?_); simp only [entry, ziC, ziN, maC, maN, oA, Tryz.ntmps201]
    repeat' (first
  | ((first | refine zag ?_ | refine zaj ?_ | refine zah ?_ | fail); simp [hne, hk2, h1, h2, del])
  | (refine CallP.fE (hnx) (by first | rfl | fail) (by first | simp [hne, hk2, h1, h2, del] <;> rfl | fail) ?_; (try simp [hne, hk2, h1, h2, del]))
  | (refine CallP.ok1 (hc1 _ _ (by first | omega | simp <;> omega | fail)) (by first | (simp [hne, hk2, h1, h2, del, zaa, getK, zab, zac]; done) | fail) (by rfl) (by rfl) ?_; (try simp [hne, hk2, h1, h2, del]))
  | (refine CallP.zeN (hc2 _ _ (by first | omega | simp <;> omega | fail)) (by first | (simp [hne, hk2, h1, h2, del, zaa, getK, zab, zac]; done) | fail) (by rfl) (by first | assumption | (simp; done) | fail) (by rfl) (by simp) ?_; rintro ob' ⟨q', rfl⟩; refine ⟨_, Wk.refl _, ?_⟩)
  | fail)
    (refine hpan _ _ ⟨{ n := _, env := [], obs := [(i, pOb l q')], next := nx }, (Wk.cut rfl (by simp [hn]) (by simp [wkO, zaa, getK, zab, zac, Ob.under, D.under, zad, zae, hi, hne, zab, zac, zaa, getK]) (by simp [wkU, zal, zaa, getK, D.under, hi, hne, zab, zac, zaa, getK]) (by simp [wkE, zal, zaa, getK, hi, hne, zab, zac, zaa, getK])), by simp [hn], ?_⟩; try simp)
    exact PPost.zaG (by simp [PR.bind, *])
  ·simp only [h1, false_and, if_false]
   (refine RetX.of_bodyW Tryz.func201 rfl (by simp) fun Γ hn hpan => ?_); simp only [entry, ziC, ziN, maC, maN, oA, Tryz.ntmps201]
   repeat' (first
  | ((first | refine zag ?_ | refine zaj ?_ | refine zah ?_ | fail); simp [hne, hk2, h1, del])
  | (refine CallP.fE (hnx) (by first | rfl | fail) (by first | simp [hne, hk2, h1, del] <;> rfl | fail) ?_; (try simp [hne, hk2, h1, del]))
  | (refine CallP.ok1 (hc1 _ _ (by first | omega | simp <;> omega | fail)) (by first | (simp [hne, hk2, h1, del, zaa, getK, zab, zac]; done) | fail) (by rfl) (by rfl) ?_; (try simp [hne, hk2, h1, del]))
  | (refine CallP.zeN (hc2 _ _ (by first | omega | simp <;> omega | fail)) (by first | (simp [hne, hk2, h1, del, zaa, getK, zab, zac]; done) | fail) (by rfl) (by first | assumption | (simp; done) | fail) (by rfl) (by simp) ?_; rintro ob' ⟨q', rfl⟩; refine ⟨_, Wk.refl _, ?_⟩)
  | fail)
   (refine hpan _ _ ⟨{ n := _, env := [], obs := [(i, pOb l q')], next := nx }, (Wk.cut rfl (by simp [hn]) (by simp [wkO, zaa, getK, zab, zac, Ob.under, D.under, zad, zae, hi, hne, zab, zac, zaa, getK]) (by simp [wkU, zal, zaa, getK, D.under, hi, hne, zab, zac, zaa, getK]) (by simp [wkE, zal, zaa, getK, hi, hne, zab, zac, zaa, getK])), by simp [hn], ?_⟩; try simp)
   exact PPost.zaG (by simp [PR.bind, *])
 ·simp only [hk2, if_false]
  (refine RetX.of_bodyW Tryz.func201 rfl (by simp) fun Γ hn hpan => ?_); simp only [entry, ziC, ziN, maC, maN, oA, Tryz.ntmps201]
  repeat' (first
  | ((first | refine zag ?_ | refine zaj ?_ | refine zah ?_ | fail); simp [hne, hk2, del])
  | (refine CallP.fE (hnx) (by first | rfl | fail) (by first | simp [hne, hk2, del] <;> rfl | fail) ?_; (try simp [hne, hk2, del]))
  | (refine CallP.zeN (hc2 _ _ (by first | omega | simp <;> omega | fail)) (by first | (simp [hne, hk2, del, zaa, getK, zab, zac]; done) | fail) (by rfl) (by first | assumption | (simp; done) | fail) (by rfl) (by simp) ?_; rintro ob' ⟨q', rfl⟩; refine ⟨_, Wk.refl _, ?_⟩)
  | fail)
  (refine hpan _ _ ⟨{ n := _, env := [], obs := [(i, pOb l q')], next := nx }, (Wk.cut rfl (by simp [hn]) (by simp [wkO, zaa, getK, zab, zac, Ob.under, D.under, zad, zae, hi, hne, zab, zac, zaa, getK]) (by simp [wkU, zal, zaa, getK, D.under, hi, hne, zab, zac, zaa, getK]) (by simp [wkE, zal, zaa, getK, hi, hne, zab, zac, zaa, getK])), by simp [hn], ?_⟩; try simp)
  exact PPost.zaG (by simp [PR.bind, *])
theorem znV {l : List Tok} (hl : TokOK l) {p q : Nat} {a b n : Int} (h : zqY l p a b = .ok n q) : p <= q /\ q < l.length := by
 unfold zqY at h;split at h
 ·cases h
 ·rename_i t ht;split at h
  ·rename_i hk2;split at h
   ·cases h;exact ⟨by omega, hl.fin p t ht (by omega)⟩
   ·cases h
  ·cases h
theorem zdZ (l : List Tok) (p : Nat) (w : List UInt8) (a b : Int) (ws : List (List UInt8)) (i nx : Nat) (hi : i < nx) (hp : p < l.length) (hl : TokOK l) (hw : ws.length <= 100) :
  RetX Tryz.prog 125 [.ptr i 0, .u (.str w), zjf a, zjf b, .u (.sl (ws.map fun w => [.str w]))] [(i, pOb l p)] nx (PPost l i nx zjf (zdX l p w a b ws)) := by
 have hne := za0 hi;have hh1 := fun nx' (h : nx <= nx') => zbt l p w i nx' (by omega) hp hl.len;rw [zdX];cases hb : isB l p w with
 | false =>
  simp only [hb, Bool.false_eq_true, if_false] at hh1 ⊢
  (refine RetX.of_bodyW Tryz.func125 rfl (by simp) fun Γ hn hpan => ?_); simp only [entry, ziC, ziN, maC, maN, oA, Tryz.ntmps125]
  repeat' (first
  | ((first | refine zag ?_ | refine zaj ?_ | refine zah ?_ | refine zai ?_ | fail); simp [hne, del])
  | (refine zar ?_; simp only [zan])
  | (refine CallP.ok1 (hh1 _ (by first | omega | simp <;> omega | fail)) (by first | (simp [hne, del, zaa, getK, zab, zac]; done) | fail) (by rfl) (by rfl) ?_; (try simp [hne, del]))
  | fail)
  (refine EndW.here ?_; (first | (refine EndOK.fin (.inr rfl) ?_) | (refine EndOK.fin (.inl rfl) ?_)); simp [zaK, zaf, Tryz.results125, hne, hi]; refine FinOK.cut [(i, pOb l p)] (nx) (by simp [zaa, getK, zab, zac, Ob.under, D.under, zad, zae, hne, hi] <;> omega) (by simp [D.under]) (by simp [hn]) ?_; try simp)
  exact PPost.zcQ rfl rfl rfl
 | true =>
  have hp2 := zbr hl hb;simp only [hb, if_true] at hh1 ⊢;have hn1 := fun nx' (h : nx <= nx') => zmA l (p + 1) a b i nx' (by omega) hp2 hl;cases hr0 : zqY l (p + 1) a b with
  | stop pos e =>
   simp only [hr0] at hn1
   (refine RetX.of_bodyW Tryz.func125 rfl (by simp) fun Γ hn hpan => ?_); simp only [entry, ziC, ziN, maC, maN, oA, Tryz.ntmps125]
   repeat' (first
  | ((first | refine zag ?_ | refine zaj ?_ | refine zah ?_ | refine zai ?_ | fail); simp [hne, del])
  | (refine zap ?_; simp only [zan])
  | (refine CallP.ok1 (hh1 _ (by first | omega | simp <;> omega | fail)) (by first | (simp [hne, del, zaa, getK, zab, zac]; done) | fail) (by rfl) (by rfl) ?_; (try simp [hne, del]))
  | (refine CallP.zeN (hn1 _ (by first | omega | simp <;> omega | fail)) (by first | (simp [hne, del, zaa, getK, zab, zac]; done) | fail) (by rfl) (by first | assumption | (simp; done) | fail) (by rfl) (by simp) ?_; rintro ob' ⟨q', rfl⟩; refine ⟨_, Wk.refl _, ?_⟩)
  | fail)
   (refine hpan _ _ ⟨{ n := _, env := [], obs := [(i, pOb l q')], next := nx }, (Wk.cut rfl (by simp [hn]) (by simp [wkO, zaa, getK, zab, zac, Ob.under, D.under, zad, zae, hi, hne, zab, zac, zaa, getK]) (by simp [wkU, zal, zaa, getK, D.under, hi, hne, zab, zac, zaa, getK]) (by simp [wkE, zal, zaa, getK, hi, hne, zab, zac, zaa, getK])), by simp [hn], ?_⟩; try simp)
   exact PPost.zaG (by simp [PR.bind, *])
  | ok n q0 =>
   simp only [hr0] at hn1;obtain ⟨g0a, g0b⟩ := znV hl hr0;have hw1 := fun nx' (h : nx <= nx') => ziS l q0 ws i nx' (by omega) g0b hl hw;cases hr1 : zb7 l q0 ws with
   | stop pos e =>
    simp only [hr1] at hw1
    (refine RetX.of_bodyW Tryz.func125 rfl (by simp) fun Γ hn hpan => ?_); simp only [entry, ziC, ziN, maC, maN, oA, Tryz.ntmps125]
    repeat' (first
  | ((first | refine zag ?_ | refine zaj ?_ | refine zah ?_ | refine zai ?_ | fail); simp [hne, del])
  | (refine zap ?_; simp only [zan])
  | (refine CallP.ok1 (hh1 _ (by first | omega | simp <;> omega | fail)) (by first | (simp [hne, del, zaa, getK, zab, zac]; done) | fail) (by rfl) (by rfl) ?_; (try simp [hne, del]))
  | (refine CallP.ok1 (hn1 _ (by first | omega | simp <;> omega | fail)) (by first | (simp [hne, del, zaa, getK, zab, zac]; done) | fail) (by rfl) (by rfl) ?_; (try simp [hne, del]))
  | (refine CallP.zeN (hw1 _ (by first | omega | simp <;> omega | fail)) (by first | (simp [hne, del, zaa, getK, zab, zac]; done) | fail) (by rfl) (by first | assumption | (simp; done) | fail) (by rfl) (by simp) ?_; rintro ob' ⟨q', rfl⟩; refine ⟨_, Wk.refl _, ?_⟩)
  | fail)
    (refine hpan _ _ ⟨{ n := _, env := [], obs := [(i, pOb l q')], next := nx }, (Wk.cut rfl (by simp [hn]) (by simp [wkO, zaa, getK, zab, zac, Ob.under, D.under, zad, zae, hi, hne, zab, zac, zaa, getK]) (by simp [wkU, zal, zaa, getK, D.under, hi, hne, zab, zac, zaa, getK]) (by simp [wkE, zal, zaa, getK, hi, hne, zab, zac, zaa, getK])), by simp [hn], ?_⟩; try simp)
    exact PPost.zaG (by simp [PR.bind, *])
   | ok u q =>
    simp only [hr1] at hw1
    (refine RetX.of_bodyW Tryz.func125 rfl (by simp) fun Γ hn hpan => ?_); simp only [entry, ziC, ziN, maC, maN, oA, Tryz.ntmps125]
    repeat' (first
  | ((first | refine zag ?_ | refine zaj ?_ | refine zah ?_ | refine zai ?_ | fail); simp [hne, del])
  | ((first | refine zar ?_ | refine zap ?_ | fail); simp only [zan])
  | (refine CallP.ok1 (hh1 _ (by first | omega | simp <;> omega | fail)) (by first | (simp [hne, del, zaa, getK, zab, zac]; done) | fail) (by rfl) (by rfl) ?_; (try simp [hne, del]))
  | (refine CallP.ok1 (hn1 _ (by first | omega | simp <;> omega | fail)) (by first | (simp [hne, del, zaa, getK, zab, zac]; done) | fail) (by rfl) (by rfl) ?_; (try simp [hne, del]))
  | (refine CallP.ok1 (hw1 _ (by first | omega | simp <;> omega | fail)) (by first | (simp [hne, del, zaa, getK, zab, zac]; done) | fail) (by rfl) (by rfl) ?_; (try simp [hne, del]))
  | fail)
    (refine EndW.here ?_; (first | (refine EndOK.fin (.inr rfl) ?_) | (refine EndOK.fin (.inl rfl) ?_)); simp [zaK, zaf, Tryz.results125, hne, hi]; refine FinOK.cut [(i, pOb l q)] (nx) (by simp [zaa, getK, zab, zac, Ob.under, D.under, zad, zae, hne, hi] <;> omega) (by simp [D.under]) (by simp [hn]) ?_; try simp)
    exact PPost.zcQ (by simp [PR.bind, *]) rfl rfl
theorem zd0 {l : List Tok} (hl : TokOK l) {p q : Nat} {w : List UInt8} {a b n : Int} {ws : List (List UInt8)} (h : zdX l p w a b ws = .ok n q) (hp : p < l.length) : p <= q /\ q < l.length := by
 unfold zdX at h;split at h
 ·obtain ⟨m, r, h1, h⟩ := PR.zaB h;have g1 := znV hl h1;obtain ⟨m2, r2, h2, h⟩ := PR.zaB h;have g2 := za6 hl _ h2 g1.2;cases h;exact ⟨by omega, g2.2⟩
 ·cases h; exact ⟨by omega, hp⟩
theorem zg7 (l : List Tok) (p : Nat) (i nx : Nat) (hi : i < nx) (hp : p < l.length) (hl : TokOK l) (hl2 : l.length <= 2001) :
  RetX Tryz.prog 130 [.ptr i 0] [(i, pOb l p)] nx (PPost l i nx zeP (zeJ l p)) := by
 have hne := za0 hi;have hll := hl.len;rw [zeJ];have hE := fun nx' (h : nx <= nx') => (znO hl (4 * l.length + 3)).1 p 0 i nx' (by omega) hp (by omega) (by omega) (by omega);cases hr : zeM l (4 * l.length + 3) p 0 with
 | stop pos e =>
  simp only [hr] at hE
  (refine RetX.of_bodyW Tryz.func130 rfl (by simp) fun Γ hn hpan => ?_); simp only [entry, ziC, ziN, maC, maN, oA, Tryz.ntmps130]
  repeat' (first
  | ((first | refine zag ?_ | refine zaj ?_ | refine zah ?_ | fail); simp [hne, del])
  | (refine CallP.zeN (hE _ (by first | omega | simp <;> omega | fail)) (by first | (simp [hne, del, zaa, getK, zab, zac]; done) | fail) (by rfl) (by first | assumption | (simp; done) | fail) (by rfl) (by simp) ?_; rintro ob' ⟨q', rfl⟩; refine ⟨_, Wk.refl _, ?_⟩)
  | fail)
  (refine hpan _ _ ⟨{ n := _, env := [], obs := [(i, pOb l q')], next := nx }, (Wk.cut rfl (by simp [hn]) (by simp [wkO, zaa, getK, zab, zac, Ob.under, D.under, zad, zae, hi, hne, zab, zac, zaa, getK]) (by simp [wkU, zal, zaa, getK, D.under, hi, hne, zab, zac, zaa, getK]) (by simp [wkE, zal, zaa, getK, hi, hne, zab, zac, zaa, getK])), by simp [hn], ?_⟩; try simp)
  exact PPost.zaG (by simp [PR.bind, *])
 | ok y q =>
  have hEx := fun nx' h => zdB (hE nx' h) hr;obtain ⟨g0a, g0b⟩ := (zcz hl _).1 _ _ _ _ hr hp;have hlev := (zjZ (l := l) _).1 _ _ _ _ hr;have hlev2 : y.lev <= 1000000000 := by
   have h1 : ((4 * l.length + 3 : Nat) : Int) * ((4 * l.length + 3 : Nat) : Int) <= 8007 * 8007 := Int.mul_le_mul (by omega) (by omega) (by omega) (by omega);omega
  have hlv := zmG (SizeOf.sizeOf y) y (Nat.le_refl _) hlev2;rw [Exp.row_eq] at hlv;obtain ⟨t, ht⟩ : ∃ t, l[q]? = some t := ⟨_, List.getElem?_eq_getElem g0b⟩;have his := zd1 l q [59] g0b hl.len;have hpa : zdO l q = t.pos := by unfold zdO; rw [ht]
  have hc1 := fun e nx' (h : nx <= nx') => zfq l q e i nx' (by omega);have hc2 := fun e nx' (h : nx <= nx') => zdW l q t e i nx' (by omega) ht hl.len;rw [PR.bind_ok, hpa];cases hb : isB l q [59] with
  | false =>
   simp only [hb, Bool.false_eq_true, if_false] at his ⊢
   (refine RetX.of_bodyW Tryz.func130 rfl (by simp) fun Γ hn hpan => ?_); simp only [entry, ziC, ziN, maC, maN, oA, Tryz.ntmps130]
   repeat' (first
  | ((first | refine zag ?_ | refine zaj ?_ | refine zah ?_ | fail); simp [hne, del])
  | (refine CallP.fE (his) (by first | rfl | fail) (by first | simp [hne, del] <;> rfl | fail) ?_; (try simp [hne, del]))
  | (refine CallP.ok1 (hEx _ (by first | omega | simp <;> omega | fail)) (by first | (simp [hne, del, zaa, getK, zab, zac]; done) | fail) (by rfl) (by rfl) ?_; (try simp [hne, del]))
  | (refine CallP.zeN (hc2 _ _ (by first | omega | simp <;> omega | fail)) (by first | (simp [hne, del, zaa, getK, zab, zac]; done) | fail) (by rfl) (by first | assumption | (simp; done) | fail) (by rfl) (by simp) ?_; rintro ob' ⟨q', rfl⟩; refine ⟨_, Wk.refl _, ?_⟩)
  | fail)
   (refine hpan _ _ ⟨{ n := _, env := [], obs := [(i, pOb l q')], next := nx }, (Wk.cut rfl (by simp [hn]) (by simp [wkO, zaa, getK, zab, zac, Ob.under, D.under, zad, zae, hi, hne, zab, zac, zaa, getK]) (by simp [wkU, zal, zaa, getK, D.under, hi, hne, zab, zac, zaa, getK]) (by simp [wkE, zal, zaa, getK, hi, hne, zab, zac, zaa, getK])), by simp [hn], ?_⟩; try simp)
   exact PPost.zaG (by simp [PR.bind, *])
  | true =>
   have hq2 := zbr hl hb;simp only [hb, if_true] at his ⊢;by_cases hv : y.lev <= 12
   ·simp only [hv, if_true]
    (refine RetX.of_bodyW Tryz.func130 rfl (by simp) fun Γ hn hpan => ?_); simp only [entry, ziC, ziN, maC, maN, oA, Tryz.ntmps130]
    repeat' (first
  | ((first | refine zag ?_ | refine zaj ?_ | fail); simp [hne, del, hv])
  | (refine ⟨by omega, ?_⟩)
  | (refine zah ?_; simp [hne, del, hv])
  | (refine zar ?_; simp only [zan])
  | (refine CallP.fE (his) (by first | rfl | fail) (by first | simp [hne, del, hv] <;> rfl | fail) ?_; (try simp [hne, del, hv]))
  | (refine CallP.fE (hlv) (by first | rfl | fail) (by first | simp [hne, del, hv] <;> rfl | fail) ?_; (try simp [hne, del, hv]))
  | (refine CallP.ok1 (hEx _ (by first | omega | simp <;> omega | fail)) (by first | (simp [hne, del, hv, zaa, getK, zab, zac]; done) | fail) (by rfl) (by rfl) ?_; (try simp [hne, del, hv]))
  | (refine CallP.ok1 (hc1 _ _ (by first | omega | simp <;> omega | fail)) (by first | (simp [hne, del, hv, zaa, getK, zab, zac]; done) | fail) (by rfl) (by rfl) ?_; (try simp [hne, del, hv]))
  | fail)
    refine EndW.norm ?_;simp [St.norm, zbg, zbZ, zcd, zce, hne, nAA]
    (refine EndW.here ?_; (first | (refine EndOK.fin (.inr rfl) ?_) | (refine EndOK.fin (.inl rfl) ?_)); simp [zaK, zaf, Tryz.results130, hne, hi]; refine FinOK.cut [(i, pOb l (q + 1))] (nx) (by simp [zaa, getK, zab, zac, Ob.under, D.under, zad, zae, hne, hi] <;> omega) (by simp [D.under]) (by simp [hn]) ?_; try simp)
    exact PPost.zcQ rfl (by simp [Exp.row_eq]) rfl
   ·simp only [hv, if_false]
    (refine RetX.of_bodyW Tryz.func130 rfl (by simp) fun Γ hn hpan => ?_); simp only [entry, ziC, ziN, maC, maN, oA, Tryz.ntmps130]
    repeat' (first
  | ((first | refine zag ?_ | refine zaj ?_ | refine zah ?_ | fail); simp [hne, del, hv])
  | (refine CallP.fE (his) (by first | rfl | fail) (by first | simp [hne, del, hv] <;> rfl | fail) ?_; (try simp [hne, del, hv]))
  | (refine CallP.fE (hlv) (by first | rfl | fail) (by first | simp [hne, del, hv] <;> rfl | fail) ?_; (try simp [hne, del, hv]))
  | (refine CallP.ok1 (hEx _ (by first | omega | simp <;> omega | fail)) (by first | (simp [hne, del, hv, zaa, getK, zab, zac]; done) | fail) (by rfl) (by rfl) ?_; (try simp [hne, del, hv]))
  | (refine CallP.ok1 (hc1 _ _ (by first | omega | simp <;> omega | fail)) (by first | (simp [hne, del, hv, zaa, getK, zab, zac]; done) | fail) (by rfl) (by rfl) ?_; (try simp [hne, del, hv]))
  | (refine CallP.zeN (hc2 _ _ (by first | omega | simp <;> omega | fail)) (by first | (simp [hne, del, hv, zaa, getK, zab, zac]; done) | fail) (by rfl) (by first | assumption | (simp; done) | fail) (by rfl) (by simp) ?_; rintro ob' ⟨q', rfl⟩; refine ⟨_, Wk.refl _, ?_⟩)
  | fail)
    (refine hpan _ _ ⟨{ n := _, env := [], obs := [(i, pOb l q')], next := nx }, (Wk.cut rfl (by simp [hn]) (by simp [wkO, zaa, getK, zab, zac, Ob.under, D.under, zad, zae, hi, hne, zab, zac, zaa, getK]) (by simp [wkU, zal, zaa, getK, D.under, hi, hne, zab, zac, zaa, getK]) (by simp [wkE, zal, zaa, getK, hi, hne, zab, zac, zaa, getK])), by simp [hn], ?_⟩; try simp)
    exact PPost.zaG (by simp [PR.bind, *])
theorem zg9 {l : List Tok} (hl : TokOK l) {p q : Nat} {e : Exp} (h : zeJ l p = .ok e q) (hp : p < l.length) : p <= q /\ q < l.length := by
 unfold zeJ at h;obtain ⟨y, r, h1, h⟩ := PR.zaB h;have g1 := (zcz hl _).1 _ _ _ _ h1 hp;split at h
 ·rename_i hb;split at h
  ·cases h;exact ⟨by omega, zbr hl hb⟩
  ·cases h
 ·cases h
theorem zk5 : Fun Tryz.prog 72 [] (· = .u (.agg nothingE.row)) := by
 simp only [nothingE, Exp.row, List.map_nil]
 (refine Fun.of_bodyW Tryz.func72 rfl (by simp) fun Γ hn => ?_); simp only [entry, ziC, ziN, maC, maN, oA, Tryz.ntmps72]
 repeat' (first
  | ((first | refine zag ?_ | refine zaj ?_ | refine zah ?_ | fail); simp)
  | (refine zar ?_; simp only [zan])
  | fail)
 refine EndW.norm ?_;simp [St.norm, zbg, zbZ, zcd, zce];refine EndW.here ?_
 (refine EndOK.val (.inr rfl) ?_; simp [zaK, zaf, zas, Tryz.results72])
theorem zfo (l : List Tok) (p : Nat) (w : List UInt8) (i nx : Nat) (hi : i < nx) (hp : p < l.length) (hl : TokOK l) (hl2 : l.length <= 2001) :
  RetX Tryz.prog 131 [.ptr i 0, .u (.str w)] [(i, pOb l p)] nx (PPost l i nx zeP (zd9 l p w)) := by
 have hne := za0 hi;have hh1 := fun nx' (h : nx <= nx') => zbt l p w i nx' (by omega) hp hl.len;rw [zd9];cases hb : isB l p w with
 | false =>
  have h0 := zk5;simp only [nothingE, Exp.row, List.map_nil] at h0;simp only [hb, Bool.false_eq_true, if_false] at hh1 ⊢
  (refine RetX.of_bodyW Tryz.func131 rfl (by simp) fun Γ hn hpan => ?_); simp only [entry, ziC, ziN, maC, maN, oA, Tryz.ntmps131]
  repeat' (first
  | ((first | refine zag ?_ | refine zaj ?_ | refine zah ?_ | refine zai ?_ | fail); simp [hne, del])
  | ((first | refine zar ?_ | refine zap ?_ | fail); simp only [zan])
  | (refine CallP.fE (h0) (by first | rfl | fail) (by first | simp [hne, del] <;> rfl | fail) ?_; (try simp [hne, del]))
  | (refine CallP.ok1 (hh1 _ (by first | omega | simp <;> omega | fail)) (by first | (simp [hne, del, zaa, getK, zab, zac]; done) | fail) (by rfl) (by rfl) ?_; (try simp [hne, del]))
  | fail)
  refine EndW.norm ?_;simp [St.norm, zbg, zbZ, zcd, zce, hne, nAA]
  (refine EndW.here ?_; (first | (refine EndOK.fin (.inr rfl) ?_) | (refine EndOK.fin (.inl rfl) ?_)); simp [zaK, zaf, Tryz.results131, hne, hi]; refine FinOK.cut [(i, pOb l p)] (nx) (by simp [zaa, getK, zab, zac, Ob.under, D.under, zad, zae, hne, hi] <;> omega) (by simp [D.under]) (by simp [hn]) ?_; try simp)
  exact PPost.zcQ rfl (by simp [nothingE, Exp.row]) rfl
 | true =>
  have hp2 := zbr hl hb;simp only [hb, if_true] at hh1 ⊢;have hn1 := fun nx' (h : nx <= nx') => zg7 l (p + 1) i nx' (by omega) hp2 hl hl2;cases hr0 : zeJ l (p + 1) with
  | stop pos e =>
   simp only [hr0] at hn1
   (refine RetX.of_bodyW Tryz.func131 rfl (by simp) fun Γ hn hpan => ?_); simp only [entry, ziC, ziN, maC, maN, oA, Tryz.ntmps131]
   repeat' (first
  | ((first | refine zag ?_ | refine zaj ?_ | refine zah ?_ | refine zai ?_ | fail); simp [hne, del])
  | (refine CallP.ok1 (hh1 _ (by first | omega | simp <;> omega | fail)) (by first | (simp [hne, del, zaa, getK, zab, zac]; done) | fail) (by rfl) (by rfl) ?_; (try simp [hne, del]))
  | (refine CallP.zeN (hn1 _ (by first | omega | simp <;> omega | fail)) (by first | (simp [hne, del, zaa, getK, zab, zac]; done) | fail) (by rfl) (by first | assumption | (simp; done) | fail) (by rfl) (by simp) ?_; rintro ob' ⟨q', rfl⟩; refine ⟨_, Wk.refl _, ?_⟩)
  | fail)
   (refine hpan _ _ ⟨{ n := _, env := [], obs := [(i, pOb l q')], next := nx }, (Wk.cut rfl (by simp [hn]) (by simp [wkO, zaa, getK, zab, zac, Ob.under, D.under, zad, zae, hi, hne, zab, zac, zaa, getK]) (by simp [wkU, zal, zaa, getK, D.under, hi, hne, zab, zac, zaa, getK]) (by simp [wkE, zal, zaa, getK, hi, hne, zab, zac, zaa, getK])), by simp [hn], ?_⟩; try simp)
   exact PPost.zaG (by simp [PR.bind, *])
  | ok n q0 =>
   have hn1 := fun nx' h => zdB (hn1 nx' h) hr0
   (refine RetX.of_bodyW Tryz.func131 rfl (by simp) fun Γ hn hpan => ?_); simp only [entry, ziC, ziN, maC, maN, oA, Tryz.ntmps131]
   repeat' (first
  | ((first | refine zag ?_ | refine zaj ?_ | refine zah ?_ | refine zai ?_ | fail); simp [hne, del])
  | (refine zar ?_; simp only [zan])
  | (refine CallP.ok1 (hh1 _ (by first | omega | simp <;> omega | fail)) (by first | (simp [hne, del, zaa, getK, zab, zac]; done) | fail) (by rfl) (by rfl) ?_; (try simp [hne, del]))
  | (refine CallP.ok1 (hn1 _ (by first | omega | simp <;> omega | fail)) (by first | (simp [hne, del, zaa, getK, zab, zac]; done) | fail) (by rfl) (by rfl) ?_; (try simp [hne, del]))
  | fail)
   refine EndW.norm ?_;simp [St.norm, zbg, zbZ, zcd, zce, hne, nAA]
   (refine EndW.here ?_; (first | (refine EndOK.fin (.inr rfl) ?_) | (refine EndOK.fin (.inl rfl) ?_)); simp [zaK, zaf, Tryz.results131, hne, hi]; refine FinOK.cut [(i, pOb l q0)] (nx) (by simp [zaa, getK, zab, zac, Ob.under, D.under, zad, zae, hne, hi] <;> omega) (by simp [D.under]) (by simp [hn]) ?_; try simp)
   exact PPost.zcQ rfl (by simp [Exp.row_eq]) rfl
theorem zfp {l : List Tok} (hl : TokOK l) {p q : Nat} {w : List UInt8} {e : Exp} (h : zd9 l p w = .ok e q) (hp : p < l.length) : p <= q /\ q < l.length := by
 unfold zd9 at h;split at h
 ·rename_i hb;have := zg9 hl h (zbr hl hb);exact ⟨by omega, this.2⟩
 ·cases h; exact ⟨by omega, hp⟩
theorem _root_.Go.VL.CallP.pp {P : Program} {Γ : Ctx} {s : St} {k : St -> Prop} {dst : Option Tmp} {fop : Operand} {args : List Operand} {f caps} {ds : List D} {α : Type} {l : List Tok} {i : Nat} {ob : Ob} {val : α -> D} {r : PR α}
  (hret : RetX P f ds [(i, ob)] s.next (PPost l i s.next val r)) (hj : getK s.obs i = some ob) (hf : zaz (opd s fop) = some (f, caps)) (hc : zak P f = true) (hds : args.map (opd s) ++ caps = ds) (hp : zaI dst s)
  (hk : ∀ a q, r = .ok a q -> k (({ s with obs := del s.obs i ++ [(i, pOb l q)], next := s.next } : St).put dst (val a)))
  (hx : ∀ pos e q, r = .stop pos e -> ∃ s2, Wk Γ { s with obs := del s.obs i ++ [(i, pOb l q)], next := s.next } s2 /\ Γ.pan (chP pos e) s2) : CallP P Γ fop args dst s k :=
 CallP.x1 hret hj hf hc hds hp (fun d o1 nx' _ h => by
  cases r with
  | ok a q => obtain ⟨h1, h2, h3⟩ := h; cases h1; subst h2; subst h3; exact hk a q rfl
  | stop pos e => obtain ⟨h1, _⟩ := h; cases h1) (fun ch o1 nx' _ h => by
  cases r with
  | ok a q => obtain ⟨h1, _⟩ := h; cases h1
  | stop pos e => obtain ⟨h1, ⟨ob', ⟨q, rfl⟩, h2⟩, h3⟩ := h; cases h1; subst h2; subst h3; exact hx pos e q rfl)
abbrev kbD (x : Int × Bool) : D := .tup [.u (.int .i64 x.1), .u (.bool x.2)]
theorem zpT (l : List Tok) (p : Nat) (i nx : Nat) (hi : i < nx) (hp : p < l.length) (hl : TokOK l) :
  RetX Tryz.prog 122 [.ptr i 0] [(i, pOb l p)] nx (PPost l i nx kbD (zlc l p)) := by
 have hne := za0 hi;have hll := hl.len;generalize hR : zlc l p = R;rw [zlc] at hR
 (refine RetX.of_bodyW Tryz.func122 rfl (by simp) fun Γ hn hpan => ?_); simp only [entry, ziC, ziN, maC, maN, oA, Tryz.ntmps122]
 repeat' (first
  | ((first | refine zag ?_ | refine zaj ?_ | refine zah ?_ | fail); simp [hne])
  | (refine zaJ (by first | rfl | fail) ?_; simp [hne, frzN, frz1, zaD, zaC, St.frz, St.frzS, frzS, fv, zaV, za8, za9, frzObS, zay, zat, del, frz, zbc])
  | fail)
 (refine CallP.pp (zeO hl [99, 105, 114, 99, 108, 101] (q := p) (i := i) (by first | omega | simp <;> omega | fail) hp) (by first | (simp [hi, hne, nAA, zaa, getK, zab, zac]; done) | fail) (by rfl) (by first | assumption | (simp; done) | fail) (by rfl) (by simp) (fun v1 q1 h1 => ?_) (fun pos e q' h1 => ⟨_, Wk.refl _, ?_⟩); rotate_left 1; (focus (rw [h1, PR.zaP] at hR; (refine hpan _ _ ⟨{ n := _, env := [], obs := [(i, pOb l q')], next := nx }, (Wk.cut rfl (by simp [hn]) (by simp [wkO, zaa, getK, zab, zac, Ob.under, D.under, zad, zae, hi, hne, nAA, zab, zac, zaa, getK]) (by simp [wkU, zal, zaa, getK, D.under, hi, hne, nAA, zab, zac, zaa, getK]) (by simp [wkE, zal, zaa, getK, hi, hne, nAA, zab, zac, zaa, getK])), by simp [hn], ?_⟩; try simp); exact PPost.zaG hR.symm)); rw [h1, PR.bind_ok] at hR; (try simp [hi, hne, nAA]))
 obtain ⟨_, g1⟩ := za6 hl _ h1 hp;have hh1 := fun nx' (h : nx <= nx') => zbt l q1 [114, 111, 116, 97, 116, 105, 110, 103] i nx' (by omega) g1 hl.len;have hh2 := fun nx' (h : nx <= nx') => zbt l q1 [115, 97, 118, 105, 110, 103] i nx' (by omega) g1 hl.len;by_cases c1 : isB l q1 [114, 111, 116, 97, 116, 105, 110, 103] = true
 ·have g2 := zbr hl c1;rw [if_pos c1] at hR;simp only [c1, if_true] at hh1
  repeat' (first
  | ((first | refine zag ?_ | refine zaj ?_ | refine zah ?_ | refine zai ?_ | fail); simp [hne, del, nAA])
  | (refine CallP.ok1 (hh1 _ (by first | omega | simp <;> omega | fail)) (by first | (simp [hne, del, nAA, zaa, getK, zab, zac]; done) | fail) (by rfl) (by rfl) ?_; (try simp [hne, del, nAA]))
  | (refine zaJ (by first | rfl | fail) ?_; simp [hne, del, nAA, frzN, frz1, zaD, zaC, St.frz, St.frzS, frzS, fv, zaV, za8, za9, frzObS, zay, zat, del, frz, zbc])
  | fail)
  (refine CallP.pp (zeO hl [59] (q := q1 + 1) (i := i) (by first | omega | simp <;> omega | fail) g2) (by first | (simp [hi, hne, nAA, zaa, getK, zab, zac]; done) | fail) (by rfl) (by first | assumption | (simp; done) | fail) (by rfl) (by simp) (fun v2 q2 h2 => ?_) (fun pos e q' h2 => ⟨_, Wk.refl _, ?_⟩); rotate_left 1; (focus (rw [h2, PR.zaP] at hR; (refine hpan _ _ ⟨{ n := _, env := [], obs := [(i, pOb l q')], next := nx }, (Wk.cut rfl (by simp [hn]) (by simp [wkO, zaa, getK, zab, zac, Ob.under, D.under, zad, zae, hi, hne, nAA, zab, zac, zaa, getK]) (by simp [wkU, zal, zaa, getK, D.under, hi, hne, nAA, zab, zac, zaa, getK]) (by simp [wkE, zal, zaa, getK, hi, hne, nAA, zab, zac, zaa, getK])), by simp [hn], ?_⟩; try simp); exact PPost.zaG hR.symm)); rw [h2, PR.bind_ok] at hR; (try simp [hi, hne, nAA]))
  repeat' (first
  | ((first | refine zag ?_ | refine zaj ?_ | refine zah ?_ | fail); simp [hne, del, nAA])
  | (refine zar ?_; simp only [zan])
  | fail)
  (refine EndW.here ?_; (first | (refine EndOK.fin (.inr rfl) ?_) | (refine EndOK.fin (.inl rfl) ?_)); simp [zaK, zaf, Tryz.results122, hne, hi]; refine FinOK.cut [(i, pOb l q2)] (nx) (by simp [zaa, getK, zab, zac, Ob.under, D.under, zad, zae, hne, hi] <;> omega) (by simp [D.under]) (by simp [hn]) ?_; try simp)
  exact PPost.zcQ hR.symm rfl rfl
 ·rw [if_neg c1] at hR;simp only [c1, Bool.false_eq_true, if_false] at hh1;by_cases c2 : isB l q1 [115, 97, 118, 105, 110, 103] = true
  ·have g2 := zbr hl c2;rw [if_pos c2] at hR;simp only [c2, if_true] at hh2
   repeat' (first
  | ((first | refine zag ?_ | refine zaj ?_ | refine zah ?_ | refine zai ?_ | fail); simp [hne, del, nAA])
  | (refine CallP.ok1 (hh1 _ (by first | omega | simp <;> omega | fail)) (by first | (simp [hne, del, nAA, zaa, getK, zab, zac]; done) | fail) (by rfl) (by rfl) ?_; (try simp [hne, del, nAA]))
  | (refine CallP.ok1 (hh2 _ (by first | omega | simp <;> omega | fail)) (by first | (simp [hne, del, nAA, zaa, getK, zab, zac]; done) | fail) (by rfl) (by rfl) ?_; (try simp [hne, del, nAA]))
  | (refine zaJ (by first | rfl | fail) ?_; simp [hne, del, nAA, frzN, frz1, zaD, zaC, St.frz, St.frzS, frzS, fv, zaV, za8, za9, frzObS, zay, zat, del, frz, zbc])
  | fail)
   (refine CallP.pp (zeO hl [59] (q := q1 + 1) (i := i) (by first | omega | simp <;> omega | fail) g2) (by first | (simp [hi, hne, nAA, zaa, getK, zab, zac]; done) | fail) (by rfl) (by first | assumption | (simp; done) | fail) (by rfl) (by simp) (fun v2 q2 h2 => ?_) (fun pos e q' h2 => ⟨_, Wk.refl _, ?_⟩); rotate_left 1; (focus (rw [h2, PR.zaP] at hR; (refine hpan _ _ ⟨{ n := _, env := [], obs := [(i, pOb l q')], next := nx }, (Wk.cut rfl (by simp [hn]) (by simp [wkO, zaa, getK, zab, zac, Ob.under, D.under, zad, zae, hi, hne, nAA, zab, zac, zaa, getK]) (by simp [wkU, zal, zaa, getK, D.under, hi, hne, nAA, zab, zac, zaa, getK]) (by simp [wkE, zal, zaa, getK, hi, hne, nAA, zab, zac, zaa, getK])), by simp [hn], ?_⟩; try simp); exact PPost.zaG hR.symm)); rw [h2, PR.bind_ok] at hR; (try simp [hi, hne, nAA]))
   repeat' (first
  | ((first | refine zag ?_ | refine zaj ?_ | refine zah ?_ | fail); simp [hne, del, nAA])
  | (refine zar ?_; simp only [zan])
  | fail)
   (refine EndW.here ?_; (first | (refine EndOK.fin (.inr rfl) ?_) | (refine EndOK.fin (.inl rfl) ?_)); simp [zaK, zaf, Tryz.results122, hne, hi]; refine FinOK.cut [(i, pOb l q2)] (nx) (by simp [zaa, getK, zab, zac, Ob.under, D.under, zad, zae, hne, hi] <;> omega) (by simp [D.under]) (by simp [hn]) ?_; try simp)
   exact PPost.zcQ hR.symm rfl rfl
  ·rw [if_neg c2] at hR;simp only [c2, Bool.false_eq_true, if_false] at hh2
   repeat' (first
  | ((first | refine zag ?_ | refine zaj ?_ | refine zah ?_ | refine zai ?_ | fail); simp [hne, del, nAA])
  | (refine zap ?_; simp only [zan])
  | (refine CallP.ok1 (hh1 _ (by first | omega | simp <;> omega | fail)) (by first | (simp [hne, del, nAA, zaa, getK, zab, zac]; done) | fail) (by rfl) (by rfl) ?_; (try simp [hne, del, nAA]))
  | (refine CallP.ok1 (hh2 _ (by first | omega | simp <;> omega | fail)) (by first | (simp [hne, del, nAA, zaa, getK, zab, zac]; done) | fail) (by rfl) (by rfl) ?_; (try simp [hne, del, nAA]))
  | (refine zaJ (by first | rfl | fail) ?_; simp [hne, del, nAA, frzN, frz1, zaD, zaC, St.frz, St.frzS, frzS, fv, zaV, za8, za9, frzObS, zay, zat, del, frz, zbc])
  | fail)
   (refine CallP.pp (zeO hl [98, 105, 100, 100, 105, 110, 103] (q := q1) (i := i) (by first | omega | simp <;> omega | fail) g1) (by first | (simp [hi, hne, nAA, zaa, getK, zab, zac]; done) | fail) (by rfl) (by first | assumption | (simp; done) | fail) (by rfl) (by simp) (fun v2 q2 h2 => ?_) (fun pos e q' h2 => ⟨_, Wk.refl _, ?_⟩); rotate_left 1; (focus (rw [h2, PR.zaP] at hR; (refine hpan _ _ ⟨{ n := _, env := [], obs := [(i, pOb l q')], next := nx }, (Wk.cut rfl (by simp [hn]) (by simp [wkO, zaa, getK, zab, zac, Ob.under, D.under, zad, zae, hi, hne, nAA, zab, zac, zaa, getK]) (by simp [wkU, zal, zaa, getK, D.under, hi, hne, nAA, zab, zac, zaa, getK]) (by simp [wkE, zal, zaa, getK, hi, hne, nAA, zab, zac, zaa, getK])), by simp [hn], ?_⟩; try simp); exact PPost.zaG hR.symm)); rw [h2, PR.bind_ok] at hR; (try simp [hi, hne, nAA]))
   obtain ⟨_, g2⟩ := za6 hl _ h2 g1;have hh3 := fun nx' (h : nx <= nx') => zbt l q2 [115, 101, 97, 108, 101, 100] i nx' (by omega) g2 hl.len;by_cases c3 : isB l q2 [115, 101, 97, 108, 101, 100] = true
   ·have g3 := zbr hl c3;rw [if_pos c3] at hR;simp only [c3, if_true] at hh3
    repeat' (first
  | ((first | refine zag ?_ | refine zaj ?_ | refine zah ?_ | fail); simp [hne, del, nAA])
  | (refine CallP.ok1 (hh3 _ (by first | omega | simp <;> omega | fail)) (by first | (simp [hne, del, nAA, zaa, getK, zab, zac]; done) | fail) (by rfl) (by rfl) ?_; (try simp [hne, del, nAA]))
  | (refine zaJ (by first | rfl | fail) ?_; simp [hne, del, nAA, frzN, frz1, zaD, zaC, St.frz, St.frzS, frzS, fv, zaV, za8, za9, frzObS, zay, zat, del, frz, zbc])
  | fail)
    (refine CallP.pp (zeO hl [59] (q := q2 + 1) (i := i) (by first | omega | simp <;> omega | fail) g3) (by first | (simp [hi, hne, nAA, zaa, getK, zab, zac]; done) | fail) (by rfl) (by first | assumption | (simp; done) | fail) (by rfl) (by simp) (fun v3 q3 h3 => ?_) (fun pos e q' h3 => ⟨_, Wk.refl _, ?_⟩); rotate_left 1; (focus (rw [h3, PR.zaP] at hR; (refine hpan _ _ ⟨{ n := _, env := [], obs := [(i, pOb l q')], next := nx }, (Wk.cut rfl (by simp [hn]) (by simp [wkO, zaa, getK, zab, zac, Ob.under, D.under, zad, zae, hi, hne, nAA, zab, zac, zaa, getK]) (by simp [wkU, zal, zaa, getK, D.under, hi, hne, nAA, zab, zac, zaa, getK]) (by simp [wkE, zal, zaa, getK, hi, hne, nAA, zab, zac, zaa, getK])), by simp [hn], ?_⟩; try simp); exact PPost.zaG hR.symm)); rw [h3, PR.bind_ok] at hR; (try simp [hi, hne, nAA]))
    repeat' (first
  | ((first | refine zag ?_ | refine zaj ?_ | refine zah ?_ | fail); simp [hne, del, nAA])
  | (refine zar ?_; simp only [zan])
  | fail)
    (refine EndW.here ?_; (first | (refine EndOK.fin (.inr rfl) ?_) | (refine EndOK.fin (.inl rfl) ?_)); simp [zaK, zaf, Tryz.results122, hne, hi]; refine FinOK.cut [(i, pOb l q3)] (nx) (by simp [zaa, getK, zab, zac, Ob.under, D.under, zad, zae, hne, hi] <;> omega) (by simp [D.under]) (by simp [hn]) ?_; try simp)
    exact PPost.zcQ hR.symm rfl rfl
   ·rw [if_neg c3] at hR;simp only [c3, Bool.false_eq_true, if_false] at hh3
    repeat' (first
  | ((first | refine zag ?_ | refine zaj ?_ | refine zah ?_ | fail); simp [hne, del, nAA])
  | (refine CallP.ok1 (hh3 _ (by first | omega | simp <;> omega | fail)) (by first | (simp [hne, del, nAA, zaa, getK, zab, zac]; done) | fail) (by rfl) (by rfl) ?_; (try simp [hne, del, nAA]))
  | (refine zaJ (by first | rfl | fail) ?_; simp [hne, del, nAA, frzN, frz1, zaD, zaC, St.frz, St.frzS, frzS, fv, zaV, za8, za9, frzObS, zay, zat, del, frz, zbc])
  | fail)
    (refine CallP.pp (zeO hl [59] (q := q2) (i := i) (by first | omega | simp <;> omega | fail) g2) (by first | (simp [hi, hne, nAA, zaa, getK, zab, zac]; done) | fail) (by rfl) (by first | assumption | (simp; done) | fail) (by rfl) (by simp) (fun v3 q3 h3 => ?_) (fun pos e q' h3 => ⟨_, Wk.refl _, ?_⟩); rotate_left 1; (focus (rw [h3, PR.zaP] at hR; (refine hpan _ _ ⟨{ n := _, env := [], obs := [(i, pOb l q')], next := nx }, (Wk.cut rfl (by simp [hn]) (by simp [wkO, zaa, getK, zab, zac, Ob.under, D.under, zad, zae, hi, hne, nAA, zab, zac, zaa, getK]) (by simp [wkU, zal, zaa, getK, D.under, hi, hne, nAA, zab, zac, zaa, getK]) (by simp [wkE, zal, zaa, getK, hi, hne, nAA, zab, zac, zaa, getK])), by simp [hn], ?_⟩; try simp); exact PPost.zaG hR.symm)); rw [h3, PR.bind_ok] at hR; (try simp [hi, hne, nAA]))
    repeat' (first
  | ((first | refine zag ?_ | refine zaj ?_ | refine zah ?_ | fail); simp [hne, del, nAA])
  | (refine zar ?_; simp only [zan])
  | fail)
    (refine EndW.here ?_; (first | (refine EndOK.fin (.inr rfl) ?_) | (refine EndOK.fin (.inl rfl) ?_)); simp [zaK, zaf, Tryz.results122, hne, hi]; refine FinOK.cut [(i, pOb l q3)] (nx) (by simp [zaa, getK, zab, zac, Ob.under, D.under, zad, zae, hne, hi] <;> omega) (by simp [D.under]) (by simp [hn]) ?_; try simp)
    exact PPost.zcQ hR.symm rfl rfl
theorem zpV {l : List Tok} (hl : TokOK l) {p q : Nat} {x : Int × Bool} (h : zlc l p = .ok x q) (hp : p < l.length) : p <= q /\ q < l.length := by
 unfold zlc at h;obtain ⟨_, r1, h1, h⟩ := PR.zaB h;have g1 := za6 hl _ h1 hp;split at h
 ·rename_i hb;obtain ⟨_, r2, h2, h⟩ := PR.zaB h;have g2 := za6 hl _ h2 (zbr hl hb);cases h;exact ⟨by omega, g2.2⟩
 ·split at h
  ·rename_i hb;obtain ⟨_, r2, h2, h⟩ := PR.zaB h;have g2 := za6 hl _ h2 (zbr hl hb);cases h;exact ⟨by omega, g2.2⟩
  ·obtain ⟨_, r2, h2, h⟩ := PR.zaB h;have g2 := za6 hl _ h2 g1.2;split at h
   ·rename_i hb;obtain ⟨_, r3, h3, h⟩ := PR.zaB h;have g3 := za6 hl _ h3 (zbr hl hb);cases h;exact ⟨by omega, g3.2⟩
   ·obtain ⟨_, r3, h3, h⟩ := PR.zaB h;have g3 := za6 hl _ h3 g2.2;cases h;exact ⟨by omega, g3.2⟩
theorem zmy : Fun Tryz.prog 74 [] (· = .u (.sl (ordersW.map fun w => [.str w]))) := by
 simp only [ordersW, List.map_cons, List.map_nil]
 (refine Fun.of_bodyW Tryz.func74 rfl (by simp) fun Γ hn => ?_); simp only [entry, ziC, ziN, maC, maN, oA, Tryz.ntmps74]
 repeat' (first
  | ((first | refine zag ?_ | refine zaj ?_ | refine zah ?_ | fail); simp [zbL, zbH])
  | (refine zar ?_; simp only [zan])
  | fail)
 (refine EndW.frzN 1 ?_; simp [frzN, frz1, zaD, zaC, St.frz, St.frzS, frzS, fv, zaV, za8, za9, frzObS, zay, zat, del, frz, zbc])
 refine EndW.here ?_
 (refine EndOK.val (.inr rfl) ?_; simp [zaK, zaf, zas, Tryz.results74])
def atW (l : List Tok) (q : Nat) (ws : List W8) : Option Nat := ws.findIdx? fun w => isB l q w
theorem zmO (l : List Tok) (q : Nat) (ws : List W8) (i nx : Nat) (hi : i < nx) (hq : q < l.length) (hl : TokOK l) :
  RetX Tryz.prog 202 [.u (.sl (ws.map fun w => [.str w])), .bnd (.func 200) [.ptr i 0]] [(i, pOb l q)] nx
   (fun r o n => r = .val (match atW l q ws with | some j => zjf j | none => zjf (-1)) /\ o = [(i, pOb l (if (atW l q ws).isSome then q + 1 else q))] /\ n = nx) := by
 have hne := za0 hi;generalize hA : atW l q ws = A
 (refine RetX.of_bodyW Tryz.func202 rfl (by simp) fun Γ hn hpan => ?_); simp only [entry, ziC, ziN, maC, maN, oA, Tryz.ntmps202]
 refine zgR (x := 0) rfl fun hll => ?_;simp at hll
 repeat' (first
  | ((first | refine zag ?_ | refine zaj ?_ | refine zah ?_ | refine zaA ?_ | fail); simp)
  | fail)
 refine zb4 (α := { j : Nat // j <= ws.length /\ ∀ w ∈ ws.take j, isB l q w = false }) [0, 1, 7] (fun x => [(8, .u (.int .i64 x.1))]) (fun x => [(i, pOb l q)]) nx (fun x => ws.length - x.1) ⟨0, by omega, by simp⟩ ?_ ?_
 ·exact (Wk.cut rfl (by simp [hn, St.lp]) (by simp [wkO, St.lp, zaa, getK, Ob.under, D.under, zad, zae, hi]) (by simp [wkU, St.lp, zal, zaa, getK, D.under, hi]) (by simp [wkE, St.lp, zal, zaa, getK, hi] <;> (try (intros; simp_all; done)) <;> (try (intros; omega)) <;> (try grind)))
 rintro ⟨j, h1, h2⟩;simp [St.lp, St.only, zal, zaa, getK];rcases hx : ws[j]? with _ | w
 ·have hge : ws.length <= j := by simpa using hx
  rw [List.take_of_length_le hge] at h2;have hn0 : atW l q ws = none := by
   unfold atW;rw [List.findIdx?_eq_none_iff];exact h2
  rw [hn0] at hA;subst hA
  repeat' (first
  | ((first | refine zag ?_ | refine zaj ?_ | fail); simp [hx])
  | (refine ⟨by omega, ?_⟩)
  | (refine zah ?_; simp [hx])
  | (refine zar ?_; simp only [zan])
  | (refine zaZ ?_; simp [zan])
  | (intro hc <;> (try (exfalso; omega)))
  | fail)
  (refine EndW.here ?_; (first | (refine EndOK.fin (.inr rfl) ?_) | (refine EndOK.fin (.inl rfl) ?_)); simp [zaK, zaf, Tryz.results202]; refine FinOK.here (by simp) ?_; try simp)
 ·have hlt : j < ws.length := (lGE.1 hx).1;have hh := zbt l q w i nx hi hq hl.len;cases hb : isB l q w with
  | false =>
   rw [hb, if_neg (by simp)] at hh
   repeat' (first
  | ((first | refine zag ?_ | refine zaj ?_ | refine zah ?_ | fail); simp [hx])
  | (refine zap ?_; simp only [zan])
  | (refine ⟨?_, by omega⟩)
  | (intro hc <;> (try (exfalso; omega)))
  | fail)
   refine CallP.bok hh (by simp [zaa, getK]) rfl (by first | assumption | simp) rfl (by simp) ?_
   repeat' (first
  | ((first | refine zag ?_ | refine zaj ?_ | fail); simp [hx])
  | (refine ⟨by omega, ?_⟩)
  | ((first | refine zai ?_ | refine zaq ?_ | fail); simp [hx])
  | (refine zap ?_; simp only [zan])
  | fail)
   refine LoopW.next ⟨j + 1, by omega, za7 hx h2 hb⟩ (by simp; omega) ?_
   exact (Wk.cut rfl (by simp [hn, St.lp]) (by simp [wkO, St.lp, zaa, getK, Ob.under, D.under, zad, zae, hi, zab, zac, zaa, getK]) (by simp [wkU, St.lp, zal, zaa, getK, D.under, hi, zab, zac, zaa, getK]) (by simp [wkE, St.lp, zal, zaa, getK, hi, zab, zac, zaa, getK] <;> (try (intros; simp_all; done)) <;> (try (intros; omega)) <;> (try grind)))
  | true =>
   rw [hb, if_pos rfl] at hh;have hn0 : atW l q ws = some j := by
    unfold atW;rw [List.findIdx?_eq_some_iff_getElem];obtain ⟨h3, h4⟩ := lGE.1 hx;refine ⟨h3, by rw [h4]; exact hb, fun k hk => ?_⟩;have := h2 ws[k] (by rw [List.mem_take_iff_getElem]; exact ⟨k, by omega, rfl⟩);simp [this]
   rw [hn0] at hA;subst hA
   repeat' (first
  | ((first | refine zag ?_ | refine zaj ?_ | refine zah ?_ | fail); simp [hx])
  | (refine zap ?_; simp only [zan])
  | (refine ⟨?_, by omega⟩)
  | (intro hc <;> (try (exfalso; omega)))
  | fail)
   refine CallP.bok hh (by simp [zaa, getK]) rfl (by first | assumption | simp) rfl (by simp) ?_
   repeat' (first
  | ((first | refine zag ?_ | refine zaj ?_ | refine zah ?_ | refine zai ?_ | fail); simp [hx])
  | (refine zar ?_; simp only [zan])
  | fail)
   (refine EndW.here ?_; (first | (refine EndOK.fin (.inr rfl) ?_) | (refine EndOK.fin (.inl rfl) ?_)); simp [zaK, zaf, Tryz.results202]; refine FinOK.here (by simp) ?_; try simp)
theorem znQ (l : List Tok) (p : Nat) (i nx : Nat) (hi : i < nx) (hp : p < l.length) (hl : TokOK l) :
  RetX Tryz.prog 126 [.ptr i 0] [(i, pOb l p)] nx (PPost l i nx zjf (zhl l p)) := by
 have hne := za0 hi;have hll := hl.len;have hor := zmy;generalize hR : zhl l p = R;rw [zhl] at hR;have hh1 := fun nx' (h : nx <= nx') => zbt l p [111, 114, 100, 101, 114] i nx' (by omega) hp hl.len;by_cases c1 : isB l p [111, 114, 100, 101, 114] = true
 ·have g1 := zbr hl c1;rw [if_pos c1] at hR;simp only [c1, if_true] at hh1;have hix := fun nx' (h : nx <= nx') => zmO l (p + 1) ordersW i nx' (by omega) g1 hl;have hat : atW l (p + 1) ordersW = ordersW.findIdx? fun w => isB l (p + 1) w := rfl;rw [<- hat] at hR;obtain ⟨t, ht⟩ : ∃ t, l[p + 1]? = some t := ⟨_, List.getElem?_eq_getElem g1⟩;have hpa : zdO l (p + 1) = t.pos := by unfold zdO; rw [ht]
  rw [hpa] at hR;cases hj : atW l (p + 1) ordersW with
  | none =>
   have hc2 := fun e nx' (h : nx <= nx') => zdW l (p + 1) t e i nx' (by omega) ht hl.len;rw [hj] at hR hix;simp only [Option.isSome_none, Bool.false_eq_true, if_false] at hR hix
   (refine RetX.of_bodyW Tryz.func126 rfl (by simp) fun Γ hn hpan => ?_); simp only [entry, ziC, ziN, maC, maN, oA, Tryz.ntmps126]
   repeat' (first
  | ((first | refine zag ?_ | refine zaj ?_ | refine zah ?_ | refine zai ?_ | fail); simp [hne, del, nAA])
  | (refine zap ?_; simp only [zan])
  | (refine CallP.fE (hor) (by first | rfl | fail) (by first | simp [hne, del, nAA] <;> rfl | fail) ?_; (try simp [hne, del, nAA]))
  | (refine CallP.ok1 (hh1 _ (by first | omega | simp <;> omega | fail)) (by first | (simp [hne, del, nAA, zaa, getK, zab, zac]; done) | fail) (by rfl) (by rfl) ?_; (try simp [hne, del, nAA]))
  | (refine CallP.ok1 (hix _ (by first | omega | simp <;> omega | fail)) (by first | (simp [hne, del, nAA, zaa, getK, zab, zac]; done) | fail) (by rfl) (by rfl) ?_; (try simp [hne, del, nAA]))
  | (refine CallP.zeN (hc2 _ _ (by first | omega | simp <;> omega | fail)) (by first | (simp [hne, del, nAA, zaa, getK, zab, zac]; done) | fail) (by rfl) (by first | assumption | (simp; done) | fail) (by rfl) (by simp) ?_; rintro ob' ⟨q', rfl⟩; refine ⟨_, Wk.refl _, ?_⟩)
  | fail)
   (refine hpan _ _ ⟨{ n := _, env := [], obs := [(i, pOb l q')], next := nx }, (Wk.cut rfl (by simp [hn]) (by simp [wkO, zaa, getK, zab, zac, Ob.under, D.under, zad, zae, hi, hne, zab, zac, zaa, getK]) (by simp [wkU, zal, zaa, getK, D.under, hi, hne, zab, zac, zaa, getK]) (by simp [wkE, zal, zaa, getK, hi, hne, zab, zac, zaa, getK])), by simp [hn], ?_⟩; try simp)
   exact PPost.zaG hR.symm
  | some j =>
   have g2 : p + 1 + 1 < l.length := by
    unfold atW at hj;rw [List.findIdx?_eq_some_iff_getElem] at hj;obtain ⟨_, hb, _⟩ := hj;exact zbr hl hb
   have hj0 : (0 : Int) <= (j : Int) := by omega
   have hc1 := fun e nx' (h : nx <= nx') => zfq l (p + 1 + 1) e i nx' (by omega);rw [hj] at hR hix;simp only [Option.isSome_some, if_true] at hR hix
   (refine RetX.of_bodyW Tryz.func126 rfl (by simp) fun Γ hn hpan => ?_); simp only [entry, ziC, ziN, maC, maN, oA, Tryz.ntmps126]
   repeat' (first
  | ((first | refine zag ?_ | refine zaj ?_ | refine zah ?_ | refine zai ?_ | fail); simp [hne, del, nAA, hj0])
  | (refine zap ?_; simp only [zan])
  | (refine CallP.fE (hor) (by first | rfl | fail) (by first | simp [hne, del, nAA, hj0] <;> rfl | fail) ?_; (try simp [hne, del, nAA, hj0]))
  | (refine CallP.ok1 (hh1 _ (by first | omega | simp <;> omega | fail)) (by first | (simp [hne, del, nAA, hj0, zaa, getK, zab, zac]; done) | fail) (by rfl) (by rfl) ?_; (try simp [hne, del, nAA, hj0]))
  | (refine CallP.ok1 (hix _ (by first | omega | simp <;> omega | fail)) (by first | (simp [hne, del, nAA, hj0, zaa, getK, zab, zac]; done) | fail) (by rfl) (by rfl) ?_; (try simp [hne, del, nAA, hj0]))
  | (refine CallP.ok1 (hc1 _ _ (by first | omega | simp <;> omega | fail)) (by first | (simp [hne, del, nAA, hj0, zaa, getK, zab, zac]; done) | fail) (by rfl) (by rfl) ?_; (try simp [hne, del, nAA, hj0]))
  | (refine zaJ (by first | rfl | fail) ?_; simp [hne, del, nAA, hj0, frzN, frz1, zaD, zaC, St.frz, St.frzS, frzS, fv, zaV, za8, za9, frzObS, zay, zat, del, frz, zbc])
  | fail)
   (refine CallP.pp (zeO hl [59] (q := p + 1 + 1) (i := i) (by first | omega | simp <;> omega | fail) g2) (by first | (simp [hi, hne, nAA, zaa, getK, zab, zac]; done) | fail) (by rfl) (by first | assumption | (simp; done) | fail) (by rfl) (by simp) (fun v2 q2 h2 => ?_) (fun pos e q' h2 => ⟨_, Wk.refl _, ?_⟩); rotate_left 1; (focus (rw [h2, PR.zaP] at hR; (refine hpan _ _ ⟨{ n := _, env := [], obs := [(i, pOb l q')], next := nx }, (Wk.cut rfl (by simp [hn]) (by simp [wkO, zaa, getK, zab, zac, Ob.under, D.under, zad, zae, hi, hne, nAA, zab, zac, zaa, getK]) (by simp [wkU, zal, zaa, getK, D.under, hi, hne, nAA, zab, zac, zaa, getK]) (by simp [wkE, zal, zaa, getK, hi, hne, nAA, zab, zac, zaa, getK])), by simp [hn], ?_⟩; try simp); exact PPost.zaG hR.symm)); rw [h2, PR.bind_ok] at hR; (try simp [hi, hne, nAA]))
   repeat' (first
  | ((first | refine zag ?_ | refine zaj ?_ | refine zah ?_ | fail); simp [hne, del])
  | (refine zar ?_; simp only [zan])
  | fail)
   (refine EndW.here ?_; (first | (refine EndOK.fin (.inr rfl) ?_) | (refine EndOK.fin (.inl rfl) ?_)); simp [zaK, zaf, Tryz.results126, hne, hi]; refine FinOK.cut [(i, pOb l q2)] (nx) (by simp [zaa, getK, zab, zac, Ob.under, D.under, zad, zae, hne, hi] <;> omega) (by simp [D.under]) (by simp [hn]) ?_; try simp)
   exact PPost.zcQ hR.symm rfl rfl
 ·rw [if_neg c1] at hR;simp only [c1, Bool.false_eq_true, if_false] at hh1
  (refine RetX.of_bodyW Tryz.func126 rfl (by simp) fun Γ hn hpan => ?_); simp only [entry, ziC, ziN, maC, maN, oA, Tryz.ntmps126]
  repeat' (first
  | ((first | refine zag ?_ | refine zaj ?_ | refine zah ?_ | refine zai ?_ | fail); simp [hne, del, nAA])
  | (refine zar ?_; simp only [zan])
  | (refine CallP.ok1 (hh1 _ (by first | omega | simp <;> omega | fail)) (by first | (simp [hne, del, nAA, zaa, getK, zab, zac]; done) | fail) (by rfl) (by rfl) ?_; (try simp [hne, del, nAA]))
  | fail)
  (refine EndW.here ?_; (first | (refine EndOK.fin (.inr rfl) ?_) | (refine EndOK.fin (.inl rfl) ?_)); simp [zaK, zaf, Tryz.results126, hne, hi]; refine FinOK.cut [(i, pOb l p)] (nx) (by simp [zaa, getK, zab, zac, Ob.under, D.under, zad, zae, hne, hi] <;> omega) (by simp [D.under]) (by simp [hn]) ?_; try simp)
  exact PPost.zcQ hR.symm rfl rfl
theorem znR {l : List Tok} (hl : TokOK l) {p q : Nat} {n : Int} (h : zhl l p = .ok n q) (hp : p < l.length) : p <= q /\ q < l.length := by
 unfold zhl at h;split at h
 ·split at h
  ·rename_i j hj;rw [List.findIdx?_eq_some_iff_getElem] at hj;obtain ⟨_, hb, _⟩ := hj;obtain ⟨_, r2, h2, h⟩ := PR.zaB h;have g2 := za6 hl _ h2 (zbr hl hb);cases h;exact ⟨by omega, g2.2⟩
  ·cases h
 ·cases h; exact ⟨by omega, hp⟩
theorem zjO (x : Let) (s : W8) : Fun Tryz.prog 128 (zpS x :: [U.row [.str s] 0].map .u) (· = .u (.bool (decide (x.name = s)))) := by
 simp only [zpS, List.map_cons, List.map_nil]
 (refine Fun.of_body Tryz.func128 rfl (by simp) fun Γ hn => ?_); simp only [entry, ziC, ziN, maC, maN, oA, Tryz.ntmps128]
 repeat' (first
  | ((first | refine zag ?_ | refine zaj ?_ | refine zah ?_ | fail); simp)
  | (refine zar ?_; simp only [zan])
  | fail)
 (refine EndOK.val (.inr rfl) ?_; simp [zaK, zaf, zas, Tryz.results128])
theorem znv (lets : List Let) (s : W8) : Fun Tryz.prog 90 [.u (ze0 lets), .fnc (.func 128) [.u (.row [.str s] 0)]]
  (· = .u (.bool (lets.any fun x => decide (x.name = s)))) :=
 zeF lets 128 [U.row [.str s] 0] _ (fun x _ => zjO x s) (by simp) (fun _ => rfl) (fun _ => rfl)
theorem znc (l : List Tok) (hl0 : 0 < l.length) (hl : TokOK l) (hl2 : l.length <= 2001) :
  RetX Tryz.prog 64 [.ptr 3 0] [(3, pOb l 0)] 4 (PPost l 3 4 byD (zqr l)) := by
 have hi : 3 < 4 := by decide
 have hne := za0 hi;have hll := hl.len;have htE : True := trivial;generalize hR : zqr l = R;rw [zqr] at hR
 (refine RetX.of_bodyW Tryz.func64 rfl (by simp) fun Γ hn hpan => ?_); simp only [entry, ziC, ziN, maC, maN, oA, Tryz.ntmps64]
 repeat' (first
  | ((first | refine zag ?_ | refine zaj ?_ | refine zah ?_ | fail); simp [hne])
  | fail)
 (refine CallP.pp (zpT l 0 3 _ (by first | omega | simp <;> omega | fail) hl0 hl) (by first | (simp [hi, hne, del, htE, zaa, getK, zab, zac]; done) | fail) (by rfl) (by first | assumption | (simp; done) | fail) (by rfl) (by simp) (fun kb q1 h1 => ?_) (fun pos e q' h1 => ⟨_, Wk.refl _, ?_⟩); rotate_left 1; (focus (rw [h1, PR.zaP] at hR; (refine hpan _ _ ⟨{ n := _, env := [], obs := [(3, pOb l q')], next := 4 }, (Wk.cut rfl (by simp [hn]) (by simp [wkO, zaa, getK, zab, zac, Ob.under, D.under, zad, zae, hi, hne, del, htE, zab, zac, zaa, getK]) (by simp [wkU, zal, zaa, getK, D.under, hi, hne, del, htE, zab, zac, zaa, getK]) (by simp [wkE, zal, zaa, getK, hi, hne, del, htE, zab, zac, zaa, getK])), by simp [hn], ?_⟩; try simp); exact PPost.zaG hR.symm)); rw [h1, PR.bind_ok] at hR; (try simp [hi, hne, del, htE]))
 obtain ⟨_, g1⟩ := zpV hl h1 hl0;have hm := zd1 l q1 [112, 101, 114, 105, 111, 100] g1 hl.len
 repeat' (first
  | ((first | refine zag ?_ | refine zaj ?_ | refine zah ?_ | fail); simp [hne, del])
  | (refine CallP.fE (hm) (by first | rfl | fail) (by first | simp [hne, del] <;> rfl | fail) ?_; (try simp [hne, del]))
  | fail)
 (refine CallP.pp (zlN l q1 [112, 101, 114, 105, 111, 100] 3 _ (by first | omega | simp <;> omega | fail) g1 hl) (by first | (simp [hi, hne, del, htE, zaa, getK, zab, zac]; done) | fail) (by rfl) (by first | assumption | (simp; done) | fail) (by rfl) (by simp) (fun u2 q2 h2 => ?_) (fun pos e q' h2 => ⟨_, Wk.refl _, ?_⟩); rotate_left 1; (focus (rw [h2, PR.zaP] at hR; (refine hpan _ _ ⟨{ n := _, env := [], obs := [(3, pOb l q')], next := 4 }, (Wk.cut rfl (by simp [hn]) (by simp [wkO, zaa, getK, zab, zac, Ob.under, D.under, zad, zae, hi, hne, del, htE, zab, zac, zaa, getK]) (by simp [wkU, zal, zaa, getK, D.under, hi, hne, del, htE, zab, zac, zaa, getK]) (by simp [wkE, zal, zaa, getK, hi, hne, del, htE, zab, zac, zaa, getK])), by simp [hn], ?_⟩; try simp); exact PPost.zaG hR.symm)); rw [h2, PR.bind_ok] at hR; (try simp [hi, hne, del, htE]))
 obtain ⟨rfl, _⟩ := zn0 h2
 repeat' (first
  | ((first | refine zag ?_ | refine zaj ?_ | refine zah ?_ | fail); simp [hne, del])
  | (refine zaJ (by first | rfl | fail) ?_; simp [hne, del, frzN, frz1, zaD, zaC, St.frz, St.frzS, frzS, fv, zaV, za8, za9, frzObS, zay, zat, del, frz, zbc])
  | fail)
 (refine CallP.pp (zdZ l q2 [112, 101, 114, 105, 111, 100] 1 1000 [[100, 97, 121, 115], [59]] 3 _ (by first | omega | simp <;> omega | fail) g1 hl (by simp)) (by first | (simp [hi, hne, del, htE, zaa, getK, zab, zac]; done) | fail) (by rfl) (by first | assumption | (simp; done) | fail) (by rfl) (by simp) (fun period q3 h3 => ?_) (fun pos e q' h3 => ⟨_, Wk.refl _, ?_⟩); rotate_left 1; (focus (rw [h3, PR.zaP] at hR; (refine hpan _ _ ⟨{ n := _, env := [], obs := [(3, pOb l q')], next := 4 }, (Wk.cut rfl (by simp [hn]) (by simp [wkO, zaa, getK, zab, zac, Ob.under, D.under, zad, zae, hi, hne, del, htE, zab, zac, zaa, getK]) (by simp [wkU, zal, zaa, getK, D.under, hi, hne, del, htE, zab, zac, zaa, getK]) (by simp [wkE, zal, zaa, getK, hi, hne, del, htE, zab, zac, zaa, getK])), by simp [hn], ?_⟩; try simp); exact PPost.zaG hR.symm)); rw [h3, PR.bind_ok] at hR; (try simp [hi, hne, del, htE]))
 obtain ⟨_, g3⟩ := zd0 hl h3 g1
 repeat' (first
  | ((first | refine zag ?_ | refine zaj ?_ | refine zah ?_ | fail); simp [hne, del])
  | fail)
 have hm := zd1 l q3 [108, 97, 115, 116] g3 hl.len
 repeat' (first
  | (refine zag ?_; simp [hne, del])
  | (refine CallP.fE (hm) (by first | rfl | fail) (by first | simp [hne, del] <;> rfl | fail) ?_; (try simp [hne, del]))
  | fail)
 (refine CallP.pp (zlN l q3 [108, 97, 115, 116] 3 _ (by first | omega | simp <;> omega | fail) g3 hl) (by first | (simp [hi, hne, del, htE, zaa, getK, zab, zac]; done) | fail) (by rfl) (by first | assumption | (simp; done) | fail) (by rfl) (by simp) (fun u4 q4 h4 => ?_) (fun pos e q' h4 => ⟨_, Wk.refl _, ?_⟩); rotate_left 1; (focus (rw [h4, PR.zaP] at hR; (refine hpan _ _ ⟨{ n := _, env := [], obs := [(3, pOb l q')], next := 4 }, (Wk.cut rfl (by simp [hn]) (by simp [wkO, zaa, getK, zab, zac, Ob.under, D.under, zad, zae, hi, hne, del, htE, zab, zac, zaa, getK]) (by simp [wkU, zal, zaa, getK, D.under, hi, hne, del, htE, zab, zac, zaa, getK]) (by simp [wkE, zal, zaa, getK, hi, hne, del, htE, zab, zac, zaa, getK])), by simp [hn], ?_⟩; try simp); exact PPost.zaG hR.symm)); rw [h4, PR.bind_ok] at hR; (try simp [hi, hne, del, htE]))
 obtain ⟨rfl, _⟩ := zn0 h4
 repeat' (first
  | ((first | refine zag ?_ | refine zaj ?_ | refine zah ?_ | fail); simp [hne, del])
  | (refine zaJ (by first | rfl | fail) ?_; simp [hne, del, frzN, frz1, zaD, zaC, St.frz, St.frzS, frzS, fv, zaV, za8, za9, frzObS, zay, zat, del, frz, zbc])
  | fail)
 (refine CallP.pp (zdZ l q4 [108, 97, 115, 116] 1 1000 [[59]] 3 _ (by first | omega | simp <;> omega | fail) g3 hl (by simp)) (by first | (simp [hi, hne, del, htE, zaa, getK, zab, zac]; done) | fail) (by rfl) (by first | assumption | (simp; done) | fail) (by rfl) (by simp) (fun last q5 h5 => ?_) (fun pos e q' h5 => ⟨_, Wk.refl _, ?_⟩); rotate_left 1; (focus (rw [h5, PR.zaP] at hR; (refine hpan _ _ ⟨{ n := _, env := [], obs := [(3, pOb l q')], next := 4 }, (Wk.cut rfl (by simp [hn]) (by simp [wkO, zaa, getK, zab, zac, Ob.under, D.under, zad, zae, hi, hne, del, htE, zab, zac, zaa, getK]) (by simp [wkU, zal, zaa, getK, D.under, hi, hne, del, htE, zab, zac, zaa, getK]) (by simp [wkE, zal, zaa, getK, hi, hne, del, htE, zab, zac, zaa, getK])), by simp [hn], ?_⟩; try simp); exact PPost.zaG hR.symm)); rw [h5, PR.bind_ok] at hR; (try simp [hi, hne, del, htE]))
 obtain ⟨_, g5⟩ := zd0 hl h5 g3
 repeat' (first
  | ((first | refine zag ?_ | refine zaj ?_ | refine zah ?_ | fail); simp [hne, del])
  | (refine zaJ (by first | rfl | fail) ?_; simp [hne, del, frzN, frz1, zaD, zaC, St.frz, St.frzS, frzS, fv, zaV, za8, za9, frzObS, zay, zat, del, frz, zbc])
  | fail)
 (refine CallP.pp (zdZ l q5 [103, 114, 97, 99, 101] 0 1000 [[100, 97, 121, 115], [59]] 3 _ (by first | omega | simp <;> omega | fail) g5 hl (by simp)) (by first | (simp [hi, hne, del, htE, zaa, getK, zab, zac]; done) | fail) (by rfl) (by first | assumption | (simp; done) | fail) (by rfl) (by simp) (fun grace q6 h6 => ?_) (fun pos e q' h6 => ⟨_, Wk.refl _, ?_⟩); rotate_left 1; (focus (rw [h6, PR.zaP] at hR; (refine hpan _ _ ⟨{ n := _, env := [], obs := [(3, pOb l q')], next := 4 }, (Wk.cut rfl (by simp [hn]) (by simp [wkO, zaa, getK, zab, zac, Ob.under, D.under, zad, zae, hi, hne, del, htE, zab, zac, zaa, getK]) (by simp [wkU, zal, zaa, getK, D.under, hi, hne, del, htE, zab, zac, zaa, getK]) (by simp [wkE, zal, zaa, getK, hi, hne, del, htE, zab, zac, zaa, getK])), by simp [hn], ?_⟩; try simp); exact PPost.zaG hR.symm)); rw [h6, PR.bind_ok] at hR; (try simp [hi, hne, del, htE]))
 obtain ⟨_, g6⟩ := zd0 hl h6 g5
 repeat' (first
  | ((first | refine zag ?_ | refine zaj ?_ | refine zah ?_ | fail); simp [hne, del])
  | (refine zaJ (by first | rfl | fail) ?_; simp [hne, del, frzN, frz1, zaD, zaC, St.frz, St.frzS, frzS, fv, zaV, za8, za9, frzObS, zay, zat, del, frz, zbc])
  | fail)
 (refine CallP.pp (zdZ l q6 [119, 97, 105, 116] 0 1000 [[100, 97, 121, 115], [59]] 3 _ (by first | omega | simp <;> omega | fail) g6 hl (by simp)) (by first | (simp [hi, hne, del, htE, zaa, getK, zab, zac]; done) | fail) (by rfl) (by first | assumption | (simp; done) | fail) (by rfl) (by simp) (fun wait q7 h7 => ?_) (fun pos e q' h7 => ⟨_, Wk.refl _, ?_⟩); rotate_left 1; (focus (rw [h7, PR.zaP] at hR; (refine hpan _ _ ⟨{ n := _, env := [], obs := [(3, pOb l q')], next := 4 }, (Wk.cut rfl (by simp [hn]) (by simp [wkO, zaa, getK, zab, zac, Ob.under, D.under, zad, zae, hi, hne, del, htE, zab, zac, zaa, getK]) (by simp [wkU, zal, zaa, getK, D.under, hi, hne, del, htE, zab, zac, zaa, getK]) (by simp [wkE, zal, zaa, getK, hi, hne, del, htE, zab, zac, zaa, getK])), by simp [hn], ?_⟩; try simp); exact PPost.zaG hR.symm)); rw [h7, PR.bind_ok] at hR; (try simp [hi, hne, del, htE]))
 obtain ⟨_, g7⟩ := zd0 hl h7 g6
 repeat' (first
  | ((first | refine zag ?_ | refine zaj ?_ | refine zah ?_ | fail); simp [hne, del])
  | fail)
 (refine CallP.pp (znQ l q7 3 _ (by first | omega | simp <;> omega | fail) g7 hl) (by first | (simp [hi, hne, del, htE, zaa, getK, zab, zac]; done) | fail) (by rfl) (by first | assumption | (simp; done) | fail) (by rfl) (by simp) (fun order q8 h8 => ?_) (fun pos e q' h8 => ⟨_, Wk.refl _, ?_⟩); rotate_left 1; (focus (rw [h8, PR.zaP] at hR; (refine hpan _ _ ⟨{ n := _, env := [], obs := [(3, pOb l q')], next := 4 }, (Wk.cut rfl (by simp [hn]) (by simp [wkO, zaa, getK, zab, zac, Ob.under, D.under, zad, zae, hi, hne, del, htE, zab, zac, zaa, getK]) (by simp [wkU, zal, zaa, getK, D.under, hi, hne, del, htE, zab, zac, zaa, getK]) (by simp [wkE, zal, zaa, getK, hi, hne, del, htE, zab, zac, zaa, getK])), by simp [hn], ?_⟩; try simp); exact PPost.zaG hR.symm)); rw [h8, PR.bind_ok] at hR; (try simp [hi, hne, del, htE]))
 obtain ⟨_, g8⟩ := znR hl h8 g7
 repeat' (first
  | ((first | refine zag ?_ | refine zaj ?_ | refine zah ?_ | fail); simp [hne, del])
  | (refine zaJ (by first | rfl | fail) ?_; simp [hne, del, frzN, frz1, zaD, zaC, St.frz, St.frzS, frzS, fv, zaV, za8, za9, frzObS, zay, zat, del, frz, zbc])
  | fail)
 (refine CallP.pp (zdZ l q8 [98, 97, 99, 107, 115] 0 60 [[59]] 3 _ (by first | omega | simp <;> omega | fail) g8 hl (by simp)) (by first | (simp [hi, hne, del, htE, zaa, getK, zab, zac]; done) | fail) (by rfl) (by first | assumption | (simp; done) | fail) (by rfl) (by simp) (fun backs q9 h9 => ?_) (fun pos e q' h9 => ⟨_, Wk.refl _, ?_⟩); rotate_left 1; (focus (rw [h9, PR.zaP] at hR; (refine hpan _ _ ⟨{ n := _, env := [], obs := [(3, pOb l q')], next := 4 }, (Wk.cut rfl (by simp [hn]) (by simp [wkO, zaa, getK, zab, zac, Ob.under, D.under, zad, zae, hi, hne, del, htE, zab, zac, zaa, getK]) (by simp [wkU, zal, zaa, getK, D.under, hi, hne, del, htE, zab, zac, zaa, getK]) (by simp [wkE, zal, zaa, getK, hi, hne, del, htE, zab, zac, zaa, getK])), by simp [hn], ?_⟩; try simp); exact PPost.zaG hR.symm)); rw [h9, PR.bind_ok] at hR; (try simp [hi, hne, del, htE]))
 obtain ⟨_, g9⟩ := zd0 hl h9 g8
 repeat' (first
  | ((first | refine zag ?_ | refine zaj ?_ | refine zah ?_ | fail); simp [hne, del])
  | (refine zaJ (by first | rfl | fail) ?_; simp [hne, del, frzN, frz1, zaD, zaC, St.frz, St.frzS, frzS, fv, zaV, za8, za9, frzObS, zay, zat, del, frz, zbc])
  | fail)
 (refine CallP.pp (zdZ l q9 [118, 111, 105, 99, 101, 115] 0 1000 [[112, 101, 114], [109, 105, 108, 108, 101], [59]] 3 _ (by first | omega | simp <;> omega | fail) g9 hl (by simp)) (by first | (simp [hi, hne, del, htE, zaa, getK, zab, zac]; done) | fail) (by rfl) (by first | assumption | (simp; done) | fail) (by rfl) (by simp) (fun voices q10 h10 => ?_) (fun pos e q' h10 => ⟨_, Wk.refl _, ?_⟩); rotate_left 1; (focus (rw [h10, PR.zaP] at hR; (refine hpan _ _ ⟨{ n := _, env := [], obs := [(3, pOb l q')], next := 4 }, (Wk.cut rfl (by simp [hn]) (by simp [wkO, zaa, getK, zab, zac, Ob.under, D.under, zad, zae, hi, hne, del, htE, zab, zac, zaa, getK]) (by simp [wkU, zal, zaa, getK, D.under, hi, hne, del, htE, zab, zac, zaa, getK]) (by simp [wkE, zal, zaa, getK, hi, hne, del, htE, zab, zac, zaa, getK])), by simp [hn], ?_⟩; try simp); exact PPost.zaG hR.symm)); rw [h10, PR.bind_ok] at hR; (try simp [hi, hne, del, htE]))
 obtain ⟨_, g10⟩ := zd0 hl h10 g9
 repeat' (first
  | ((first | refine zag ?_ | refine zaj ?_ | refine zah ?_ | fail); simp [hne, del])
  | (refine zaJ (by first | rfl | fail) ?_; simp [hne, del, frzN, frz1, zaD, zaC, St.frz, St.frzS, frzS, fv, zaV, za8, za9, frzObS, zay, zat, del, frz, zbc])
  | fail)
 (refine CallP.pp (zdZ l q10 [106, 117, 114, 121] 0 60 [[59]] 3 _ (by first | omega | simp <;> omega | fail) g10 hl (by simp)) (by first | (simp [hi, hne, del, htE, zaa, getK, zab, zac]; done) | fail) (by rfl) (by first | assumption | (simp; done) | fail) (by rfl) (by simp) (fun jury q11 h11 => ?_) (fun pos e q' h11 => ⟨_, Wk.refl _, ?_⟩); rotate_left 1; (focus (rw [h11, PR.zaP] at hR; (refine hpan _ _ ⟨{ n := _, env := [], obs := [(3, pOb l q')], next := 4 }, (Wk.cut rfl (by simp [hn]) (by simp [wkO, zaa, getK, zab, zac, Ob.under, D.under, zad, zae, hi, hne, del, htE, zab, zac, zaa, getK]) (by simp [wkU, zal, zaa, getK, D.under, hi, hne, del, htE, zab, zac, zaa, getK]) (by simp [wkE, zal, zaa, getK, hi, hne, del, htE, zab, zac, zaa, getK])), by simp [hn], ?_⟩; try simp); exact PPost.zaG hR.symm)); rw [h11, PR.bind_ok] at hR; (try simp [hi, hne, del, htE]))
 obtain ⟨_, g11⟩ := zd0 hl h11 g10
 repeat' (first
  | ((first | refine zag ?_ | refine zaj ?_ | refine zah ?_ | fail); simp [hne, del])
  | (refine zaJ (by first | rfl | fail) ?_; simp [hne, del, frzN, frz1, zaD, zaC, St.frz, St.frzS, frzS, fv, zaV, za8, za9, frzObS, zay, zat, del, frz, zbc])
  | fail)
 (refine CallP.pp (zdZ l q11 [102, 117, 110, 100] 0 1000 [[112, 101, 114], [109, 105, 108, 108, 101], [59]] 3 _ (by first | omega | simp <;> omega | fail) g11 hl (by simp)) (by first | (simp [hi, hne, del, htE, zaa, getK, zab, zac]; done) | fail) (by rfl) (by first | assumption | (simp; done) | fail) (by rfl) (by simp) (fun fund q12 h12 => ?_) (fun pos e q' h12 => ⟨_, Wk.refl _, ?_⟩); rotate_left 1; (focus (rw [h12, PR.zaP] at hR; (refine hpan _ _ ⟨{ n := _, env := [], obs := [(3, pOb l q')], next := 4 }, (Wk.cut rfl (by simp [hn]) (by simp [wkO, zaa, getK, zab, zac, Ob.under, D.under, zad, zae, hi, hne, del, htE, zab, zac, zaa, getK]) (by simp [wkU, zal, zaa, getK, D.under, hi, hne, del, htE, zab, zac, zaa, getK]) (by simp [wkE, zal, zaa, getK, hi, hne, del, htE, zab, zac, zaa, getK])), by simp [hn], ?_⟩; try simp); exact PPost.zaG hR.symm)); rw [h12, PR.bind_ok] at hR; (try simp [hi, hne, del, htE]))
 obtain ⟨_, g12⟩ := zd0 hl h12 g11
 repeat' (first
  | ((first | refine zag ?_ | refine zaj ?_ | refine zah ?_ | fail); simp [hne, del])
  | fail)
 refine zlt _ (Wk.ownC 5 _ 11 137 6 (by decide) rfl rfl) ?_;simp [St.ownC];refine zb4 (α := { x : Nat × List Let × Nat // x.1 < l.length /\ x.2.1.length + x.2.2 = 21 /\ x.2.1.length <= 20 /\ zht l 21 q12 [] = zht l x.2.2 x.1 x.2.1 }) [0, 2, 3] (fun x => [])
  (fun x => [(5, .box [.u (.int .i64 kb.1), .u (.int .i64 period), .u (.int .i64 grace), .u (.int .i64 wait), .u (.int .i64 last), .u (.int .i64 order), .u (.bool kb.2), .u (.int .i64 backs), .u (.int .i64 voices), .u (.int .i64 jury), .u (.int .i64 fund), .vec 14 x.1.2.1.length, .u (.int .i64 0), .u (.int .i64 0), .u (.int .i64 0), .u (.str []), .u .nil, .u (.int .i64 0), .u (.int .i64 0), .u (.int .i64 0), .u (.str []), .u .nil, .u (.int .i64 0), .u (.int .i64 0), .u (.int .i64 0), .u (.str []), .u .nil, .u (.int .i64 0), .u (.int .i64 0), .u (.int .i64 0), .u (.str []), .u .nil, .u (.int .i64 0), .u (.int .i64 0), .u (.int .i64 0), .u (.str []), .u .nil]), (14, .vec 137 6 (rowsD (zgO x.1.2.1))), (4, .box [.u (.int .i64 0), .u (.int .i64 0), .u (.int .i64 0), .u (.int .i64 0), .u (.int .i64 0), .u (.int .i64 0), .u (.bool false), .u (.int .i64 0), .u (.int .i64 0), .u (.int .i64 0), .u (.int .i64 0), .u .nil, .u (.int .i64 0), .u (.int .i64 0), .u (.int .i64 0), .u (.str []), .u .nil, .u (.int .i64 0), .u (.int .i64 0), .u (.int .i64 0), .u (.str []), .u .nil, .u (.int .i64 0), .u (.int .i64 0), .u (.int .i64 0), .u (.str []), .u .nil, .u (.int .i64 0), .u (.int .i64 0), .u (.int .i64 0), .u (.str []), .u .nil, .u (.int .i64 0), .u (.int .i64 0), .u (.int .i64 0), .u (.str []), .u .nil]), (3, pOb l x.1.1)]) 15 (fun x => x.1.2.2) ⟨(q12, [], 21), g12, rfl, by simp, rfl⟩ ?_ ?_
 ·exact (Wk.cut rfl (by simp [hn, St.lp]) (by simp [wkO, St.lp, zaa, getK, Ob.under, D.under, zad, zae, zgO]) (by simp [wkU, St.lp, zal, zaa, getK, D.under, zgO]) (by simp [wkE, St.lp, zal, zaa, getK, zgO] <;> (try (intros; simp_all; done)) <;> (try (intros; omega)) <;> (try grind)))
 rintro ⟨⟨q, acc, g⟩, gq, hg, hg2, hS⟩;simp only at gq hg hg2 hS;simp [St.lp, St.only, zal, zaa, getK];have hm := zd1 l q [108, 101, 116] gq hl.len;have hAl := zog acc;have hsn := zmI acc;generalize hA : zgO acc = A at *;have htk : A.take acc.length = A := List.take_of_length_le (by omega);obtain ⟨g, rfl⟩ : ∃ g', g = g' + 1 := ⟨g - 1, by omega⟩;by_cases hb : isB l q [108, 101, 116] = true
 ·have g1q := zbr hl hb;obtain ⟨t, ht⟩ : ∃ t, l[q + 1]? = some t := ⟨_, List.getElem?_eq_getElem g1q⟩;have hnx := zcv l (q + 1) t ht hl.len;rw [zmH ht, if_pos hb] at hS;rw [hS, PR.zer] at hR;rw [hb] at hm
  repeat' (first
  | ((first | refine zag ?_ | refine zaj ?_ | refine zah ?_ | refine zai ?_ | refine zaA ?_ | fail); simp [hne, del, hAl])
  | (refine zap ?_; simp only [zan])
  | (refine CallP.fE (hm) (by first | rfl | fail) (by first | simp [hne, del, hAl] <;> rfl | fail) ?_; (try simp [hne, del, hAl]))
  | fail)
  (refine CallP.pp (zhJ l q (decide ((acc.length : Int) < 20)) 6 3 _ (by first | omega | simp <;> omega | fail) gq hl) (by first | (simp [hi, hne, del, zaa, getK, zab, zac]; done) | fail) (by rfl) (by first | assumption | (simp; done) | fail) (by rfl) (by simp) (fun u20 q20 h20 => ?_) (fun pos e q' h20 => ⟨_, Wk.refl _, ?_⟩); rotate_left 1; (focus (rw [h20, PR.zaP] at hR; (refine hpan _ _ ⟨{ n := _, env := [], obs := [(3, pOb l q')], next := 4 }, (Wk.cut rfl (by simp [hn]) (by simp [wkO, zaa, getK, zab, zac, Ob.under, D.under, zad, zae, hi, hne, del, zab, zac, zaa, getK]) (by simp [wkU, zal, zaa, getK, D.under, hi, hne, del, zab, zac, zaa, getK]) (by simp [wkE, zal, zaa, getK, hi, hne, del, zab, zac, zaa, getK])), by simp [hn], ?_⟩; try simp); exact PPost.zaG hR.symm)); rw [h20, PR.bind_ok] at hR; (try simp [hi, hne, del]))
  obtain ⟨rfl, hlt⟩ := zoS h20;rw [h20, PR.bind_ok] at hS;rw [PR.zer] at hR;by_cases hw : t.kind = 1
  case neg =>
   have hc2 := fun e nx' (h : 15 <= nx') => zdW l (q20 + 1) t e 3 nx' (by omega) ht hl.len;have e3 : zng l (q20 + 1) (decide (t.kind = 1) && zeA t.text) 12 = .stop t.pos 12 := by
    unfold zng zdO; rw [ht]; simp [hw]
   rw [e3, PR.zaP] at hR
   repeat' (first
  | ((first | refine zag ?_ | refine zaj ?_ | fail); simp [hne, del, hw])
  | (refine ⟨by omega, ?_⟩)
  | (refine zah ?_; simp [hne, del, hw])
  | (refine CallP.fE (hnx) (by first | rfl | fail) (by first | simp [hne, del, hw] <;> rfl | fail) ?_; (try simp [hne, del, hw]))
  | (refine CallP.zeN (hc2 _ _ (by first | omega | simp <;> omega | fail)) (by first | (simp [hne, del, hw, zaa, getK, zab, zac]; done) | fail) (by rfl) (by first | assumption | (simp; done) | fail) (by rfl) (by simp) ?_; rintro ob' ⟨q', rfl⟩; refine ⟨_, Wk.refl _, ?_⟩)
  | fail)
   (refine hpan _ _ ⟨{ n := _, env := [], obs := [(3, pOb l q')], next := 4 }, (Wk.cut rfl (by simp [hn]) (by simp [wkO, zaa, getK, zab, zac, Ob.under, D.under, zad, zae, hi, hne, zab, zac, zaa, getK]) (by simp [wkU, zal, zaa, getK, D.under, hi, hne, zab, zac, zaa, getK]) (by simp [wkE, zal, zaa, getK, hi, hne, zab, zac, zaa, getK])), by simp [hn], ?_⟩; try simp)
   exact PPost.zaG hR.symm
  have hnm := zgX t.text;have e3 : (decide (t.kind = 1) && zeA t.text) = zeA t.text := by simp [hw]
  rw [e3] at hR hS;generalize zeA t.text = nb at hnm hR hS
  repeat' (first
  | ((first | refine zag ?_ | refine zaj ?_ | fail); simp [hne, del, hw])
  | (refine ⟨by omega, ?_⟩)
  | (refine zah ?_; simp [hne, del, hw])
  | (refine CallP.fE (hnx) (by first | rfl | fail) (by first | simp [hne, del, hw] <;> rfl | fail) ?_; (try simp [hne, del, hw]))
  | (refine CallP.fE (hnm) (by first | rfl | fail) (by first | simp [hne, del, hw] <;> rfl | fail) ?_; (try simp [hne, del, hw]))
  | fail)
  (refine CallP.pp (zhJ l (q20 + 1) nb 12 3 _ (by first | omega | simp <;> omega | fail) g1q hl) (by first | (simp [hi, hne, del, zaa, getK, zab, zac]; done) | fail) (by rfl) (by first | assumption | (simp; done) | fail) (by rfl) (by simp) (fun u21 q21 h21 => ?_) (fun pos e q' h21 => ⟨_, Wk.refl _, ?_⟩); rotate_left 1; (focus (rw [h21, PR.zaP] at hR; (refine hpan _ _ ⟨{ n := _, env := [], obs := [(3, pOb l q')], next := 4 }, (Wk.cut rfl (by simp [hn]) (by simp [wkO, zaa, getK, zab, zac, Ob.under, D.under, zad, zae, hi, hne, del, zab, zac, zaa, getK]) (by simp [wkU, zal, zaa, getK, D.under, hi, hne, del, zab, zac, zaa, getK]) (by simp [wkE, zal, zaa, getK, hi, hne, del, zab, zac, zaa, getK])), by simp [hn], ?_⟩; try simp); exact PPost.zaG hR.symm)); rw [h21, PR.bind_ok] at hR; (try simp [hi, hne, del]))
  obtain ⟨rfl, hnb⟩ := zoS h21;rw [h21, PR.bind_ok] at hS;rw [PR.zer] at hR;have htw := znv acc t.text;have htw : Fun Tryz.prog 90 [.u (.sl (zgO acc)), .fnc (.func 128) [.u (.row [.str t.text] 0)]] (· = .u (.bool (acc.any fun x => decide (x.name = t.text)))) := htw;rw [hA] at htw;generalize (acc.any fun x => decide (x.name = t.text)) = tb at htw hR hS
  repeat' (first
  | ((first | refine zag ?_ | refine zaj ?_ | refine zah ?_ | fail); simp [hne, del, hw, htk, hAl])
  | (refine CallP.fE (htw) (by first | rfl | fail) (by first | simp [hne, del, hw, htk, hAl] <;> rfl | fail) ?_; (try simp [hne, del, hw, htk, hAl]))
  | fail)
  (refine CallP.pp (zhJ l (q20 + 1) (!tb) 5 3 _ (by first | omega | simp <;> omega | fail) g1q hl) (by first | (simp [hi, hne, del, zaa, getK, zab, zac]; done) | fail) (by rfl) (by first | assumption | (simp; done) | fail) (by rfl) (by simp) (fun u22 q22 h22 => ?_) (fun pos e q' h22 => ⟨_, Wk.refl _, ?_⟩); rotate_left 1; (focus (rw [h22, PR.zaP] at hR; (refine hpan _ _ ⟨{ n := _, env := [], obs := [(3, pOb l q')], next := 4 }, (Wk.cut rfl (by simp [hn]) (by simp [wkO, zaa, getK, zab, zac, Ob.under, D.under, zad, zae, hi, hne, del, zab, zac, zaa, getK]) (by simp [wkU, zal, zaa, getK, D.under, hi, hne, del, zab, zac, zaa, getK]) (by simp [wkE, zal, zaa, getK, hi, hne, del, zab, zac, zaa, getK])), by simp [hn], ?_⟩; try simp); exact PPost.zaG hR.symm)); rw [h22, PR.bind_ok] at hR; (try simp [hi, hne, del]))
  obtain ⟨rfl, htb⟩ := zoS h22;rw [h22, PR.bind_ok] at hS;rw [PR.zer] at hR;have g2q := hl.fin (q20 + 1) t ht (by omega)
  repeat' (first
  | ((first | refine zag ?_ | refine zaj ?_ | fail); simp [hne, del])
  | (refine ⟨by omega, ?_⟩)
  | (refine zah ?_; simp [hne, del])
  | (refine zaJ (by first | rfl | fail) ?_; simp [hne, del, frzN, frz1, zaD, zaC, St.frz, St.frzS, frzS, fv, zaV, za8, za9, frzObS, zay, zat, del, frz, zbc])
  | fail)
  (refine CallP.pp (zeO hl [61] (q := q20 + 1 + 1) (i := 3) (by first | omega | simp <;> omega | fail) g2q) (by first | (simp [hi, hne, del, zaa, getK, zab, zac]; done) | fail) (by rfl) (by first | assumption | (simp; done) | fail) (by rfl) (by simp) (fun u23 q23 h23 => ?_) (fun pos e q' h23 => ⟨_, Wk.refl _, ?_⟩); rotate_left 1; (focus (rw [h23, PR.zaP] at hR; (refine hpan _ _ ⟨{ n := _, env := [], obs := [(3, pOb l q')], next := 4 }, (Wk.cut rfl (by simp [hn]) (by simp [wkO, zaa, getK, zab, zac, Ob.under, D.under, zad, zae, hi, hne, del, zab, zac, zaa, getK]) (by simp [wkU, zal, zaa, getK, D.under, hi, hne, del, zab, zac, zaa, getK]) (by simp [wkE, zal, zaa, getK, hi, hne, del, zab, zac, zaa, getK])), by simp [hn], ?_⟩; try simp); exact PPost.zaG hR.symm)); rw [h23, PR.bind_ok] at hR; (try simp [hi, hne, del]))
  obtain ⟨_, g23⟩ := za6 hl _ h23 g2q;rw [h23, PR.bind_ok] at hS;rw [PR.zer] at hR;have hwh := fun nx' (h : 15 <= nx') => zg7 l q23 3 nx' (by omega) g23 hl hl2;cases hr : zeJ l q23 with
  | stop pos e =>
   rw [hr, PR.zaP] at hR;simp only [hr] at hwh
   repeat' (first
  | (refine zgb (fun nx' h' => hwh nx' (by simp at h'; omega)) (by first | (simp [hne, del, htk, hAl, zaa, getK, zab, zac, zam, zaY]; done) | fail) (by rfl) (by first | assumption | simp) (by rfl) (by simp) ?_ ?_; rintro env' ob' n' hn' ⟨q', rfl⟩; refine ⟨_, Wk.refl _, ?_⟩)
  | (refine zfc rfl (by simp) ?_; simp)
  | ((first | refine zbW rfl ?_ | refine zaj ?_ | fail); simp [hne, del, htk, hAl])
  | (refine zgc (hC _ (by kernel_rfl)) rfl; done)
  | (refine zbV rfl (by kernel_rfl) (by first | (simp [hn]; done) | (simp [hn]; omega) | fail) fun C k hC hk => ?_; simp [hne, del, htk, hAl])
  | fail)
   (refine hpan _ _ ⟨{ n := _, env := [], obs := [(3, pOb l q')], next := 4 }, (Wk.cut rfl (by simp [hn]) (by simp [wkO, zaa, getK, zab, zac, Ob.under, D.under, zad, zae, hi, hne, zab, zac, zaa, getK]) (by simp [wkU, zal, zaa, getK, D.under, hi, hne, zab, zac, zaa, getK]) (by simp [wkE, zal, zaa, getK, hi, hne, zab, zac, zaa, getK])), by simp [hn], ?_⟩; try simp)
   exact PPost.zaG hR.symm
  | ok e r =>
   have hwh := fun nx' h => zdB (hwh nx' h) hr;obtain ⟨_, g24⟩ := zg9 hl hr g23;rw [hr, PR.bind_ok] at hS
   repeat' (first
  | (refine zhP (fun nx' h' => hwh nx' (by simp at h'; omega)) (by first | (simp [hne, del, htk, hAl, zaa, getK, zab, zac, zam, zaY]; done) | fail) (by rfl) (by first | assumption | simp) (by rfl) (by simp [D.under, Ob.under]) (by simp) ?_; (try simp [hne, del, htk, hAl]))
  | ((first | refine zbW rfl ?_ | refine zdt rfl ?_ | refine zaj ?_ | fail); simp [hne, del, htk, hAl])
  | (refine ⟨by omega, ?_⟩)
  | (refine zcu (hC _ (by kernel_rfl)) (hk _ ?_); clear hC hk C k; simp only [zan])
  | (refine zbV rfl (by kernel_rfl) (by first | (simp [hn]; done) | (simp [hn]; omega) | fail) fun C k hC hk => ?_; simp [hne, del, htk, hAl])
  | fail)
   have hlt' : acc.length < 20 := by have := of_decide_eq_true hlt; omega
   refine LoopW.next ⟨(r, acc ++ [⟨t.text, e⟩], g), g24, (by simp; omega), (by simp; omega), hS⟩ (by simp) ?_
   exact (Wk.ren ((fun j => if j = 14 then 18 else j)) rfl (by first | (simp [hn]; done) | (intro i hi; rw [hn] at hi; constructor <;> (try simp) <;> (try (intro _)) <;> omega)) (by simp [zhW, St.lp, zal, zaa, getK, zac, zam, D.under, D.le, D.ren, hsn, htk] <;> (try (intros; simp_all; done)) <;> (try omega)) (by simp [wkR, St.lp, zaa, getK, zac, zam, obR, leU, zbR, zaX, Ob.under, D.under, D.le, D.ren, hsn, htk] <;> (try (intros; simp_all; done)) <;> (try omega)) (by simp [hsn, htk]))
 ·rw [zof hb] at hS;rw [hS, PR.bind_ok] at hR;have hb2 : isB l q [108, 101, 116] = false := by simpa using hb
  rw [hb2] at hm
  repeat' (first
  | ((first | refine zag ?_ | refine zaj ?_ | refine zah ?_ | refine zai ?_ | fail); simp [hne, del])
  | (refine zaZ ?_; simp [zan])
  | (refine CallP.fE (hm) (by first | rfl | fail) (by first | simp [hne, del] <;> rfl | fail) ?_; (try simp [hne, del]))
  | (refine zaJ (by first | rfl | fail) ?_; simp [hne, del, frzN, frz1, zaD, zaC, St.frz, St.frzS, frzS, fv, zaV, za8, za9, frzObS, zay, zat, del, frz, zbc])
  | fail)
  (refine CallP.pp (zeO hl [100, 117, 101] (q := q) (i := 3) (by first | omega | simp <;> omega | fail) gq) (by first | (simp [hi, hne, del, zaa, getK, zab, zac]; done) | fail) (by rfl) (by first | assumption | (simp; done) | fail) (by rfl) (by simp) (fun u30 q30 h30 => ?_) (fun pos e q' h30 => ⟨_, Wk.refl _, ?_⟩); rotate_left 1; (focus (rw [h30, PR.zaP] at hR; (refine hpan _ _ ⟨{ n := _, env := [], obs := [(3, pOb l q')], next := 4 }, (Wk.cut rfl (by simp [hn]) (by simp [wkO, zaa, getK, zab, zac, Ob.under, D.under, zad, zae, hi, hne, del, zab, zac, zaa, getK]) (by simp [wkU, zal, zaa, getK, D.under, hi, hne, del, zab, zac, zaa, getK]) (by simp [wkE, zal, zaa, getK, hi, hne, del, zab, zac, zaa, getK])), by simp [hn], ?_⟩; try simp); exact PPost.zaG hR.symm)); rw [h30, PR.bind_ok] at hR; (try simp [hi, hne, del]))
  obtain ⟨_, g30⟩ := za6 hl _ h30 gq
  repeat' (first
  | ((first | refine zag ?_ | refine zaj ?_ | refine zah ?_ | fail); simp [hne, del])
  | fail)
  (refine CallP.pp (zg7 l q30 3 _ (by first | omega | simp <;> omega | fail) g30 hl hl2) (by first | (simp [hi, hne, del, zeP, Exp.row_eq, zaa, getK, zab, zac]; done) | fail) (by rfl) (by first | assumption | (simp; done) | fail) (by rfl) (by simp) (fun due q31 h31 => ?_) (fun pos e q' h31 => ⟨_, Wk.refl _, ?_⟩); rotate_left 1; (focus (rw [h31, PR.zaP] at hR; (refine hpan _ _ ⟨{ n := _, env := [], obs := [(3, pOb l q')], next := 4 }, (Wk.cut rfl (by simp [hn]) (by simp [wkO, zaa, getK, zab, zac, Ob.under, D.under, zad, zae, hi, hne, del, zeP, Exp.row_eq, zab, zac, zaa, getK]) (by simp [wkU, zal, zaa, getK, D.under, hi, hne, del, zeP, Exp.row_eq, zab, zac, zaa, getK]) (by simp [wkE, zal, zaa, getK, hi, hne, del, zeP, Exp.row_eq, zab, zac, zaa, getK])), by simp [hn], ?_⟩; try simp); exact PPost.zaG hR.symm)); rw [h31, PR.bind_ok] at hR; (try simp [hi, hne, del, zeP, Exp.row_eq]))
  obtain ⟨_, g31⟩ := zg9 hl h31 g30
  repeat' (first
  | ((first | refine zag ?_ | refine zaj ?_ | refine zah ?_ | fail); simp [hne, del])
  | fail)
  (refine CallP.pp (zfo l q31 [102, 105, 110, 101] 3 _ (by first | omega | simp <;> omega | fail) g31 hl hl2) (by first | (simp [hi, hne, del, zeP, Exp.row_eq, zaa, getK, zab, zac]; done) | fail) (by rfl) (by first | assumption | (simp; done) | fail) (by rfl) (by simp) (fun fine q32 h32 => ?_) (fun pos e q' h32 => ⟨_, Wk.refl _, ?_⟩); rotate_left 1; (focus (rw [h32, PR.zaP] at hR; (refine hpan _ _ ⟨{ n := _, env := [], obs := [(3, pOb l q')], next := 4 }, (Wk.cut rfl (by simp [hn]) (by simp [wkO, zaa, getK, zab, zac, Ob.under, D.under, zad, zae, hi, hne, del, zeP, Exp.row_eq, zab, zac, zaa, getK]) (by simp [wkU, zal, zaa, getK, D.under, hi, hne, del, zeP, Exp.row_eq, zab, zac, zaa, getK]) (by simp [wkE, zal, zaa, getK, hi, hne, del, zeP, Exp.row_eq, zab, zac, zaa, getK])), by simp [hn], ?_⟩; try simp); exact PPost.zaG hR.symm)); rw [h32, PR.bind_ok] at hR; (try simp [hi, hne, del, zeP, Exp.row_eq]))
  obtain ⟨_, g32⟩ := zfp hl h32 g31
  repeat' (first
  | (refine zag ?_; simp [hne, del])
  | fail)
  (refine CallP.pp (zfo l q32 [112, 97, 121] 3 _ (by first | omega | simp <;> omega | fail) g32 hl hl2) (by first | (simp [hi, hne, del, zeP, Exp.row_eq, zaa, getK, zab, zac]; done) | fail) (by rfl) (by first | assumption | (simp; done) | fail) (by rfl) (by simp) (fun pay q33 h33 => ?_) (fun pos e q' h33 => ⟨_, Wk.refl _, ?_⟩); rotate_left 1; (focus (rw [h33, PR.zaP] at hR; (refine hpan _ _ ⟨{ n := _, env := [], obs := [(3, pOb l q')], next := 4 }, (Wk.cut rfl (by simp [hn]) (by simp [wkO, zaa, getK, zab, zac, Ob.under, D.under, zad, zae, hi, hne, del, zeP, Exp.row_eq, zab, zac, zaa, getK]) (by simp [wkU, zal, zaa, getK, D.under, hi, hne, del, zeP, Exp.row_eq, zab, zac, zaa, getK]) (by simp [wkE, zal, zaa, getK, hi, hne, del, zeP, Exp.row_eq, zab, zac, zaa, getK])), by simp [hn], ?_⟩; try simp); exact PPost.zaG hR.symm)); rw [h33, PR.bind_ok] at hR; (try simp [hi, hne, del, zeP, Exp.row_eq]))
  obtain ⟨_, g33⟩ := zfp hl h33 g32
  repeat' (first
  | (refine zag ?_; simp [hne, del])
  | fail)
  (refine CallP.pp (zfo l q33 [99, 111, 118, 101, 114] 3 _ (by first | omega | simp <;> omega | fail) g33 hl hl2) (by first | (simp [hi, hne, del, zeP, Exp.row_eq, zaa, getK, zab, zac]; done) | fail) (by rfl) (by first | assumption | (simp; done) | fail) (by rfl) (by simp) (fun cover q34 h34 => ?_) (fun pos e q' h34 => ⟨_, Wk.refl _, ?_⟩); rotate_left 1; (focus (rw [h34, PR.zaP] at hR; (refine hpan _ _ ⟨{ n := _, env := [], obs := [(3, pOb l q')], next := 4 }, (Wk.cut rfl (by simp [hn]) (by simp [wkO, zaa, getK, zab, zac, Ob.under, D.under, zad, zae, hi, hne, del, zeP, Exp.row_eq, zab, zac, zaa, getK]) (by simp [wkU, zal, zaa, getK, D.under, hi, hne, del, zeP, Exp.row_eq, zab, zac, zaa, getK]) (by simp [wkE, zal, zaa, getK, hi, hne, del, zeP, Exp.row_eq, zab, zac, zaa, getK])), by simp [hn], ?_⟩; try simp); exact PPost.zaG hR.symm)); rw [h34, PR.bind_ok] at hR; (try simp [hi, hne, del, zeP, Exp.row_eq]))
  obtain ⟨_, g34⟩ := zfp hl h34 g33
  repeat' (first
  | (refine zag ?_; simp [hne, del])
  | fail)
  (refine CallP.pp (zfo l q34 [104, 111, 108, 100] 3 _ (by first | omega | simp <;> omega | fail) g34 hl hl2) (by first | (simp [hi, hne, del, zeP, Exp.row_eq, zaa, getK, zab, zac]; done) | fail) (by rfl) (by first | assumption | (simp; done) | fail) (by rfl) (by simp) (fun hold q35 h35 => ?_) (fun pos e q' h35 => ⟨_, Wk.refl _, ?_⟩); rotate_left 1; (focus (rw [h35, PR.zaP] at hR; (refine hpan _ _ ⟨{ n := _, env := [], obs := [(3, pOb l q')], next := 4 }, (Wk.cut rfl (by simp [hn]) (by simp [wkO, zaa, getK, zab, zac, Ob.under, D.under, zad, zae, hi, hne, del, zeP, Exp.row_eq, zab, zac, zaa, getK]) (by simp [wkU, zal, zaa, getK, D.under, hi, hne, del, zeP, Exp.row_eq, zab, zac, zaa, getK]) (by simp [wkE, zal, zaa, getK, hi, hne, del, zeP, Exp.row_eq, zab, zac, zaa, getK])), by simp [hn], ?_⟩; try simp); exact PPost.zaG hR.symm)); rw [h35, PR.bind_ok] at hR; (try simp [hi, hne, del, zeP, Exp.row_eq]))
  obtain ⟨_, g35⟩ := zfp hl h35 g34;obtain ⟨t, ht⟩ : ∃ t, l[q35]? = some t := ⟨_, List.getElem?_eq_getElem g35⟩;have hnx := zcv l q35 t ht hl.len
  repeat' (first
  | ((first | refine zag ?_ | refine zaj ?_ | refine zah ?_ | fail); simp [hne, del])
  | (refine CallP.fE (hnx) (by first | rfl | fail) (by first | simp [hne, del] <;> rfl | fail) ?_; (try simp [hne, del]))
  | fail)
  (refine CallP.pp (zrF ht 3 _ (by first | omega | simp <;> omega | fail) hl) (by first | (simp [hi, hne, del, zaa, getK, zab, zac]; done) | fail) (by rfl) (by first | assumption | (simp; done) | fail) (by rfl) (by simp) (fun u36 q36 h36 => ?_) (fun pos e q' h36 => ⟨_, Wk.refl _, ?_⟩); rotate_left 1; (focus (rw [h36, PR.zaP] at hR; (refine hpan _ _ ⟨{ n := _, env := [], obs := [(3, pOb l q')], next := 4 }, (Wk.cut rfl (by simp [hn]) (by simp [wkO, zaa, getK, zab, zac, Ob.under, D.under, zad, zae, hi, hne, del, zab, zac, zaa, getK]) (by simp [wkU, zal, zaa, getK, D.under, hi, hne, del, zab, zac, zaa, getK]) (by simp [wkE, zal, zaa, getK, hi, hne, del, zab, zac, zaa, getK])), by simp [hn], ?_⟩; try simp); exact PPost.zaG hR.symm)); rw [h36, PR.bind_ok] at hR; (try simp [hi, hne, del]))
  obtain rfl := zsE h36
  repeat' (first
  | ((first | refine zag ?_ | refine zaj ?_ | refine zah ?_ | fail); simp [hne, del])
  | (refine zar ?_; simp only [zan])
  | fail)
  (refine EndW.frzN 1 ?_; simp [frzN, frz1, zaD, zaC, St.frz, St.frzS, frzS, fv, zaV, za8, za9, frzObS, zay, zat, del, frz, zbc, hAl, htk])
  refine EndW.norm ?_;simp [St.norm, zbg, zbZ, zcd, zce, hne]
  (refine EndW.here ?_; (first | (refine EndOK.fin (.inr rfl) ?_) | (refine EndOK.fin (.inl rfl) ?_)); simp [zaK, zaf, Tryz.results64, hne, hi]; refine FinOK.cut [(3, pOb l q36)] (4) (by simp [zaa, getK, zab, zac, Ob.under, D.under, zad, zae, hne, hi] <;> omega) (by simp [D.under]) (by simp [hn]) ?_; try simp)
  exact PPost.zcQ hR.symm (by simp [zbu, <- hA, zgO]) rfl
end Go.Proofs.YtepiegcjnaohjaaGreatDoor
namespace Go.Proofs.YtepiegcjnaohjaaGreatDoor
open Go Go.VL
def zeroBy : By := ⟨0, 0, 0, 0, 0, 0, false, 0, 0, 0, 0, [], zg6, zg6, zg6, zg6, zg6⟩
def zcF (s : W8) : By × Int × Int := match zmF s with
 | .error (p, e) => (zeroBy, p, e)
 | .ok l => match zqr l with
  | .stop pos e => (zeroBy, pos, e)
  | .ok b _ => (b, 0, 0)
def zsJ (r : By × Int × Int) : D := .tup [.u (.agg (zbu r.1)), .u (.int .i64 r.2.1), .u (.int .i64 r.2.2)]
abbrev zqs : Ob := .box [.u (.int .i64 0), .u (.int .i64 0), .u (.int .i64 0), .u (.int .i64 0), .u (.int .i64 0), .u (.int .i64 0), .u (.bool false), .u (.int .i64 0), .u (.int .i64 0), .u (.int .i64 0), .u (.int .i64 0), .u .nil, .u (.int .i64 0), .u (.int .i64 0), .u (.int .i64 0), .u (.str []), .u .nil, .u (.int .i64 0), .u (.int .i64 0), .u (.int .i64 0), .u (.str []), .u .nil, .u (.int .i64 0), .u (.int .i64 0), .u (.int .i64 0), .u (.str []), .u .nil, .u (.int .i64 0), .u (.int .i64 0), .u (.int .i64 0), .u (.str []), .u .nil, .u (.int .i64 0), .u (.int .i64 0), .u (.int .i64 0), .u (.str []), .u .nil]
end Go.Proofs.YtepiegcjnaohjaaGreatDoor
namespace Go.Proofs.YtepiegcjnaohjaaGreatDoor
open Go Go.VL
mutual
def zsv : Exp -> Int
 | .mk _ _ _ _ args => zod args + 1
def zod : List Exp -> Int
 | [] => 0
 | e :: l => max (zsv e) (zod l)
end
theorem zh5 (l : List Int) (a : Int) (ha : 0 <= a) : l.foldl max a = max a (l.foldl max 0) := by
 induction l generalizing a with
 | nil => simp; omega
 | cons b l ih => simp only [List.foldl_cons]; rw [ih (max a b) (by omega), ih (max 0 b) (by omega)]; omega
mutual
theorem zoe : ∀ e : Exp, zsv e = e.lev
 | .mk op n u s args => by rw [zsv, Exp.zhT, zlS]; rfl
theorem zlS : ∀ l : List Exp, zod l = (l.map Exp.lev).foldl max 0
 | [] => by rw [zod]; rfl
 | e :: l => by
  have := e.lev_pos;rw [zod, zoe, zlS, List.map_cons, List.foldl_cons, zh5 (l.map Exp.lev) (max 0 e.lev) (by omega)];omega
end
def zt0 (s : List UInt8) : Exp × Int × Int := match zmF s with
 | .error (p, e) => (zg6, p, e)
 | .ok l => match zeM l (4 * l.length + 3) 0 0 with
  | .stop pos e => (zg6, pos, e)
  | .ok y q => if zsy l q ≠ 0 then (zg6, zdO l q, 12) else if 12 < zsv y then (zg6, zdO l q, 6) else (y, 0, 0)
def zjz (l : List Tok) (p : Nat) : PR Exp := (zeM l (4 * l.length + 3) p 0).bind fun e q =>
 if isB l q [59] = true then if zsv e <= 12 then .ok e (q + 1) else .stop (zdO l q) 6 else .stop (zdO l q) 12
def zpL (l : List Tok) : Nat -> Nat -> List Let -> PR (List Let)
 | 0, _, _ => .stop 0 0
 | f + 1, p, acc => if isB l p [108, 101, 116] = true then
   if acc.length < 20 then match l[p + 1]? with
    | none => .stop 0 0
    | some t => if t.kind = 1 ∧ zeA t.text = true then
          if (acc.any fun x => decide (x.name = t.text)) = true then .stop t.pos 5
          else (zb7 l (p + 2) [[61]]).bind fun _ q => (zjz l q).bind fun e r => zpL l f r (acc ++ [⟨t.text, e⟩])
     else .stop t.pos 12
   else .stop (zdO l p) 6
  else .ok acc p
def zgx (l : List Tok) (p : Nat) (word : W8) : PR Exp := if isB l p word = true then zjz l (p + 1) else .ok nothingE p
def ztL (l : List Tok) : PR By :=
 (zlc l 0).bind fun k p => (zk6 l p [112, 101, 114, 105, 111, 100]).bind fun _ p => (zdX l p [112, 101, 114, 105, 111, 100] 1 1000 [[100, 97, 121, 115], [59]]).bind fun period p =>
 (zk6 l p [108, 97, 115, 116]).bind fun _ p => (zdX l p [108, 97, 115, 116] 1 1000 [[59]]).bind fun last p =>
 (zdX l p [103, 114, 97, 99, 101] 0 1000 [[100, 97, 121, 115], [59]]).bind fun grace p => (zdX l p [119, 97, 105, 116] 0 1000 [[100, 97, 121, 115], [59]]).bind fun wait p =>
 (zhl l p).bind fun order p => (zdX l p [98, 97, 99, 107, 115] 0 60 [[59]]).bind fun backs p => (zdX l p [118, 111, 105, 99, 101, 115] 0 1000 [[112, 101, 114], [109, 105, 108, 108, 101], [59]]).bind fun voices p =>
 (zdX l p [106, 117, 114, 121] 0 60 [[59]]).bind fun jury p => (zdX l p [102, 117, 110, 100] 0 1000 [[112, 101, 114], [109, 105, 108, 108, 101], [59]]).bind fun fund p =>
 (zpL l 21 p []).bind fun lets p => (zb7 l p [[100, 117, 101]]).bind fun _ p => (zjz l p).bind fun due p =>
 (zgx l p [102, 105, 110, 101]).bind fun fine p => (zgx l p [112, 97, 121]).bind fun pay p => (zgx l p [99, 111, 118, 101, 114]).bind fun cover p => (zgx l p [104, 111, 108, 100]).bind fun hold p =>
 (zrG l p).bind fun _ p => .ok ⟨k.1, period, grace, wait, last, order, k.2, backs, voices, jury, fund, lets, due, fine, pay, cover, hold⟩ p
theorem zg8 : zeJ = zjz := by
 funext l p;unfold zeJ zjz;simp only [zoe]
theorem zlT (l : List Tok) : ∀ f p acc, zht l f p acc = zpL l f p acc
 | 0, p, acc => rfl
 | f + 1, p, acc => by
  rw [zht, zpL, zg8];simp only [zlT l f]
  try rfl
theorem zm9 : zd9 = zgx := by
 funext l p w;unfold zd9 zgx;rw [zg8]
theorem zrL (l : List Tok) : zqr l = ztL l := by
 unfold zqr ztL;rw [zg8, zm9];simp only [zlT]
def zlK (s : W8) : By × Int × Int := match zmF s with
 | .error (p, e) => (zeroBy, p, e)
 | .ok l => match ztL l with
  | .stop pos e => (zeroBy, pos, e)
  | .ok b _ => (b, 0, 0)
theorem zj1 (s : W8) : zcF s = zlK s := by
 unfold zcF zlK;simp only [zrL]
 try rfl
end Go.Proofs.YtepiegcjnaohjaaGreatDoor
namespace Go.Proofs.YtepiegcjnaohjaaGreatDoor
open Go Go.VL
abbrev zoC : W8 := [99, 105, 114, 99, 108, 101, 32, 115, 97, 118, 105, 110, 103, 32, 59, 32, 112, 101, 114, 105, 111, 100, 32, 55, 32, 100, 97, 121, 115, 32, 59, 32, 108, 97, 115, 116, 32, 49, 48, 32, 59, 32, 100, 117, 101, 32, 53, 32, 99, 111, 105, 110, 115, 32, 59]
def bG : By := ⟨2, 7, 0, 0, 10, 0, false, 0, 0, 0, 0, [], .mk 0 5 3 [] [], nothingE, nothingE, nothingE, nothingE⟩
theorem gv1 : zlK zoC = (bG, 0, 0) := by kernel_rfl
theorem gv2 : zlK [99, 105, 114, 99, 108, 101] = (zeroBy, 6, 12) := by kernel_rfl
theorem gv3 : (zep bG).2 = 0 := by kernel_rfl
theorem gv4 : Df.rightL (zlq bG) 5 = true := by kernel_rfl
theorem gv5 : zdb bG = true := by kernel_rfl
theorem gv6 : Df.Sol (zlq bG) (fun n => [0, 7, 6, 6, 13].getD n 0) := by
 unfold zlq;rw [if_pos gv5];intro c hc;simp only [List.mem_cons, List.mem_nil_iff, or_false] at hc;rcases hc with rfl | rfl | rfl | rfl | rfl | rfl | rfl | rfl | rfl | rfl <;> decide
theorem zmk {l : List Df.Con} {n : Int} {V C E} (h : Df.SolveSpec l n V C E) (hr : Df.rightL l n = true) (y : Nat -> Int) (hy : Df.Sol l y) : E = 0 := by
 rcases h with ⟨h1, _⟩ | ⟨_, ⟨_, _, _, _, _, rfl⟩ | ⟨h1, _⟩⟩
 ·rw [hr] at h1; cases h1
 ·rfl
 ·exact absurd hy (h1 y)
end Go.Proofs.YtepiegcjnaohjaaGreatDoor
namespace Go.Proofs.YtepiegcjnaohjaaGreatDoor
open Go Go.VL
def u8s (l : List Int) : U := .sl (l.map fun n => [.int .u8 n])
def vlM (members : List Int) (y : Int) (k : Nat) : List Vo := (List.range k).map fun j : Nat => (⟨(j : Int), members.getD j 0, decide ((j : Int) < y), 0⟩ : Vo)
theorem zpp (members : List Int) (y : Int) (k : Nat) (x : Int) (hx : members[k]? = some x) : vlM members y (k + 1) = vlM members y k ++ [⟨k, x, decide ((k : Int) < y), 0⟩] := by
 simp [vlM, List.range_succ, List.getD, hx]
theorem ziT (members : List Int) (y : Int) (k : Nat) : (vlM members y k).length = k := by simp [vlM]
theorem znq (members : List Int) (y : Int) : (vlM members y members.length).map (·.who) = members := by
 apply List.ext_getElem?;intro j;simp only [vlM, List.map_map, List.getElem?_map];by_cases h : j < members.length
 ·simp [h, List.getD]
 ·simp [h]
theorem zoQ {members : List Int} {u : Int} : ∀ (L : List Vo) (seen : List Int), (L.map (·.who)).Nodup -> (∀ v ∈ L, v.day <= u /\ v.who ∈ members /\ v.who ∉ seen) -> cnt members u seen L = L
 | [], _, _, _ => rfl
 | v :: L, seen, hd, h => by
  obtain ⟨h1, h2, h3⟩ := h v (by simp);rw [List.map_cons, List.nodup_cons] at hd;rw [cnt, if_neg (by rintro (h | h | h); omega; exact h3 h; exact h h2), zoQ L _ hd.2 fun w hw => ?_];obtain ⟨g1, g2, g3⟩ := h w (by simp [hw]);refine ⟨g1, g2, fun hm => ?_⟩;rcases List.mem_append.1 hm with hm | hm
  ·exact g3 hm
  ·simp at hm;exact hd.1 (List.mem_map.2 ⟨w, hw, hm⟩)
theorem zqd {members : List Int} (hv : zdw members = true) (y u : Int) (hu : 0 <= u) : zf6 members u (vlM members y members.length) = vlM members y members.length := by
 obtain ⟨_, _, h3, _⟩ := zgd hv;rw [zf6, if_pos hv];refine zoQ _ _ (by rw [znq]; exact h3) fun v hvm => ⟨?_, ?_, by simp⟩
 ·obtain ⟨j, _, rfl⟩ := List.mem_map.1 hvm; exact hu
 ·have h9 : v.who ∈ (vlM members y members.length).map (·.who) := List.mem_map.2 ⟨v, hvm, rfl⟩
  rwa [znq] at h9
theorem zqR (members : List Int) (y : Int) (hy : 0 <= y) : ∀ k, zic (vlM members y k) = min y.toNat k
 | 0 => by simp [zic, vlM]
 | k + 1 => by
  have e : vlM members y (k + 1) = vlM members y k ++ [⟨k, members.getD k 0, decide ((k : Int) < y), 0⟩] := by simp [vlM, List.range_succ]
  have ih := zqR members y hy k;rw [e, zic, List.filter_append, List.length_append];rw [zic] at ih;rw [ih];by_cases h : (k : Int) < y
  ·simp [h]; omega
  ·simp [h]; omega
theorem zpt {members : List Int} (hv : zdw members = true) {n y : Int} (hn : 0 <= n /\ n <= 1000) (hy : 0 <= y) : (zcU members.length n).2 = 0 /\ zfR members (vlM members y members.length) n 5 3 = (if (zcU members.length n).1 <= min y members.length then 1 else 2, 0) := by
 obtain ⟨h1, h2, _, _⟩ := zgd hv;have hl := List.length_pos_iff.2 h1;have e : (zcU members.length n).2 = 0 := by unfold zcU; rw [if_neg (by omega)]
 refine ⟨e, ?_⟩;unfold zfR;have h9 : ((min y.toNat members.length : Nat) : Int) = min y members.length := by omega
 rw [if_neg (by simp [e, hv]), zqd hv y 5 (by omega), znE, zqR members y hy, ziT, h9];generalize (zcU members.length n).1 = ND;generalize min y (members.length : Int) = M;by_cases hcm : ND <= M
 ·rw [if_pos hcm, if_pos hcm]; simp
 ·have h8 : (members.length : Int) - ND < members.length - M := by omega
  rw [if_neg hcm, if_pos h8, if_neg hcm]; simp
theorem zm2 (f : Int) (A : List Lw) (x : Lw) : zem f (A ++ [x]) = if x.base = zem f A then x.mark else zem f A := by
 rw [zhD, zhD, zkd];by_cases h : x.base = zdF f A
 ·rw [if_pos h, zdF, zcX, if_pos h]; rfl
 ·rw [if_neg h, zdF, zcX, if_neg h]; rfl
theorem znx (s : List UInt8) (f : Int) (A : List Lw) (x : Lw) : zeR s f (A ++ [x]) = if x.base = zem f A then x.text else zeR s f A := by
 rw [zmn, zgT (zeR s f A)];by_cases h : x.base = zem f A
 ·rw [if_pos h, zcX, if_pos h]; rfl
 ·rw [if_neg h, zcX, if_neg h]; rfl
theorem zjB (t : W8) : 0 <= (zcF t).1.voices /\ (zcF t).1.voices <= 1000 := by
 have hz : 0 <= zeroBy.voices /\ zeroBy.voices <= 1000 := by decide
 unfold zcF;cases hl : zmF t with
 | error x => exact hz
 | ok l =>
  simp only;cases hb : zqr l with
  | stop pos e => exact hz
  | ok b q =>
   unfold zqr at hb;obtain ⟨k, p1, hk, h⟩ := PR.zaB hb;obtain ⟨_, p2, hm1, h⟩ := PR.zaB h;obtain ⟨period, p3, hperiod, h⟩ := PR.zaB h;obtain ⟨_, p4, hm2, h⟩ := PR.zaB h;obtain ⟨last, p5, hlast, h⟩ := PR.zaB h;obtain ⟨grace, p6, hgrace, h⟩ := PR.zaB h;obtain ⟨wait, p7, hwait, h⟩ := PR.zaB h;obtain ⟨order, p8, horder, h⟩ := PR.zaB h;obtain ⟨backs, p9, hbacks, h⟩ := PR.zaB h;obtain ⟨voices, p10, hvoices, h⟩ := PR.zaB h;obtain ⟨jury, p11, hjury, h⟩ := PR.zaB h;obtain ⟨fund, p12, hfund, h⟩ := PR.zaB h;obtain ⟨lets, p13, hlets, h⟩ := PR.zaB h;obtain ⟨_, p14, hdw, h⟩ := PR.zaB h;obtain ⟨due, p15, hdue, h⟩ := PR.zaB h;obtain ⟨fine, p16, hfine, h⟩ := PR.zaB h;obtain ⟨pay, p17, hpay, h⟩ := PR.zaB h;obtain ⟨cover, p18, hcover, h⟩ := PR.zaB h;obtain ⟨hold, p19, hhold, h⟩ := PR.zaB h;obtain ⟨_, p20, hend, h⟩ := PR.zaB h;cases h;have a7 := zmw hvoices;show 0 <= voices /\ voices <= 1000;omega
end Go.Proofs.YtepiegcjnaohjaaGreatDoor
namespace Go.Proofs.YtepiegcjnaohjaaGreatDoor
open Go Go.VL
attribute [local simp] HS zdf zcf evPure opd uOf zaI St.put St.at getK binD binI binS binB nilD aggD zgQ zhI lookD lookR zcE Go.VL.nextD zcI zhV zhU zfX zb8 mkV zbo zbh zbf zbe zda zbb zbx zbJ mapEff zdm zfI Key.kk shiftI arith unD convD zdP loadD cellsAt fieldAddrD fieldD indexAddrD indexD sliceD cutD lenD minmaxD nilCheckD buildD fillD zb3 zdi zeX setAll zc1 zeI zcD zg3 zcy St.add zaO zbU rowsOf zdJ zcJ zam zac zaa zbm zcS zaN entry zbH zbL valD zcb zcp zgK zdr zds zcc zbN zaz za1 zbn delAll effD St.effS zc7 zbi za3 zc8 zbj za5 zcn za4 zaT zco zc4 zbM zcl zbw zcj zck zaY mkD zbq zbG zb0 zaz zcC D.ids Op.operands Call.operands zby makeIfD makeFuncD typeAssertD zhG zdG zdH zhb zcG IntKind.bits zcg zaS List.take_of_length_le List.range_succ
attribute [local irreducible] V G H HD HD2 HD4 znh RetX zan Eff CallP CallV EndOK Fun Ret FinOK LoopI LoopW EndW
theorem zqx (i j q nx : Nat) (hi : i < nx) (hj : j < nx) (hq : q < nx) (hij : i ≠ j) (hiq : i ≠ q) (hjq : j ≠ q) (p e : Int) (cells : List U) :
  RetDf Tryz.prog 62 [.ptr i 0, .ptr j 0, .ptr q 0] [(i, .box [.u (.int .i64 p)]), (j, .box [.u (.int .i64 e)]), (q, .box (cells.map .u))] nx .returning
   (fun u o n => settle u = .returning /\ n = nx /\ o = [(i, .box [.u (.int .i64 p)]), (j, .box [.u (.int .i64 e)]), (q, .box (cells.map .u))]) := by
 have hne := za0 hi;have hne2 := za0 hj;have hne3 := za0 hq;have hc0 := zlp i j nx hi hj hij p e;refine RetDf.of_body Tryz.func62 rfl (by simp) (by simp) rfl fun Γ hn => ?_;simp [entry, zms, Tryz.ntmps62];refine CallP.x2 hc0 (by simp [getK]) (by simp [getK, hij, Ne.symm hij]) hij rfl rfl (by simp) (by simp) (fun d o1 nx' hnx h => ?_) (fun ch o1 nx' hnx h => by cases h.1);obtain ⟨h1, rfl, h4⟩ := h;have h4 := h4.symm;subst h4;cases h1;simp [del, hij, Ne.symm hij, hiq, hjq, Ne.symm hiq, Ne.symm hjq]
 repeat' (first
  | (refine zai ?_; simp [hij, hiq, hjq])
  | (refine zap ?_; simp only [zan])
  | fail)
 (refine ⟨by simp, { n := _, env := [], obs := [(i, .box [.u (.int .i64 p)]), (j, .box [.u (.int .i64 e)]), (q, .box (cells.map .u))], next := nx }, (Wk.cut rfl (by simp [hn]) (by simp [wkO, zaa, getK, zab, zac, Ob.under, D.under, zad, zae, hi, hj, hq, hne, hne2, hne3, hij, hiq, hjq, Ne.symm hij, Ne.symm hiq, Ne.symm hjq]) (by simp [wkU, zal, zaa, getK, D.under, hi, hj, hq, hne, hne2, hne3, hij, hiq, hjq, Ne.symm hij, Ne.symm hiq, Ne.symm hjq]) (by simp [wkE, zal, zaa, getK, hi, hj, hq, hne, hne2, hne3, hij, hiq, hjq, Ne.symm hij, Ne.symm hiq, Ne.symm hjq])), by simp [hn], ?_⟩; try simp)
 all_goals rfl
theorem zqy (i j q nx : Nat) (hi : i < nx) (hj : j < nx) (hq : q < nx) (hij : i ≠ j) (hiq : i ≠ q) (hjq : j ≠ q) (p e pos err : Int) :
  RetDf Tryz.prog 62 [.ptr i 0, .ptr j 0, .ptr q 0] [(i, .box [.u (.int .i64 p)]), (j, .box [.u (.int .i64 e)]), (q, zqs)] nx (.panicking (chP pos err))
   (fun u o n => settle u = .returning /\ n = nx /\ o = [(i, .box [.u (.int .i64 pos)]), (j, .box [.u (.int .i64 err)]), (q, zqs)]) := by
 have hne := za0 hi;have hne2 := za0 hj;have hne3 := za0 hq;have hc0 := zlo i j nx hi hj hij p e pos err;refine RetDf.of_body Tryz.func62 rfl (by simp) (by simp) rfl fun Γ hn => ?_;simp [entry, zms, chP, Tryz.ntmps62];refine CallP.x2 hc0 (by simp [getK]) (by simp [getK, hij, Ne.symm hij]) hij rfl rfl (by simp) (by simp) (fun d o1 nx' hnx h => ?_) (fun ch o1 nx' hnx h => by cases h.1);obtain ⟨h1, rfl, h4⟩ := h;have h4 := h4.symm;subst h4;cases h1;simp [del, hij, Ne.symm hij, hiq, hjq, Ne.symm hiq, Ne.symm hjq]
 repeat' (first
  | ((first | refine zag ?_ | refine zaj ?_ | refine zai ?_ | refine zaq ?_ | fail); simp [hij, hiq, hjq])
  | fail)
 (refine ⟨by simp, { n := _, env := [], obs := [(i, .box [.u (.int .i64 pos)]), (j, .box [.u (.int .i64 err)]), (q, zqs)], next := nx }, (Wk.cut rfl (by simp [hn]) (by simp [wkO, zaa, getK, zab, zac, Ob.under, D.under, zad, zae, hi, hj, hq, hne, hne2, hne3, hij, hiq, hjq, Ne.symm hij, Ne.symm hiq, Ne.symm hjq]) (by simp [wkU, zal, zaa, getK, D.under, hi, hj, hq, hne, hne2, hne3, hij, hiq, hjq, Ne.symm hij, Ne.symm hiq, Ne.symm hjq]) (by simp [wkE, zal, zaa, getK, hi, hj, hq, hne, hne2, hne3, hij, hiq, hjq, Ne.symm hij, Ne.symm hiq, Ne.symm hjq])), by simp [hn], ?_⟩; try simp)
 all_goals rfl
theorem znN (s : W8) : RetX Tryz.prog 25 [.u (.str s)] [] 0 (fun r o n => r = .val (zsJ (zcF s))) := by
 skip
 unfold zcF;cases hlx : zmF s with
 | error pe =>
  obtain ⟨p, e⟩ := pe;have ho := fun nx => zpC s p e nx hlx;have he := (zpK hlx).1;simp only
  (refine RetX.zg5 Tryz.func25 rfl (by simp) fun Γ hn hdfr hpan hesc => ?_); simp only [entry, ziC, ziN, maC, maN, oA, Tryz.ntmps25]
  repeat' (first
  | ((first | refine zag ?_ | refine zbW rfl ?_ | refine zdt rfl ?_ | refine zaj ?_ | refine zah ?_ | refine zai ?_ | fail); simp [he])
  | (refine zcu (hC _ (by kernel_rfl)) (hk _ ?_); clear hC hk C k; simp only [zan])
  | (refine zbV rfl (by kernel_rfl) (by first | (simp [hn]; done) | (simp [hn]; omega) | fail) fun C k hC hk => ?_; simp [he])
  | (refine zar ?_; simp only [zan])
  | (refine CallP.okL (ho _) (by first | (simp [he, zaa, getK, zab, zac, zam, zaY, del]; done) | fail) (by rfl) (by rfl) ?_; (try simp [he, zlh, del]))
  | fail)
  refine EndW.norm ?_;simp [St.norm, zbg, zbZ, zcd, zce]
  (refine EndW.here ?_; (first | (refine EndOK.fin (.inr rfl) ?_) | (refine EndOK.fin (.inl rfl) ?_)); simp [zaK, zaf, Tryz.results25]; refine FinOK.here (by simp) ?_; try simp)
  simp [zsJ, zbu, zeroBy, zg6, Exp.op, Exp.n, Exp.unit, Exp.s, Exp.args]
 | ok l =>
  obtain ⟨hl, hl2, hl0⟩ := zrr hlx;have ho := fun nx => zrm s l nx hlx;have hE := znc l hl0 hl hl2;simp only;cases hr : zqr l with
  | stop pos e =>
   simp only [hr] at hE ⊢
   (refine RetX.zg5 Tryz.func25 rfl (by simp) fun Γ hn hdfr hpan hesc => ?_); simp only [entry, ziC, ziN, maC, maN, oA, Tryz.ntmps25]
   rw [ziD]
   repeat' (first
  | ((first | refine zag ?_ | refine zaj ?_ | refine zah ?_ | refine zai ?_ | fail); simp)
  | (refine zap ?_; simp only [zan])
  | (refine CallP.okL (ho _) (by first | (simp [zaa, getK, zab, zac, zam, zaY, del]; done) | fail) (by rfl) (by rfl) ?_; (try simp [zlh, del]))
  | fail)
   refine zpc hesc hdfr rfl (by simp) ?_;have hn0 := hn;have hpan0 := hpan;intro Γ' hn hpan;simp
   repeat' (first
  | ((first | refine zag ?_ | refine zah ?_ | fail); simp)
  | (refine CallP.zeN (hE) (by first | (simp [zaa, getK, zab, zac]; done) | fail) (by rfl) (by first | assumption | (simp; done) | fail) (by rfl) (by simp) ?_; rintro ob' ⟨q', rfl⟩; refine ⟨_, Wk.refl _, ?_⟩)
  | fail)
   refine hpan _ _ ?_;refine LeaveD.of [(1, .box [.u (.int .i64 0)]), (2, .box [.u (.int .i64 0)]), (0, zqs)] (by simp [zaa, getK, zab, zac]) (zqy 1 2 0 _ (by simp) (by simp) (by simp) (by decide) (by decide) (by decide) 0 0 _ _) ?_;simp only [show Γ.base.n0 = 0 from hn0];simp [zlh, del];refine EndW.norm ?_;simp [St.norm, zbg, zbZ, zcd, zce]
   (refine EndW.here ?_; (first | (refine EndOK.fin (.inr rfl) ?_) | (refine EndOK.fin (.inl rfl) ?_)); simp [zaK, zaf, Tryz.results25]; refine FinOK.here (by simp) ?_; try simp)
   simp [zsJ, zbu, zeroBy, zg6, Exp.op, Exp.n, Exp.unit, Exp.s, Exp.args]
  | ok b q =>
   have hEx : RetX Tryz.prog 64 [.ptr 3 0] [(3, pOb l 0)] 4 (fun r o n => r = .val (.u (.agg (zbu b))) /\ o = [(3, pOb l q)] /\ n = 4) := by
    rw [hr] at hE;exact hE
   unfold zbu at hEx
   (refine RetX.zg5 Tryz.func25 rfl (by simp) fun Γ hn hdfr hpan hesc => ?_); simp only [entry, ziC, ziN, maC, maN, oA, Tryz.ntmps25]
   rw [ziD]
   repeat' (first
  | ((first | refine zag ?_ | refine zaj ?_ | refine zah ?_ | refine zai ?_ | fail); simp)
  | (refine zap ?_; simp only [zan])
  | (refine CallP.okL (ho _) (by first | (simp [zaa, getK, zab, zac, zam, zaY, del]; done) | fail) (by rfl) (by rfl) ?_; (try simp [zlh, del]))
  | fail)
   refine zpc hesc hdfr rfl (by simp) ?_;have hn0 := hn;have hpan0 := hpan;intro Γ' hn hpan;simp
   repeat' (first
  | ((first | refine zag ?_ | refine zaj ?_ | refine zah ?_ | fail); simp [del])
  | (refine zar ?_; simp only [zan])
  | (refine CallP.ok1 (hEx) (by first | (simp [del, zaa, getK, zab, zac]; done) | fail) (by rfl) (by rfl) ?_; (try simp [del]))
  | fail)
   refine ⟨rfl, ?_⟩;refine LeaveD.of [(1, .box [.u (.int .i64 0)]), (2, .box [.u (.int .i64 0)]), (0, .box ((zbu b).map .u))] (by simp [zaa, getK, zab, zac, zbu]) (zqx 1 2 0 _ (by simp) (by simp) (by simp) (by decide) (by decide) (by decide) 0 0 _) ?_;simp only [show Γ.base.n0 = 0 from hn0];simp [zlh, del, zbu]
   (refine EndW.here ?_; (first | (refine EndOK.fin (.inr rfl) ?_) | (refine EndOK.fin (.inl rfl) ?_)); simp [zaK, zaf, Tryz.results25]; refine FinOK.here (by simp) ?_; try simp)
   simp [zsJ, zbu]
theorem zj0 (s : W8) : Fun Tryz.prog 25 [.u (.str s)] (· = .tup [byD (zcF s).1, .u (.int .i64 (zcF s).2.1), .u (.int .i64 (zcF s).2.2)]) := by
 unfold Fun;exact (znN s).ret (fun d o n h => by
  cases h;exact ⟨by simp [zsJ, zas], rfl⟩) (fun ch o n h => by cases h)
end Go.Proofs.YtepiegcjnaohjaaGreatDoor
namespace Go.Proofs.YtepiegcjnaohjaaGreatDoor
open Go Go.VL
open Df (Con)
attribute [local simp] zdf zcf evPure opd uOf zaI St.put St.at getK binD binI binS binB nilD aggD zgQ zhI lookD lookR zcE Go.VL.nextD zcI zhV zhU zfX zb8 mkV zbo zbh zbf zbe zda zbb zbx zbJ mapEff zdm zfI Key.kk shiftI arith unD convD zdP loadD cellsAt fieldAddrD fieldD indexAddrD indexD sliceD cutD lenD minmaxD nilCheckD buildD fillD zb3 zdi zeX setAll zc1 zeI zcD zg3 zcy St.add zaO zbU rowsOf zdJ zcJ zam zac zaa zbm zcS zaN entry zbH zbL valD zcb zcp zgK zdr zds zcc zbN zaz za1 zbn delAll effD St.effS zc7 zbi za3 zc8 zbj za5 zcn za4 zaT zco zc4 zbM zcl zbw zcj zck zaY mkD zbq zbG zb0 zaz zcC D.ids Op.operands Call.operands zby makeIfD makeFuncD typeAssertD zhG zdG zdH zhb zcG IntKind.bits zcg zaS List.take_of_length_le List.range_succ
attribute [local irreducible] V G H HD HD2 zan Eff CallP CallV EndOK Fun Ret FinOK LoopI LoopW EndW
theorem zrK (b : By) : Fun Tryz.prog 27 [.u (.agg (zbu b))] (· = .u (Df.consU (zlq b))) := by
 have hri := zhg b;unfold zlq Df.consU;cases hb : zdb b with
 | false =>
  rw [hb] at hri;rw [if_neg (by simp)];unfold zbu at hri ⊢
  (refine Fun.of_bodyW Tryz.func27 rfl (by simp) fun Γ hn => ?_); simp only [entry, ziC, ziN, maC, maN, oA, Tryz.ntmps27]
  repeat' (first
  | ((first | refine zag ?_ | refine zaj ?_ | refine zah ?_ | refine zai ?_ | fail); simp)
  | (refine zar ?_; simp only [zan])
  | (refine CallP.fE (hri) (by first | rfl | fail) (by first | (simp; done) | (simp; rfl) | fail) ?_; (try simp))
  | fail)
  refine EndW.norm (EndW.here ?_)
  (refine EndOK.val (.inr rfl) ?_; simp [zaK, zaf, zas, Tryz.results27, zaC, zaD, zch, zci, frz, zbc, frzS, fv, zaV, za8, za9, frzObS, zay, zat, zbZ, zcd, zce, zbg])
 | true =>
  rw [hb] at hri;rw [if_pos rfl];have hh := hb;simp only [zdb, zrx, zrD, Bool.and_eq_true, decide_eq_true_eq] at hh;obtain ⟨⟨⟨⟨⟨⟨⟨⟨i1, i2⟩, i3⟩, i4⟩, i5⟩, hsl⟩, hLn⟩, hLb⟩, _⟩ := hh;simp only [inB, List.any_cons, List.any_nil, Bool.or_false, Bool.not_eq_true', Bool.or_eq_false_iff, decide_eq_false_iff_not, Int.not_lt] at i1 i2 i3 i4 i5;clear hLb hb;unfold zbu at hri ⊢
  (refine Fun.of_bodyW Tryz.func27 rfl (by simp) fun Γ hn => ?_); simp only [entry, ziC, ziN, maC, maN, oA, Tryz.ntmps27]
  repeat' (first
  | ((first | refine zag ?_ | refine zaj ?_ | fail); simp)
  | (refine ⟨by omega, ?_⟩)
  | ((first | refine zah ?_ | refine zai ?_ | fail); simp)
  | ((first | refine zar ?_ | refine zap ?_ | fail); simp only [zan])
  | (refine CallP.fE (hri) (by first | rfl | fail) (by first | (simp; done) | (simp; rfl) | fail) ?_; (try simp))
  | fail)
  (refine EndW.frzN 1 ?_; simp [frzN, frz1, zaD, zaC, St.frz, St.frzS, frzS, fv, zaV, za8, za9, frzObS, zay, zat, del, frz, zbc])
  refine EndW.norm (EndW.here ?_)
  (refine EndOK.val (.inr rfl) ?_; simp [zaK, zaf, zas, Tryz.results27, zaC, zaD, zch, zci, frz, zbc, frzS, fv, zaV, za8, za9, frzObS, zay, zat, zbZ, zcd, zce, zbg])
def ChkS (text : W8) (members R : Int) : Prop :=
 (members < 1 \/ 60 < members) /\ R = 1 \/ (1 <= members /\ members <= 60) /\ ((zcF text).2.2 ≠ 0 /\ R = (zcF text).2.2 \/ (zcF text).2.2 = 0 /\ ((zep (zcF text).1).2 ≠ 0 /\ R = (zep (zcF text).1).2 \/
   (zep (zcF text).1).2 = 0 /\ zdb (zcF text).1 = true /\ ∃ V C E, Df.SolveSpec (zlq (zcF text).1) 5 V C E /\ R = if E = 0 then 0 else 23))
theorem ChkS.one {text : W8} {m R R' : Int} (h : ChkS text m R) (h' : ChkS text m R') : R = R' := by
 rcases h with ⟨h1, rfl⟩ | ⟨h1, ⟨h2, rfl⟩ | ⟨h2, ⟨h3, rfl⟩ | ⟨h3, h6, V, C, E, h4, h5⟩⟩⟩ <;> rcases h' with ⟨g1, rfl⟩ | ⟨g1, ⟨g2, rfl⟩ | ⟨g2, ⟨g3, rfl⟩ | ⟨g3, g6, V', C', E', g4, g5⟩⟩⟩ <;> first | rfl | omega | skip
 ·obtain ⟨rfl, _⟩ := h4.one g4 (fun _ => Iff.rfl) rfl;rw [h5, g5]
theorem zkz {b : By} (h : (zep b).2 = 0) : zdb b = true := by
 cases hb : zdb b with
 | true => rfl
 | false => rw [zep, if_pos hb] at h; cases h
theorem zex (text : W8) (members : Int) : ∃ R, ChkS text members R /\ Fun Tryz.prog 19 [.u (.str text), .u (.int .i64 members)] (· = .u (.int .i64 R)) := by
 have hp := zj0 text;unfold ChkS;by_cases h1 : members < 1
 ·refine ⟨1, .inl ⟨.inl h1, rfl⟩, ?_⟩
  (refine Fun.of_body Tryz.func19 rfl (by simp) fun Γ hn => ?_); simp only [entry, ziC, ziN, maC, maN, oA, Tryz.ntmps19]
  repeat' (first
  | ((first | refine zag ?_ | refine zaj ?_ | refine zah ?_ | refine zai ?_ | fail); simp [h1])
  | (refine zar ?_; simp only [zan])
  | fail)
  (refine EndOK.val (.inr rfl) ?_; simp [zaK, zaf, zas, Tryz.results19])
 by_cases h2 : 60 < members
 ·refine ⟨1, .inl ⟨.inr h2, rfl⟩, ?_⟩
  (refine Fun.of_body Tryz.func19 rfl (by simp) fun Γ hn => ?_); simp only [entry, ziC, ziN, maC, maN, oA, Tryz.ntmps19]
  repeat' (first
  | ((first | refine zag ?_ | refine zaj ?_ | refine zah ?_ | refine zai ?_ | fail); simp [h1, h2])
  | (refine zar ?_; simp only [zan])
  | fail)
  (refine EndOK.val (.inr rfl) ?_; simp [zaK, zaf, zas, Tryz.results19])
 have hm : 1 <= members /\ members <= 60 := by omega
 generalize zcF text = PB at *;obtain ⟨b, pb, e⟩ := PB;simp only at hp ⊢;by_cases h3 : e = 0
 case neg =>
  refine ⟨e, .inr ⟨hm, .inl ⟨h3, rfl⟩⟩, ?_⟩;unfold byD zbu at hp
  (refine Fun.of_body Tryz.func19 rfl (by simp) fun Γ hn => ?_); simp only [entry, ziC, ziN, maC, maN, oA, Tryz.ntmps19]
  repeat' (first
  | ((first | refine zag ?_ | refine zaj ?_ | refine zah ?_ | refine zai ?_ | fail); simp [h1, h2, h3])
  | ((first | refine zar ?_ | refine zap ?_ | fail); simp only [zan])
  | (refine CallP.fE (hp) (by first | rfl | fail) (by first | simp [h1, h2, h3] <;> rfl | fail) ?_; (try simp [h1, h2, h3]))
  | fail)
  (refine EndOK.val (.inr rfl) ?_; simp [zaK, zaf, zas, Tryz.results19])
 subst h3;have hc := zna b;by_cases h4 : (zep b).2 = 0
 case neg =>
  refine ⟨(zep b).2, .inr ⟨hm, .inr ⟨rfl, .inl ⟨h4, rfl⟩⟩⟩, ?_⟩;generalize zep b = CP at *;have hcc := hc;clear hc;unfold byD zbu at hp;unfold zbu at hcc
  (refine Fun.of_body Tryz.func19 rfl (by simp) fun Γ hn => ?_); simp only [entry, ziC, ziN, maC, maN, oA, Tryz.ntmps19]
  repeat' (first
  | ((first | refine zag ?_ | refine zaj ?_ | refine zah ?_ | refine zai ?_ | fail); simp [h1, h2, h4])
  | ((first | refine zar ?_ | refine zap ?_ | fail); simp only [zan])
  | (refine CallP.fE (hp) (by first | rfl | fail) (by first | simp [h1, h2, h4] <;> rfl | fail) ?_; (try simp [h1, h2, h4]))
  | (refine CallP.fE (hcc) (by first | rfl | fail) (by first | simp [h1, h2, h4] <;> rfl | fail) ?_; (try simp [h1, h2, h4]))
  | fail)
  (refine EndOK.val (.inr rfl) ?_; simp [zaK, zaf, zas, Tryz.results19])
 have hr := zkz h4;have hcal := zrK b;have hrows := zqp b;have hlen := zrJ b;have hmany := zqq hr;have hrng := zhp hrows;obtain ⟨V, C, E, hS, hF⟩ := Df.solve_ex (zlq b) 5 (by show (5 + 1) * (5 * (zlq b).length) <= _; omega);refine ⟨if E = 0 then 0 else 23, .inr ⟨hm, .inr ⟨rfl, .inr ⟨h4, hr, V, C, E, hS, rfl⟩⟩⟩, ?_⟩;have hcc := hc;rw [h4] at hcc;clear hS hc h4;generalize (zep b).1 = CW at hcc;generalize zlq b = L at *;unfold byD zbu at hp;unfold zbu at hcc hcal;simp only [Df.consU, Df.ints] at hcal hF
 (refine Fun.of_body Tryz.func19 rfl (by simp) fun Γ hn => ?_); simp only [entry, ziC, ziN, maC, maN, oA, Tryz.ntmps19]
 repeat' (first
  | ((first | refine zag ?_ | refine zaj ?_ | refine zah ?_ | refine zai ?_ | refine zaA ?_ | fail); simp [h1, h2])
  | (refine zap ?_; simp only [zan])
  | (refine CallP.fE (hp) (by first | rfl | fail) (by first | simp [h1, h2] <;> rfl | fail) ?_; (try simp [h1, h2]))
  | (refine CallP.fE (hcc) (by first | rfl | fail) (by first | simp [h1, h2] <;> rfl | fail) ?_; (try simp [h1, h2]))
  | (refine CallP.fE (hcal) (by first | rfl | fail) (by first | simp [h1, h2] <;> rfl | fail) ?_; (try simp [h1, h2]))
  | fail)
 refine zb2 (α := { i : Nat // i <= L.length }) [10, 42, 43] (fun i => [(11, .u (.int .i64 (zh1 (L.take i.1)))), (44, .u (.int .i64 i.1))]) (fun i => L.length - i.1) ⟨0, by omega⟩ ?_ ?_
 ·exact (Wk.env rfl rfl rfl (by simp [wkE, St.lp, zal, zaa, getK, zh1] <;> (try (intros; simp_all; done)) <;> (try (intros; omega)) <;> (try grind)))
 rintro ⟨i, hi⟩;simp [St.lp, St.only, zal, zaa, getK];rcases hx : L[i]? with _ | c
 ·have hge : L.length <= i := by simpa using hx
  obtain rfl : i = L.length := by omega
  simp only [List.take_length, hmany];by_cases hE : E = 0
  ·rw [if_pos hE]
   repeat' (first
  | ((first | refine zag ?_ | refine zaj ?_ | refine zah ?_ | refine zai ?_ | fail); simp [hx, hE])
  | ((first | refine zar ?_ | refine zap ?_ | fail); simp only [zan])
  | (refine zaZ ?_; simp [zan])
  | (refine CallP.fE (hF) (by first | rfl | fail) (by first | simp [hx, hE] <;> rfl | fail) ?_; (try simp [hx, hE]))
  | fail)
   (refine EndOK.val (.inr rfl) ?_; simp [zaK, zaf, zas, Tryz.results19])
  ·rw [if_neg hE]
   repeat' (first
  | ((first | refine zag ?_ | refine zaj ?_ | refine zah ?_ | refine zai ?_ | fail); simp [hx, hE])
  | (refine zar ?_; simp only [zan])
  | (refine zaZ ?_; simp [zan])
  | (refine CallP.fE (hF) (by first | rfl | fail) (by first | simp [hx, hE] <;> rfl | fail) ?_; (try simp [hx, hE]))
  | fail)
   (refine EndOK.val (.inr rfl) ?_; simp [zaK, zaf, zas, Tryz.results19])
 ·have hlt : i < L.length := (lGE.1 hx).1;obtain ⟨q1, q2, q3, q4⟩ := hrows c (List.mem_of_getElem? hx);have q5 := hrng i hi;have hst := ziv hx;rw [zpG] at hst;generalize zh1 (L.take i) = M at *
  repeat' (first
  | ((first | refine zag ?_ | refine zaj ?_ | fail); simp [hx])
  | (refine ⟨by omega, ?_⟩)
  | ((first | refine zah ?_ | refine zaq ?_ | fail); simp [hx])
  | (refine zap ?_; simp only [zan])
  | (refine ⟨?_, by omega⟩)
  | (intro hc <;> (try (exfalso; omega)))
  | fail)
  refine LoopW.next ⟨i + 1, by omega⟩ (by simp; omega) ?_
  exact (Wk.cut rfl (by simp [hn, St.lp]) (by simp [wkO, St.lp, zaa, getK, Ob.under, D.under, zad, zae, hst]) (by simp [wkU, St.lp, zal, zaa, getK, D.under, hst]) (by simp [wkE, St.lp, zal, zaa, getK, hst] <;> (try (intros; simp_all; done)) <;> (try (intros; omega)) <;> (try grind)))
end Go.Proofs.YtepiegcjnaohjaaGreatDoor
namespace Go.Proofs.YtepiegcjnaohjaaGreatDoor
open Go Go.VL
theorem zru {u : U} (h : ArgU Tryz.prog 26 u) : ∃ l : List Int, u = ints l := by
 obtain ⟨rows, h1, _, h2⟩ := (h.one (by simp) (by simp)).of_slice zvb;obtain ⟨l, rfl, _⟩ := rows_list (fun n : Int => [.int .i64 n]) (fun _ => True) fun r hr => by
  obtain ⟨n, e, _⟩ := (h2 r hr).of_int io3;exact ⟨n, e, trivial⟩
 exact ⟨l, by simpa [ints] using h1⟩
theorem zsm {u : U} (h : ArgU Tryz.prog 42 u) : ∃ l : List Int, u = u8s l /\ ∀ y ∈ l, 0 <= y /\ y <= 255 := by
 obtain ⟨rows, h1, _, h2⟩ := (h.one (by simp) (by simp)).of_slice zva;obtain ⟨l, rfl, h3⟩ := rows_list (fun n : Int => [.int .u8 n]) (fun n => 0 <= n /\ n <= 255) fun r hr => by
  obtain ⟨n, e, h4, h5⟩ := (h2 r hr).of_int io5;exact ⟨n, e, h4, h5⟩
 exact ⟨l, by simpa [u8s] using h1, h3⟩
end Go.Proofs.YtepiegcjnaohjaaGreatDoor
namespace Go.Proofs.YtepiegcjnaohjaaGreatDoor
open Go Go.VL
attribute [local simp] HS zdf zcf evPure opd uOf zaI St.put St.at getK binD binI binS binB nilD aggD zgQ zhI lookD lookR zcE Go.VL.nextD zcI zhV zhU zfX zb8 mkV zbo zbh zbf zbe zda zbb zbx zbJ mapEff zdm zfI Key.kk shiftI arith unD convD zdP loadD cellsAt fieldAddrD fieldD indexAddrD indexD sliceD cutD lenD minmaxD nilCheckD buildD fillD zb3 zdi zeX setAll zc1 zeI zcD zg3 zcy St.add zaO zbU rowsOf zdJ zcJ zam zac zaa zbm zcS zaN entry zbH zbL valD zcb zcp zgK zdr zds zcc zbN zaz za1 zbn delAll effD St.effS zc7 zbi za3 zc8 zbj za5 zcn za4 zaT zco zc4 zbM zcl zbw zcj zck zaY mkD zbq zbG zb0 zaz zcC D.ids Op.operands Call.operands zby makeIfD makeFuncD typeAssertD zhG zdG zdH zhb zcG IntKind.bits zcg zaS List.take_of_length_le List.range_succ
attribute [local irreducible] V G H HD HD2 HD4 znh RetX zan Eff CallP CallV EndOK Fun Ret FinOK LoopI LoopW EndW
theorem zqj : Fun Tryz.prog 19 [.u (.str zoC), .u (.int .i64 5)] (· = .u (.int .i64 0)) := by
 obtain ⟨R, hS, hF⟩ := zex zoC 5;have hR : R = 0 := by
  unfold ChkS at hS;rw [zj1, gv1] at hS;rcases hS with ⟨h1, _⟩ | ⟨h1, ⟨h2, _⟩ | ⟨h2, ⟨h3, _⟩ | ⟨h3, h6, V, C, E, h4, rfl⟩⟩⟩
  ·omega
  ·exact absurd rfl h2
  ·exact absurd gv3 h3
  ·rw [if_pos (zmk h4 gv4 _ gv6)]
 rw [hR] at hF;exact hF
theorem zqi : Fun Tryz.prog 19 [.u (.str zoC), .u (.int .i64 0)] (· = .u (.int .i64 1)) := by
 obtain ⟨R, hS, hF⟩ := zex zoC 0;have hR : R = 1 := by
  rcases hS with ⟨_, rfl⟩ | ⟨h1, _⟩
  ·rfl
  ·omega
 rw [hR] at hF;exact hF
theorem zrH : Fun Tryz.prog 19 [.u (.str [99, 105, 114, 99, 108, 101]), .u (.int .i64 5)] (· = .u (.int .i64 12)) := by
 obtain ⟨R, hS, hF⟩ := zex [99, 105, 114, 99, 108, 101] 5;have hR : R = 12 := by
  unfold ChkS at hS;rw [zj1, gv2] at hS;rcases hS with ⟨h1, _⟩ | ⟨h1, ⟨h2, rfl⟩ | ⟨h2, _⟩⟩
  ·omega
  ·rfl
  ·cases h2
 rw [hR] at hF;exact hF
def l4 : List Lw := [⟨5, 3, [97]⟩, ⟨6, 3, [98]⟩, ⟨8, 6, [99]⟩, ⟨9, 5, [100]⟩]
theorem znB : Fun Tryz.prog 11 [] (· = .u (.bool true)) := by
 have c1 := zf2 3 l4 (by decide);rw [show zem 3 l4 = 9 by rfl, show zmf 3 l4 = [1, 2] by rfl] at c1;have c2 := zf2 3 [] (by decide);rw [show zem 3 [] = 3 by rfl, show zmf 3 [] = [] by rfl] at c2;have c3 := zoT 3 l4 (by decide);rw [show zoV 3 l4 = [3, 5, 9] by rfl] at c3;have c4 := Df.rsame_fun [3, 5, 9] [3, 5, 9] (by decide);have c5 := Df.rsame_fun [1, 2] [1, 2] (by decide);have c6 := zfT [120] 3 l4 (by decide);rw [show zeR [120] 3 l4 = [100] by rfl] at c6;have c7 := zfT [120] 3 [] (by decide);rw [show zeR [120] 3 [] = [120] by rfl] at c7;have c8 := zqj;have c9 := zqi;have c10 := zrH;simp only [l4, zdT, ints, Df.ints, List.map_cons, List.map_nil, decide_true] at c1 c2 c3 c4 c5 c6 c7
 (refine Fun.of_bodyW Tryz.func11 rfl (by simp) fun Γ hn => ?_); simp only [entry, ziC, ziN, maC, maN, oA, Tryz.ntmps11]
 repeat' (first
  | ((first | refine zag ?_ | refine zaj ?_ | refine zah ?_ | fail); simp)
  | fail)
 refine zmc (Wk.frzN 1 _) ?_;simp [frzN, frz1, zaD, zaC, St.frz, St.frzS, frzS, fv, zaV, za8, za9, frzObS, zay, zat, del, frz, zbc]
 repeat' (first
  | ((first | refine zag ?_ | refine zaj ?_ | refine zah ?_ | fail); simp)
  | (refine zar ?_; simp only [zan])
  | (refine CallP.fE (c1) (by first | rfl | fail) (by first | (simp; done) | (simp; rfl) | fail) ?_; (try simp))
  | (refine CallP.fE (c2) (by first | rfl | fail) (by first | (simp; done) | (simp; rfl) | fail) ?_; (try simp))
  | (refine CallP.fE (c3) (by first | rfl | fail) (by first | (simp; done) | (simp; rfl) | fail) ?_; (try simp))
  | (refine CallP.fE (c4) (by first | rfl | fail) (by first | (simp; done) | (simp; rfl) | fail) ?_; (try simp))
  | (refine CallP.fE (c5) (by first | rfl | fail) (by first | (simp; done) | (simp; rfl) | fail) ?_; (try simp))
  | (refine CallP.fE (c6) (by first | rfl | fail) (by first | (simp; done) | (simp; rfl) | fail) ?_; (try simp))
  | (refine CallP.fE (c7) (by first | rfl | fail) (by first | (simp; done) | (simp; rfl) | fail) ?_; (try simp))
  | (refine CallP.fE (c8) (by first | rfl | fail) (by first | (simp; done) | (simp; rfl) | fail) ?_; (try simp))
  | (refine CallP.fE (c9) (by first | rfl | fail) (by first | (simp; done) | (simp; rfl) | fail) ?_; (try simp))
  | (refine CallP.fE (c10) (by first | rfl | fail) (by first | (simp; done) | (simp; rfl) | fail) ?_; (try simp))
  | fail)
 refine EndW.here ?_
 (refine EndOK.val (.inr rfl) ?_; simp [zaK, zaf, zas, Tryz.results11])
end Go.Proofs.YtepiegcjnaohjaaGreatDoor
