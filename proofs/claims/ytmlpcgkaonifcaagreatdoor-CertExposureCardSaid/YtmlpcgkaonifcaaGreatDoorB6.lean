import Derived.Test.YtmlpcgkaonifcaaGreatDoorB5
set_option linter.all false
set_option maxRecDepth 100000
set_option maxHeartbeats 8000000
namespace Go.Proofs.YtmlpcgkaonifcaaGreatDoor
open Go Go.VL
attribute [local simp] HS zbw zc2 zcq evPure opd uOf zay St.put St.at getK binD binI binS binB nilD aggD zfJ zge lookD lookR zcn rangeS Go.VL.nextD Go.VL.nextS zcr zgk zgh zfs zcv mkV zbi zaT zaS zaR zc0 zaP zba zbs mapEff zdE zfp Key.kk shiftI arith unD convD zdu loadD cellsAt fieldAddrD fieldD indexAddrD indexSlD arrAddr indexD sliceD cutD lenD minmaxD nilCheckD buildD fillD zb0 zc7 zeD setAll zcW zef zck zfv zcj St.add zaw zbB rowsOf zdg zcw zad zac zaa zbz zda za3 entry zbO zbT valD zcm zcB zfw zdb zdc zb4 zbP zam zaW zbj delAll effD St.effS zcF zaU zaH zcG zaV zaJ zbY zaI zaA zbZ zcD zbv zbX za9 zbV zbW zar mkD zcl zbG zbK zam zcu D.ids Op.operands Call.operands zbH makeIfD makeFuncD typeAssertD zgd zdm zdn zf8 zco IntKind.bits zct zaz List.take_of_length_le List.range_succ zcO zcf zcP zcK zbD zb6 zb8 zcL zca zbe zb9 zb7 zhc zce zcM zaZ zaL zcN za0 zaN zcd zaM zaF zcS zcT zha zab frzN frz1 zav zau St.frz St.frzS frzS fv za1 zbm zbn frzObS zat zan frz zbL zbq zbr zbN zb5 zcc za7 St.norm St.lp St.only zax wkE wkO wkU Ob.under D.under zaj zak zcQ zcg zcR h4s zea zaC zbC List.zipIdx_cons List.zipIdx_nil zzC zzD Nat.zero_add
attribute [local irreducible] V G H HD HD2 HD4 zhd RetX zbf Eff CallP CallV EndOK Fun Ret FinOK LoopI LoopW EndW HR vs2 RN Cnd H4
theorem zjK {l : List Tok} (hl : TokOK l) {f p : Nat} (hE : zhZ l f) (hf : 4 * (l.length - p) <= f) {t : Tok} (ht : l[p]? = some t) (hk : ¬ t.kind = 2) (h1 : isB l p [116, 114, 117, 101] = false) (h2 : isB l p [102, 97, 108, 115, 101] = false)
  (hm : isB l p [109, 105, 110] = false /\ isB l p [109, 97, 120] = true \/ isB l p [109, 105, 110] = true /\ isB l p [109, 97, 120] = false) {i nx : Nat} (hi : i < nx) :
  RetX Tryz.prog 145 [.ptr i 0] [(i, pOb l p)] nx (PPost l i nx ziU (zbE l (f + 1) p)) := by
 have hne := zbl hi;have hp := (List.getElem?_eq_some_iff.1 ht).1;have hnx := zdi l p t ht hl.len;have hll := hl.len;have hp2 : p + 1 < l.length := hm.elim (fun h => zbR hl h.2) (fun h => zbR hl h.1);rw [zbE, ht];have hh1 := fun nx' (h : nx <= nx') => zb3 l p [116, 114, 117, 101] i nx' (by omega) hp hl.len;have hh2 := fun nx' (h : nx <= nx') => zb3 l p [102, 97, 108, 115, 101] i nx' (by omega) hp hl.len;have hm1 := zfr l p [109, 105, 110] hp hl.len;have hm2 := zfr l p [109, 97, 120] hp hl.len;rcases hm with ⟨h3, h4⟩ | ⟨h3, h4⟩
 all_goals
  simp only [hk, h1, h2, h3, h4, if_false, if_true, Bool.false_eq_true, or_true, true_or] at hh1 hh2 hm1 hm2 ⊢;have hw1 := fun nx' (h : nx <= nx') => zgn hl [40] (q := (p + 1)) (i := i) (nx := nx') (by omega) hp2;cases hr0 : zcV l (p + 1) [[40]] with
  | stop pos e =>
   simp only [hr0] at hw1;refine RetX.runW Tryz.func145 Tryz.ntmps145 rfl (by simp) fun Γ hn hpan => ?_
   repeat' (first
  | (refine zaf rfl ?_; simp [hne, hk, del, zzA])
  | (refine And.intro (by omega) ?_)
  | ((first | refine CallP.f2 rfl (hnx) (by first | simp [hne, hk, del, zzA] <;> rfl | fail) ?_ | refine CallP.f2 rfl (hm1) (by first | simp [hne, hk, del, zzA] <;> rfl | fail) ?_ | refine CallP.f2 rfl (hm2) (by first | simp [hne, hk, del, zzA] <;> rfl | fail) ?_ | fail); simp [hne, hk, del, zzA])
  | (refine CallP.ok1 (hh1 _ (by first | omega | (simp <;> omega) | fail)) (by first | (simp [hne, hk, del, zzA, zaa, getK, zab, zac]; done) | fail) (by rfl) (by first | assumption | (simp; done) | fail) (by rfl) (by simp) ?_; (try simp [hne, hk, del, zzA]))
  | (refine CallP.ok1 (hh2 _ (by first | omega | (simp <;> omega) | fail)) (by first | (simp [hne, hk, del, zzA, zaa, getK, zab, zac]; done) | fail) (by rfl) (by first | assumption | (simp; done) | fail) (by rfl) (by simp) ?_; (try simp [hne, hk, del, zzA]))
  | (refine CallP.zgg (hw1 _ (by first | omega | (simp <;> omega) | fail)) (by first | (simp [hne, hk, del, zzA, zaa, getK, zab, zac]; done) | fail) (by rfl) (by first | assumption | (simp; done) | fail) (by rfl) (by simp) ?_; rintro ob' ⟨q', rfl⟩; refine ⟨_, Wk.refl _, ?_⟩)
  | (refine zbp (by first | rfl | fail) (by first | simp [hne, hk, del, zzA, frzN, frz1, zav, zau, St.frz, St.frzS, frzS, fv, za1, zbm, zbn, frzObS, zat, zan, del, frz, zbL] <;> rfl | fail) ?_)
  | fail)
   (refine hpan _ _ (PanG.k ([(i, pOb l q')]) (nx) (by simp [hn, hi, hne, zab, zac, zaa, getK] <;> omega) ?_); try simp)
   exact PPost.zbd (by simp [PR.bind, *])
  | ok v0 q0 =>
   simp only [hr0] at hw1;obtain ⟨g0a, g0b⟩ := zby hl _ hr0 hp2;have ha := fun nx' (h : nx <= nx') => hE q0 0 i nx' (by omega) g0b (by omega) (by omega) (by omega);cases hr1 : zfu l f q0 0 with
   | stop pos e =>
    simp only [hr1] at ha;refine RetX.runW Tryz.func145 Tryz.ntmps145 rfl (by simp) fun Γ hn hpan => ?_
    repeat' (first
  | (refine zaf rfl ?_; simp [hne, hk, del, zzA])
  | (refine And.intro (by omega) ?_)
  | ((first | refine CallP.f2 rfl (hnx) (by first | simp [hne, hk, del, zzA] <;> rfl | fail) ?_ | refine CallP.f2 rfl (hm1) (by first | simp [hne, hk, del, zzA] <;> rfl | fail) ?_ | refine CallP.f2 rfl (hm2) (by first | simp [hne, hk, del, zzA] <;> rfl | fail) ?_ | fail); simp [hne, hk, del, zzA])
  | (refine CallP.ok1 (hh1 _ (by first | omega | (simp <;> omega) | fail)) (by first | (simp [hne, hk, del, zzA, zaa, getK, zab, zac]; done) | fail) (by rfl) (by first | assumption | (simp; done) | fail) (by rfl) (by simp) ?_; (try simp [hne, hk, del, zzA]))
  | (refine CallP.ok1 (hh2 _ (by first | omega | (simp <;> omega) | fail)) (by first | (simp [hne, hk, del, zzA, zaa, getK, zab, zac]; done) | fail) (by rfl) (by first | assumption | (simp; done) | fail) (by rfl) (by simp) ?_; (try simp [hne, hk, del, zzA]))
  | (refine CallP.ok1 (hw1 _ (by first | omega | (simp <;> omega) | fail)) (by first | (simp [hne, hk, del, zzA, zaa, getK, zab, zac]; done) | fail) (by rfl) (by first | assumption | (simp; done) | fail) (by rfl) (by simp) ?_; (try simp [hne, hk, del, zzA]))
  | (refine CallP.zgg (ha _ (by first | omega | (simp <;> omega) | fail)) (by first | (simp [hne, hk, del, zzA, zaa, getK, zab, zac]; done) | fail) (by rfl) (by first | assumption | (simp; done) | fail) (by rfl) (by simp) ?_; rintro ob' ⟨q', rfl⟩; refine ⟨_, Wk.refl _, ?_⟩)
  | (refine zbp (by first | rfl | fail) (by first | simp [hne, hk, del, zzA, frzN, frz1, zav, zau, St.frz, St.frzS, frzS, fv, za1, zbm, zbn, frzObS, zat, zan, del, frz, zbL] <;> rfl | fail) ?_)
  | fail)
    (refine hpan _ _ (PanG.k ([(i, pOb l q')]) (nx) (by simp [hn, hi, hne, zab, zac, zaa, getK] <;> omega) ?_); try simp)
    exact PPost.zbd (by simp [PR.bind, *])
   | ok v1 q1 =>
    have ha := fun nx' h => zeu (ha nx' h) hr1;obtain ⟨g1a, g1b⟩ := (zdB hl f).1 _ _ _ _ hr1 g0b;have hw2 := fun nx' (h : nx <= nx') => zgn hl [44] (q := q1) (i := i) (nx := nx') (by omega) g1b;cases hr2 : zcV l q1 [[44]] with
    | stop pos e =>
     simp only [hr2] at hw2;refine RetX.runW Tryz.func145 Tryz.ntmps145 rfl (by simp) fun Γ hn hpan => ?_
     repeat' (first
  | (refine zaf rfl ?_; simp [hne, hk, del, zzA])
  | (refine And.intro (by omega) ?_)
  | ((first | refine CallP.f2 rfl (hnx) (by first | simp [hne, hk, del, zzA] <;> rfl | fail) ?_ | refine CallP.f2 rfl (hm1) (by first | simp [hne, hk, del, zzA] <;> rfl | fail) ?_ | refine CallP.f2 rfl (hm2) (by first | simp [hne, hk, del, zzA] <;> rfl | fail) ?_ | fail); simp [hne, hk, del, zzA])
  | (refine CallP.ok1 (hh1 _ (by first | omega | (simp <;> omega) | fail)) (by first | (simp [hne, hk, del, zzA, zaa, getK, zab, zac]; done) | fail) (by rfl) (by first | assumption | (simp; done) | fail) (by rfl) (by simp) ?_; (try simp [hne, hk, del, zzA]))
  | (refine CallP.ok1 (hh2 _ (by first | omega | (simp <;> omega) | fail)) (by first | (simp [hne, hk, del, zzA, zaa, getK, zab, zac]; done) | fail) (by rfl) (by first | assumption | (simp; done) | fail) (by rfl) (by simp) ?_; (try simp [hne, hk, del, zzA]))
  | (refine CallP.ok1 (hw1 _ (by first | omega | (simp <;> omega) | fail)) (by first | (simp [hne, hk, del, zzA, zaa, getK, zab, zac]; done) | fail) (by rfl) (by first | assumption | (simp; done) | fail) (by rfl) (by simp) ?_; (try simp [hne, hk, del, zzA]))
  | (refine CallP.ok1 (ha _ (by first | omega | (simp <;> omega) | fail)) (by first | (simp [hne, hk, del, zzA, zaa, getK, zab, zac]; done) | fail) (by rfl) (by first | assumption | (simp; done) | fail) (by rfl) (by simp) ?_; (try simp [hne, hk, del, zzA]))
  | (refine CallP.zgg (hw2 _ (by first | omega | (simp <;> omega) | fail)) (by first | (simp [hne, hk, del, zzA, zaa, getK, zab, zac]; done) | fail) (by rfl) (by first | assumption | (simp; done) | fail) (by rfl) (by simp) ?_; rintro ob' ⟨q', rfl⟩; refine ⟨_, Wk.refl _, ?_⟩)
  | (refine zbp (by first | rfl | fail) (by first | simp [hne, hk, del, zzA, frzN, frz1, zav, zau, St.frz, St.frzS, frzS, fv, za1, zbm, zbn, frzObS, zat, zan, del, frz, zbL] <;> rfl | fail) ?_)
  | fail)
     (refine hpan _ _ (PanG.k ([(i, pOb l q')]) (nx) (by simp [hn, hi, hne, zab, zac, zaa, getK] <;> omega) ?_); try simp)
     exact PPost.zbd (by simp [PR.bind, *])
    | ok v2 q2 =>
     simp only [hr2] at hw2;obtain ⟨g2a, g2b⟩ := zby hl _ hr2 g1b;have hb := fun nx' (h : nx <= nx') => hE q2 0 i nx' (by omega) g2b (by omega) (by omega) (by omega);cases hr3 : zfu l f q2 0 with
     | stop pos e =>
      simp only [hr3] at hb;refine RetX.runW Tryz.func145 Tryz.ntmps145 rfl (by simp) fun Γ hn hpan => ?_
      repeat' (first
  | (refine zaf rfl ?_; simp [hne, hk, del, zzA])
  | (refine And.intro (by omega) ?_)
  | ((first | refine CallP.f2 rfl (hnx) (by first | simp [hne, hk, del, zzA] <;> rfl | fail) ?_ | refine CallP.f2 rfl (hm1) (by first | simp [hne, hk, del, zzA] <;> rfl | fail) ?_ | refine CallP.f2 rfl (hm2) (by first | simp [hne, hk, del, zzA] <;> rfl | fail) ?_ | fail); simp [hne, hk, del, zzA])
  | (refine CallP.ok1 (hh1 _ (by first | omega | (simp <;> omega) | fail)) (by first | (simp [hne, hk, del, zzA, zaa, getK, zab, zac]; done) | fail) (by rfl) (by first | assumption | (simp; done) | fail) (by rfl) (by simp) ?_; (try simp [hne, hk, del, zzA]))
  | (refine CallP.ok1 (hh2 _ (by first | omega | (simp <;> omega) | fail)) (by first | (simp [hne, hk, del, zzA, zaa, getK, zab, zac]; done) | fail) (by rfl) (by first | assumption | (simp; done) | fail) (by rfl) (by simp) ?_; (try simp [hne, hk, del, zzA]))
  | (refine CallP.ok1 (hw1 _ (by first | omega | (simp <;> omega) | fail)) (by first | (simp [hne, hk, del, zzA, zaa, getK, zab, zac]; done) | fail) (by rfl) (by first | assumption | (simp; done) | fail) (by rfl) (by simp) ?_; (try simp [hne, hk, del, zzA]))
  | (refine CallP.ok1 (ha _ (by first | omega | (simp <;> omega) | fail)) (by first | (simp [hne, hk, del, zzA, zaa, getK, zab, zac]; done) | fail) (by rfl) (by first | assumption | (simp; done) | fail) (by rfl) (by simp) ?_; (try simp [hne, hk, del, zzA]))
  | (refine CallP.ok1 (hw2 _ (by first | omega | (simp <;> omega) | fail)) (by first | (simp [hne, hk, del, zzA, zaa, getK, zab, zac]; done) | fail) (by rfl) (by first | assumption | (simp; done) | fail) (by rfl) (by simp) ?_; (try simp [hne, hk, del, zzA]))
  | (refine CallP.zgg (hb _ (by first | omega | (simp <;> omega) | fail)) (by first | (simp [hne, hk, del, zzA, zaa, getK, zab, zac]; done) | fail) (by rfl) (by first | assumption | (simp; done) | fail) (by rfl) (by simp) ?_; rintro ob' ⟨q', rfl⟩; refine ⟨_, Wk.refl _, ?_⟩)
  | (refine zbp (by first | rfl | fail) (by first | simp [hne, hk, del, zzA, frzN, frz1, zav, zau, St.frz, St.frzS, frzS, fv, za1, zbm, zbn, frzObS, zat, zan, del, frz, zbL] <;> rfl | fail) ?_)
  | fail)
      (refine hpan _ _ (PanG.k ([(i, pOb l q')]) (nx) (by simp [hn, hi, hne, zab, zac, zaa, getK] <;> omega) ?_); try simp)
      exact PPost.zbd (by simp [PR.bind, *])
     | ok v3 q3 =>
      have hb := fun nx' h => zeu (hb nx' h) hr3;obtain ⟨g3a, g3b⟩ := (zdB hl f).1 _ _ _ _ hr3 g2b;have hw3 := fun nx' (h : nx <= nx') => zgn hl [41] (q := q3) (i := i) (nx := nx') (by omega) g3b;cases hr4 : zcV l q3 [[41]] with
      | stop pos e =>
       simp only [hr4] at hw3;refine RetX.runW Tryz.func145 Tryz.ntmps145 rfl (by simp) fun Γ hn hpan => ?_
       repeat' (first
  | (refine zaf rfl ?_; simp [hne, hk, del, zzA])
  | (refine And.intro (by omega) ?_)
  | ((first | refine CallP.f2 rfl (hnx) (by first | simp [hne, hk, del, zzA] <;> rfl | fail) ?_ | refine CallP.f2 rfl (hm1) (by first | simp [hne, hk, del, zzA] <;> rfl | fail) ?_ | refine CallP.f2 rfl (hm2) (by first | simp [hne, hk, del, zzA] <;> rfl | fail) ?_ | fail); simp [hne, hk, del, zzA])
  | (refine CallP.ok1 (hh1 _ (by first | omega | (simp <;> omega) | fail)) (by first | (simp [hne, hk, del, zzA, zaa, getK, zab, zac]; done) | fail) (by rfl) (by first | assumption | (simp; done) | fail) (by rfl) (by simp) ?_; (try simp [hne, hk, del, zzA]))
  | (refine CallP.ok1 (hh2 _ (by first | omega | (simp <;> omega) | fail)) (by first | (simp [hne, hk, del, zzA, zaa, getK, zab, zac]; done) | fail) (by rfl) (by first | assumption | (simp; done) | fail) (by rfl) (by simp) ?_; (try simp [hne, hk, del, zzA]))
  | (refine CallP.ok1 (hw1 _ (by first | omega | (simp <;> omega) | fail)) (by first | (simp [hne, hk, del, zzA, zaa, getK, zab, zac]; done) | fail) (by rfl) (by first | assumption | (simp; done) | fail) (by rfl) (by simp) ?_; (try simp [hne, hk, del, zzA]))
  | (refine CallP.ok1 (ha _ (by first | omega | (simp <;> omega) | fail)) (by first | (simp [hne, hk, del, zzA, zaa, getK, zab, zac]; done) | fail) (by rfl) (by first | assumption | (simp; done) | fail) (by rfl) (by simp) ?_; (try simp [hne, hk, del, zzA]))
  | (refine CallP.ok1 (hw2 _ (by first | omega | (simp <;> omega) | fail)) (by first | (simp [hne, hk, del, zzA, zaa, getK, zab, zac]; done) | fail) (by rfl) (by first | assumption | (simp; done) | fail) (by rfl) (by simp) ?_; (try simp [hne, hk, del, zzA]))
  | (refine CallP.ok1 (hb _ (by first | omega | (simp <;> omega) | fail)) (by first | (simp [hne, hk, del, zzA, zaa, getK, zab, zac]; done) | fail) (by rfl) (by first | assumption | (simp; done) | fail) (by rfl) (by simp) ?_; (try simp [hne, hk, del, zzA]))
  | (refine CallP.zgg (hw3 _ (by first | omega | (simp <;> omega) | fail)) (by first | (simp [hne, hk, del, zzA, zaa, getK, zab, zac]; done) | fail) (by rfl) (by first | assumption | (simp; done) | fail) (by rfl) (by simp) ?_; rintro ob' ⟨q', rfl⟩; refine ⟨_, Wk.refl _, ?_⟩)
  | (refine zbp (by first | rfl | fail) (by first | simp [hne, hk, del, zzA, frzN, frz1, zav, zau, St.frz, St.frzS, frzS, fv, za1, zbm, zbn, frzObS, zat, zan, del, frz, zbL] <;> rfl | fail) ?_)
  | fail)
       (refine hpan _ _ (PanG.k ([(i, pOb l q')]) (nx) (by simp [hn, hi, hne, zab, zac, zaa, getK] <;> omega) ?_); try simp)
       exact PPost.zbd (by simp [PR.bind, *])
      | ok v4 q4 =>
       simp only [hr4] at hw3;obtain ⟨g4a, g4b⟩ := zby hl _ hr4 g3b;refine RetX.runW Tryz.func145 Tryz.ntmps145 rfl (by simp) fun Γ hn hpan => ?_
       repeat' (first
  | (refine zaf rfl ?_; simp [hne, hk, del, zzA])
  | (refine And.intro (by omega) ?_)
  | ((first | refine CallP.f2 rfl (hnx) (by first | simp [hne, hk, del, zzA] <;> rfl | fail) ?_ | refine CallP.f2 rfl (hm1) (by first | simp [hne, hk, del, zzA] <;> rfl | fail) ?_ | refine CallP.f2 rfl (hm2) (by first | simp [hne, hk, del, zzA] <;> rfl | fail) ?_ | fail); simp [hne, hk, del, zzA])
  | (refine CallP.ok1 (hh1 _ (by first | omega | (simp <;> omega) | fail)) (by first | (simp [hne, hk, del, zzA, zaa, getK, zab, zac]; done) | fail) (by rfl) (by first | assumption | (simp; done) | fail) (by rfl) (by simp) ?_; (try simp [hne, hk, del, zzA]))
  | (refine CallP.ok1 (hh2 _ (by first | omega | (simp <;> omega) | fail)) (by first | (simp [hne, hk, del, zzA, zaa, getK, zab, zac]; done) | fail) (by rfl) (by first | assumption | (simp; done) | fail) (by rfl) (by simp) ?_; (try simp [hne, hk, del, zzA]))
  | (refine CallP.ok1 (hw1 _ (by first | omega | (simp <;> omega) | fail)) (by first | (simp [hne, hk, del, zzA, zaa, getK, zab, zac]; done) | fail) (by rfl) (by first | assumption | (simp; done) | fail) (by rfl) (by simp) ?_; (try simp [hne, hk, del, zzA]))
  | (refine CallP.ok1 (ha _ (by first | omega | (simp <;> omega) | fail)) (by first | (simp [hne, hk, del, zzA, zaa, getK, zab, zac]; done) | fail) (by rfl) (by first | assumption | (simp; done) | fail) (by rfl) (by simp) ?_; (try simp [hne, hk, del, zzA]))
  | (refine CallP.ok1 (hw2 _ (by first | omega | (simp <;> omega) | fail)) (by first | (simp [hne, hk, del, zzA, zaa, getK, zab, zac]; done) | fail) (by rfl) (by first | assumption | (simp; done) | fail) (by rfl) (by simp) ?_; (try simp [hne, hk, del, zzA]))
  | (refine CallP.ok1 (hb _ (by first | omega | (simp <;> omega) | fail)) (by first | (simp [hne, hk, del, zzA, zaa, getK, zab, zac]; done) | fail) (by rfl) (by first | assumption | (simp; done) | fail) (by rfl) (by simp) ?_; (try simp [hne, hk, del, zzA]))
  | (refine CallP.ok1 (hw3 _ (by first | omega | (simp <;> omega) | fail)) (by first | (simp [hne, hk, del, zzA, zaa, getK, zab, zac]; done) | fail) (by rfl) (by first | assumption | (simp; done) | fail) (by rfl) (by simp) ?_; (try simp [hne, hk, del, zzA]))
  | (refine zbp (by first | rfl | fail) (by first | simp [hne, hk, del, zzA, frzN, frz1, zav, zau, St.frz, St.frzS, frzS, fv, za1, zbm, zbn, frzObS, zat, zan, del, frz, zbL] <;> rfl | fail) ?_)
  | fail)
       (refine EndW.frzN 1 ?_; simp [del, hne, zzA])
       refine EndW.norm ?_;simp [St.norm, za7, zbN, zb5, zcc, hne, zzA]
       (refine EndW.z ([(i, pOb l q4)]) (N := nx) Tryz.results145 (by simp [hne, hi] <;> omega) ?_; simp [hne, hi])
       exact PPost.zdv (by simp [PR.bind, *]; rfl) (by simp [Exp.row_eq, Exp.op, Exp.n, Exp.unit, Exp.s, Exp.args]) rfl
theorem zmS {l : List Tok} (hl : TokOK l) {f p : Nat} (hE : zhZ l f) (hf : 4 * (l.length - p) <= f) {t : Tok} (ht : l[p]? = some t) (hk : ¬ t.kind = 2) (h1 : isB l p [116, 114, 117, 101] = false) (h2 : isB l p [102, 97, 108, 115, 101] = false)
  (h3 : isB l p [109, 105, 110] = false) (h4 : isB l p [109, 97, 120] = true) {i nx : Nat} (hi : i < nx) :
  RetX Tryz.prog 145 [.ptr i 0] [(i, pOb l p)] nx (PPost l i nx ziU (zbE l (f + 1) p)) := zjK hl hE hf ht hk h1 h2 (.inl ⟨h3, h4⟩) hi
theorem zqw {l : List Tok} (hl : TokOK l) {f p : Nat} {form : Int} (hE : zhZ l f) (hp : p < l.length) (hf : 4 * (l.length - p) + 1 <= f)
  (hf0 : form = 0) (h1 : isB l p [105, 102] = true) {i nx : Nat} (hi : i < nx) :
  RetX Tryz.prog 136 [.ptr i 0, zkD form] [(i, pOb l p)] nx (PPost l i nx zlA (zcx l (f + 1) p form)) := by
 have hne := zbl hi;have hll := hl.len;rw [zcx];have hp2 := zbR hl h1;subst hf0;have hf0 : (0 : Int) = 0 := rfl;have hf3 : (0 : Int) <= 3 := by omega
 have hh1 := fun nx' (h : nx <= nx') => zb3 l p [105, 102] i nx' (by omega) hp hl.len;simp only [h1, if_true] at hh1;rw [if_pos ⟨rfl, h1⟩];have ha := fun nx' (h : nx <= nx') => hE (p + 1) 0 i nx' (by omega) hp2 (by omega) (by omega) (by omega);cases hr0 : zfu l f (p + 1) 0 with
 | stop pos e =>
  simp only [hr0] at ha;refine RetX.runW Tryz.func136 Tryz.ntmps136 rfl (by simp) fun Γ hn hpan => ?_
  repeat' (first
  | (refine zaf rfl ?_; simp [hne, hf0, hf3, del, zzA])
  | (refine CallP.ok1 (hh1 _ (by first | omega | (simp <;> omega) | fail)) (by first | (simp [hne, hf0, hf3, del, zzA, zaa, getK, zab, zac]; done) | fail) (by rfl) (by first | assumption | (simp; done) | fail) (by rfl) (by simp) ?_; (try simp [hne, hf0, hf3, del, zzA]))
  | (refine CallP.zgg (ha _ (by first | omega | (simp <;> omega) | fail)) (by first | (simp [hne, hf0, hf3, del, zzA, zaa, getK, zab, zac]; done) | fail) (by rfl) (by first | assumption | (simp; done) | fail) (by rfl) (by simp) ?_; rintro ob' ⟨q', rfl⟩; refine ⟨_, Wk.refl _, ?_⟩)
  | fail)
  (refine hpan _ _ (PanG.k ([(i, pOb l q')]) (nx) (by simp [hn, hi, hne, zab, zac, zaa, getK] <;> omega) ?_); try simp)
  exact PPost.zbd (by simp [PR.bind, *])
 | ok v0 q0 =>
  have ha := fun nx' h => zeu (ha nx' h) hr0;obtain ⟨g0a, g0b⟩ := (zdB hl f).1 _ _ _ _ hr0 hp2;have hw1 := fun nx' (h : nx <= nx') => zgn hl [116, 104, 101, 110] (q := q0) (i := i) (nx := nx') (by omega) g0b;cases hr1 : zcV l q0 [[116, 104, 101, 110]] with
  | stop pos e =>
   simp only [hr1] at hw1;refine RetX.runW Tryz.func136 Tryz.ntmps136 rfl (by simp) fun Γ hn hpan => ?_
   repeat' (first
  | (refine zaf rfl ?_; simp [hne, hf0, hf3, del, zzA])
  | (refine CallP.ok1 (hh1 _ (by first | omega | (simp <;> omega) | fail)) (by first | (simp [hne, hf0, hf3, del, zzA, zaa, getK, zab, zac]; done) | fail) (by rfl) (by first | assumption | (simp; done) | fail) (by rfl) (by simp) ?_; (try simp [hne, hf0, hf3, del, zzA]))
  | (refine CallP.ok1 (ha _ (by first | omega | (simp <;> omega) | fail)) (by first | (simp [hne, hf0, hf3, del, zzA, zaa, getK, zab, zac]; done) | fail) (by rfl) (by first | assumption | (simp; done) | fail) (by rfl) (by simp) ?_; (try simp [hne, hf0, hf3, del, zzA]))
  | (refine CallP.zgg (hw1 _ (by first | omega | (simp <;> omega) | fail)) (by first | (simp [hne, hf0, hf3, del, zzA, zaa, getK, zab, zac]; done) | fail) (by rfl) (by first | assumption | (simp; done) | fail) (by rfl) (by simp) ?_; rintro ob' ⟨q', rfl⟩; refine ⟨_, Wk.refl _, ?_⟩)
  | (refine zbp (by first | rfl | fail) (by first | simp [hne, hf0, hf3, del, zzA, frzN, frz1, zav, zau, St.frz, St.frzS, frzS, fv, za1, zbm, zbn, frzObS, zat, zan, del, frz, zbL] <;> rfl | fail) ?_)
  | fail)
   (refine hpan _ _ (PanG.k ([(i, pOb l q')]) (nx) (by simp [hn, hi, hne, zab, zac, zaa, getK] <;> omega) ?_); try simp)
   exact PPost.zbd (by simp [PR.bind, *])
  | ok v1 q1 =>
   simp only [hr1] at hw1;obtain ⟨g1a, g1b⟩ := zby hl _ hr1 g0b;have hb := fun nx' (h : nx <= nx') => hE q1 0 i nx' (by omega) g1b (by omega) (by omega) (by omega);cases hr2 : zfu l f q1 0 with
   | stop pos e =>
    simp only [hr2] at hb;refine RetX.runW Tryz.func136 Tryz.ntmps136 rfl (by simp) fun Γ hn hpan => ?_
    repeat' (first
  | (refine zaf rfl ?_; simp [hne, hf0, hf3, del, zzA])
  | (refine CallP.ok1 (hh1 _ (by first | omega | (simp <;> omega) | fail)) (by first | (simp [hne, hf0, hf3, del, zzA, zaa, getK, zab, zac]; done) | fail) (by rfl) (by first | assumption | (simp; done) | fail) (by rfl) (by simp) ?_; (try simp [hne, hf0, hf3, del, zzA]))
  | (refine CallP.ok1 (ha _ (by first | omega | (simp <;> omega) | fail)) (by first | (simp [hne, hf0, hf3, del, zzA, zaa, getK, zab, zac]; done) | fail) (by rfl) (by first | assumption | (simp; done) | fail) (by rfl) (by simp) ?_; (try simp [hne, hf0, hf3, del, zzA]))
  | (refine CallP.ok1 (hw1 _ (by first | omega | (simp <;> omega) | fail)) (by first | (simp [hne, hf0, hf3, del, zzA, zaa, getK, zab, zac]; done) | fail) (by rfl) (by first | assumption | (simp; done) | fail) (by rfl) (by simp) ?_; (try simp [hne, hf0, hf3, del, zzA]))
  | (refine CallP.zgg (hb _ (by first | omega | (simp <;> omega) | fail)) (by first | (simp [hne, hf0, hf3, del, zzA, zaa, getK, zab, zac]; done) | fail) (by rfl) (by first | assumption | (simp; done) | fail) (by rfl) (by simp) ?_; rintro ob' ⟨q', rfl⟩; refine ⟨_, Wk.refl _, ?_⟩)
  | (refine zbp (by first | rfl | fail) (by first | simp [hne, hf0, hf3, del, zzA, frzN, frz1, zav, zau, St.frz, St.frzS, frzS, fv, za1, zbm, zbn, frzObS, zat, zan, del, frz, zbL] <;> rfl | fail) ?_)
  | fail)
    (refine hpan _ _ (PanG.k ([(i, pOb l q')]) (nx) (by simp [hn, hi, hne, zab, zac, zaa, getK] <;> omega) ?_); try simp)
    exact PPost.zbd (by simp [PR.bind, *])
   | ok v2 q2 =>
    have hb := fun nx' h => zeu (hb nx' h) hr2;obtain ⟨g2a, g2b⟩ := (zdB hl f).1 _ _ _ _ hr2 g1b;have hw2 := fun nx' (h : nx <= nx') => zgn hl [101, 108, 115, 101] (q := q2) (i := i) (nx := nx') (by omega) g2b;cases hr3 : zcV l q2 [[101, 108, 115, 101]] with
    | stop pos e =>
     simp only [hr3] at hw2;refine RetX.runW Tryz.func136 Tryz.ntmps136 rfl (by simp) fun Γ hn hpan => ?_
     repeat' (first
  | (refine zaf rfl ?_; simp [hne, hf0, hf3, del, zzA])
  | (refine CallP.ok1 (hh1 _ (by first | omega | (simp <;> omega) | fail)) (by first | (simp [hne, hf0, hf3, del, zzA, zaa, getK, zab, zac]; done) | fail) (by rfl) (by first | assumption | (simp; done) | fail) (by rfl) (by simp) ?_; (try simp [hne, hf0, hf3, del, zzA]))
  | (refine CallP.ok1 (ha _ (by first | omega | (simp <;> omega) | fail)) (by first | (simp [hne, hf0, hf3, del, zzA, zaa, getK, zab, zac]; done) | fail) (by rfl) (by first | assumption | (simp; done) | fail) (by rfl) (by simp) ?_; (try simp [hne, hf0, hf3, del, zzA]))
  | (refine CallP.ok1 (hw1 _ (by first | omega | (simp <;> omega) | fail)) (by first | (simp [hne, hf0, hf3, del, zzA, zaa, getK, zab, zac]; done) | fail) (by rfl) (by first | assumption | (simp; done) | fail) (by rfl) (by simp) ?_; (try simp [hne, hf0, hf3, del, zzA]))
  | (refine CallP.ok1 (hb _ (by first | omega | (simp <;> omega) | fail)) (by first | (simp [hne, hf0, hf3, del, zzA, zaa, getK, zab, zac]; done) | fail) (by rfl) (by first | assumption | (simp; done) | fail) (by rfl) (by simp) ?_; (try simp [hne, hf0, hf3, del, zzA]))
  | (refine CallP.zgg (hw2 _ (by first | omega | (simp <;> omega) | fail)) (by first | (simp [hne, hf0, hf3, del, zzA, zaa, getK, zab, zac]; done) | fail) (by rfl) (by first | assumption | (simp; done) | fail) (by rfl) (by simp) ?_; rintro ob' ⟨q', rfl⟩; refine ⟨_, Wk.refl _, ?_⟩)
  | (refine zbp (by first | rfl | fail) (by first | simp [hne, hf0, hf3, del, zzA, frzN, frz1, zav, zau, St.frz, St.frzS, frzS, fv, za1, zbm, zbn, frzObS, zat, zan, del, frz, zbL] <;> rfl | fail) ?_)
  | fail)
     (refine hpan _ _ (PanG.k ([(i, pOb l q')]) (nx) (by simp [hn, hi, hne, zab, zac, zaa, getK] <;> omega) ?_); try simp)
     exact PPost.zbd (by simp [PR.bind, *])
    | ok v3 q3 =>
     simp only [hr3] at hw2;obtain ⟨g3a, g3b⟩ := zby hl _ hr3 g2b;have hc := fun nx' (h : nx <= nx') => hE q3 0 i nx' (by omega) g3b (by omega) (by omega) (by omega);cases hr4 : zfu l f q3 0 with
     | stop pos e =>
      simp only [hr4] at hc;refine RetX.runW Tryz.func136 Tryz.ntmps136 rfl (by simp) fun Γ hn hpan => ?_
      repeat' (first
  | (refine zg8 (fun nx' h' => hc nx' (by simp at h'; omega)) (by first | (simp [hne, hf0, hf3, del, zzA, zaa, getK, zab, zac, zad, zar]; done) | fail) (by rfl) (by first | assumption | simp) (by rfl) (by simp) ?_ ?_; rintro env' ob' n' hn' ⟨q', rfl⟩; refine ⟨_, Wk.refl _, ?_⟩)
  | (refine zfQ rfl (by simp) ?_; simp)
  | (refine zaf rfl ?_; simp [hne, hf0, hf3, del, zzA])
  | (refine zeg (hC _ (zb1 [i] nx (by simp <;> omega) (by simp <;> omega) (by apply Exists.intro; apply And.intro; (focus (repeat' (first | exact KF.nil | exact KL.nil | apply KF.cons | apply KL.cons 0 rfl | apply KL.cons 1 rfl | apply KL.cons 2 rfl | apply KL.cons 3 rfl | apply KL.cons 4 rfl | apply KL.cons 5 rfl | apply KL.cons 6 rfl | apply KL.cons 7 rfl | apply KL.cons 8 rfl | apply KL.cons 9 rfl))); kernel_rfl))) rfl; done)
  | (refine zdx rfl (by kernel_rfl) (by first | (simp [hn] <;> omega) | fail) fun C k hC hk => ?_; simp [hne, hf0, hf3, del, zzA])
  | (refine CallP.ok1 (hh1 _ (by first | omega | (simp <;> omega) | fail)) (by first | (simp [hne, hf0, hf3, del, zzA, zaa, getK, zab, zac]; done) | fail) (by rfl) (by first | assumption | (simp; done) | fail) (by rfl) (by simp) ?_; (try simp [hne, hf0, hf3, del, zzA]))
  | (refine CallP.ok1 (ha _ (by first | omega | (simp <;> omega) | fail)) (by first | (simp [hne, hf0, hf3, del, zzA, zaa, getK, zab, zac]; done) | fail) (by rfl) (by first | assumption | (simp; done) | fail) (by rfl) (by simp) ?_; (try simp [hne, hf0, hf3, del, zzA]))
  | (refine CallP.ok1 (hw1 _ (by first | omega | (simp <;> omega) | fail)) (by first | (simp [hne, hf0, hf3, del, zzA, zaa, getK, zab, zac]; done) | fail) (by rfl) (by first | assumption | (simp; done) | fail) (by rfl) (by simp) ?_; (try simp [hne, hf0, hf3, del, zzA]))
  | (refine CallP.ok1 (hb _ (by first | omega | (simp <;> omega) | fail)) (by first | (simp [hne, hf0, hf3, del, zzA, zaa, getK, zab, zac]; done) | fail) (by rfl) (by first | assumption | (simp; done) | fail) (by rfl) (by simp) ?_; (try simp [hne, hf0, hf3, del, zzA]))
  | (refine CallP.ok1 (hw2 _ (by first | omega | (simp <;> omega) | fail)) (by first | (simp [hne, hf0, hf3, del, zzA, zaa, getK, zab, zac]; done) | fail) (by rfl) (by first | assumption | (simp; done) | fail) (by rfl) (by simp) ?_; (try simp [hne, hf0, hf3, del, zzA]))
  | (refine zbp (by first | rfl | fail) (by first | simp [hne, hf0, hf3, del, zzA, frzN, frz1, zav, zau, St.frz, St.frzS, frzS, fv, za1, zbm, zbn, frzObS, zat, zan, del, frz, zbL] <;> rfl | fail) ?_)
  | fail)
      (refine hpan _ _ (PanG.k ([(i, pOb l q')]) (nx) (by simp [hn, hi, hne, zab, zac, zaa, getK] <;> omega) ?_); try simp)
      exact PPost.zbd (by simp [PR.bind, *])
     | ok v4 q4 =>
      have hc := fun nx' h => zeu (hc nx' h) hr4;obtain ⟨g4a, g4b⟩ := (zdB hl f).1 _ _ _ _ hr4 g3b;refine RetX.runW Tryz.func136 Tryz.ntmps136 rfl (by simp) fun Γ hn hpan => ?_
      repeat' (first
  | (refine zi9 (fun nx' h' => hc nx' (by simp at h'; omega)) (by first | (simp [hne, hf0, hf3, del, zzA, zaa, getK, zab, zac, zad, zar]; done) | fail) (by rfl) (by first | assumption | simp) (by rfl) (by simp [D.under, Ob.under]) (by simp) ?_; (try simp [hne, hf0, hf3, del, zzA]))
  | (refine zaf rfl ?_; simp [hne, hf0, hf3, del, zzA])
  | (refine ⟨hC _ (zb1 [i] nx (by simp <;> omega) (by simp <;> omega) (by apply Exists.intro; apply And.intro; (focus (repeat' (first | exact KF.nil | exact KL.nil | apply KF.cons | apply KL.cons 0 rfl | apply KL.cons 1 rfl | apply KL.cons 2 rfl | apply KL.cons 3 rfl | apply KL.cons 4 rfl | apply KL.cons 5 rfl | apply KL.cons 6 rfl | apply KL.cons 7 rfl | apply KL.cons 8 rfl | apply KL.cons 9 rfl))); kernel_rfl)), hk _ (zdH 8 _ _ _ ?_)⟩; clear hC hk C k; simp [hne, hf0, hf3, del, zzA])
  | (refine zdx rfl (by kernel_rfl) (by first | (simp [hn] <;> omega) | fail) fun C k hC hk => ?_; simp [hne, hf0, hf3, del, zzA])
  | (refine zcA rfl ?_; simp [hne, hf0, hf3, del, zzA])
  | (refine CallP.ok1 (hh1 _ (by first | omega | (simp <;> omega) | fail)) (by first | (simp [hne, hf0, hf3, del, zzA, zaa, getK, zab, zac]; done) | fail) (by rfl) (by first | assumption | (simp; done) | fail) (by rfl) (by simp) ?_; (try simp [hne, hf0, hf3, del, zzA]))
  | (refine CallP.ok1 (ha _ (by first | omega | (simp <;> omega) | fail)) (by first | (simp [hne, hf0, hf3, del, zzA, zaa, getK, zab, zac]; done) | fail) (by rfl) (by first | assumption | (simp; done) | fail) (by rfl) (by simp) ?_; (try simp [hne, hf0, hf3, del, zzA]))
  | (refine CallP.ok1 (hw1 _ (by first | omega | (simp <;> omega) | fail)) (by first | (simp [hne, hf0, hf3, del, zzA, zaa, getK, zab, zac]; done) | fail) (by rfl) (by first | assumption | (simp; done) | fail) (by rfl) (by simp) ?_; (try simp [hne, hf0, hf3, del, zzA]))
  | (refine CallP.ok1 (hb _ (by first | omega | (simp <;> omega) | fail)) (by first | (simp [hne, hf0, hf3, del, zzA, zaa, getK, zab, zac]; done) | fail) (by rfl) (by first | assumption | (simp; done) | fail) (by rfl) (by simp) ?_; (try simp [hne, hf0, hf3, del, zzA]))
  | (refine CallP.ok1 (hw2 _ (by first | omega | (simp <;> omega) | fail)) (by first | (simp [hne, hf0, hf3, del, zzA, zaa, getK, zab, zac]; done) | fail) (by rfl) (by first | assumption | (simp; done) | fail) (by rfl) (by simp) ?_; (try simp [hne, hf0, hf3, del, zzA]))
  | (refine zbp (by first | rfl | fail) (by first | simp [hne, hf0, hf3, del, zzA, frzN, frz1, zav, zau, St.frz, St.frzS, frzS, fv, za1, zbm, zbn, frzObS, zat, zan, del, frz, zbL] <;> rfl | fail) ?_)
  | fail)
      (refine EndW.frzN 1 ?_; simp [del, hne, zzA])
      refine EndW.norm ?_;simp [St.norm, za7, zbN, zb5, zcc, hne, zzA]
      (refine EndW.z ([(i, pOb l q4)]) (N := nx) Tryz.results136 (by simp [hne, hi] <;> omega) ?_; simp [hne, hi])
      exact PPost.zdv (by simp [PR.bind, *]; rfl) (by simp [Exp.row_eq, Exp.op, Exp.n, Exp.unit, Exp.s, Exp.args]) rfl
theorem zmV {l : List Tok} (hl : TokOK l) {f p : Nat} {form : Int} (hE : zhZ l f) (hp : p < l.length) (hf : 4 * (l.length - p) + 1 <= f)
  (hf0 : form = 0) (hf3 : form <= 3) (h1 : isB l p [105, 102] = false) (h2 : isB l p [110, 111, 116] = true) {i nx : Nat} (hi : i < nx) :
  RetX Tryz.prog 136 [.ptr i 0, zkD form] [(i, pOb l p)] nx (PPost l i nx zlA (zcx l (f + 1) p form)) := by
 have hne := zbl hi;have hll := hl.len;rw [zcx];have hh1 := fun nx' (h : nx <= nx') => zb3 l p [105, 102] i nx' (by omega) hp hl.len;rw [h1] at hh1;simp only [if_true, Bool.false_eq_true, if_false] at hh1;have hp2 := zbR hl h2;have hh2 := fun nx' (h : nx <= nx') => zb3 l p [110, 111, 116] i nx' (by omega) hp hl.len;rw [h2] at hh2;simp only [if_true, Bool.false_eq_true, if_false] at hh2;rw [if_neg (by simp [*]), if_pos ⟨hf3, h2⟩];have ha := fun nx' (h : nx <= nx') => hE (p + 1) 3 i nx' (by omega) hp2 (by omega) (by omega) (by omega);cases hr0 : zfu l f (p + 1) 3 with
 | stop pos e =>
  simp only [hr0] at ha;refine RetX.runW Tryz.func136 Tryz.ntmps136 rfl (by simp) fun Γ hn hpan => ?_
  repeat' (first
  | (refine zaf rfl ?_; simp [hne, hf0, hf3, del, zzA])
  | (refine CallP.ok1 (hh1 _ (by first | omega | (simp <;> omega) | fail)) (by first | (simp [hne, hf0, hf3, del, zzA, zaa, getK, zab, zac]; done) | fail) (by rfl) (by first | assumption | (simp; done) | fail) (by rfl) (by simp) ?_; (try simp [hne, hf0, hf3, del, zzA]))
  | (refine CallP.ok1 (hh2 _ (by first | omega | (simp <;> omega) | fail)) (by first | (simp [hne, hf0, hf3, del, zzA, zaa, getK, zab, zac]; done) | fail) (by rfl) (by first | assumption | (simp; done) | fail) (by rfl) (by simp) ?_; (try simp [hne, hf0, hf3, del, zzA]))
  | (refine CallP.zgg (ha _ (by first | omega | (simp <;> omega) | fail)) (by first | (simp [hne, hf0, hf3, del, zzA, zaa, getK, zab, zac]; done) | fail) (by rfl) (by first | assumption | (simp; done) | fail) (by rfl) (by simp) ?_; rintro ob' ⟨q', rfl⟩; refine ⟨_, Wk.refl _, ?_⟩)
  | fail)
  (refine hpan _ _ (PanG.k ([(i, pOb l q')]) (nx) (by simp [hn, hi, hne, zab, zac, zaa, getK] <;> omega) ?_); try simp)
  exact PPost.zbd (by simp [PR.bind, *])
 | ok v0 q0 =>
  have ha := fun nx' h => zeu (ha nx' h) hr0;refine RetX.runW Tryz.func136 Tryz.ntmps136 rfl (by simp) fun Γ hn hpan => ?_
  repeat' (first
  | (refine zaf rfl ?_; simp [hne, hf0, hf3, del, zzA])
  | (refine CallP.ok1 (hh1 _ (by first | omega | (simp <;> omega) | fail)) (by first | (simp [hne, hf0, hf3, del, zzA, zaa, getK, zab, zac]; done) | fail) (by rfl) (by first | assumption | (simp; done) | fail) (by rfl) (by simp) ?_; (try simp [hne, hf0, hf3, del, zzA]))
  | (refine CallP.ok1 (hh2 _ (by first | omega | (simp <;> omega) | fail)) (by first | (simp [hne, hf0, hf3, del, zzA, zaa, getK, zab, zac]; done) | fail) (by rfl) (by first | assumption | (simp; done) | fail) (by rfl) (by simp) ?_; (try simp [hne, hf0, hf3, del, zzA]))
  | (refine CallP.ok1 (ha _ (by first | omega | (simp <;> omega) | fail)) (by first | (simp [hne, hf0, hf3, del, zzA, zaa, getK, zab, zac]; done) | fail) (by rfl) (by first | assumption | (simp; done) | fail) (by rfl) (by simp) ?_; (try simp [hne, hf0, hf3, del, zzA]))
  | fail)
  (refine EndW.frzN 1 ?_; simp [del, hne, zzA])
  refine EndW.norm ?_;simp [St.norm, za7, zbN, zb5, zcc, hne, zzA]
  (refine EndW.z ([(i, pOb l q0)]) (N := nx) Tryz.results136 (by simp [hne, hi] <;> omega) ?_; simp [hne, hi])
  exact PPost.zdv (by simp [PR.bind, *]; rfl) (by simp [Exp.row_eq, Exp.op, Exp.n, Exp.unit, Exp.s, Exp.args]) rfl
theorem zmU {l : List Tok} (hl : TokOK l) {f p : Nat} {form : Int} (hE : zhZ l f) (hp : p < l.length) (hf : 4 * (l.length - p) + 1 <= f)
  (hf0 : ¬ form = 0) (hf3 : form <= 3) (h2 : isB l p [110, 111, 116] = true) {i nx : Nat} (hi : i < nx) :
  RetX Tryz.prog 136 [.ptr i 0, zkD form] [(i, pOb l p)] nx (PPost l i nx zlA (zcx l (f + 1) p form)) := by
 have hne := zbl hi;have hll := hl.len;rw [zcx];have hp2 := zbR hl h2;have hh2 := fun nx' (h : nx <= nx') => zb3 l p [110, 111, 116] i nx' (by omega) hp hl.len;rw [h2] at hh2;simp only [if_true, Bool.false_eq_true, if_false] at hh2;rw [if_neg (by simp [*]), if_pos ⟨hf3, h2⟩];have ha := fun nx' (h : nx <= nx') => hE (p + 1) 3 i nx' (by omega) hp2 (by omega) (by omega) (by omega);cases hr0 : zfu l f (p + 1) 3 with
 | stop pos e =>
  simp only [hr0] at ha;refine RetX.runW Tryz.func136 Tryz.ntmps136 rfl (by simp) fun Γ hn hpan => ?_
  repeat' (first
  | (refine zaf rfl ?_; simp [hne, hf0, hf3, del, zzA])
  | (refine CallP.ok1 (hh2 _ (by first | omega | (simp <;> omega) | fail)) (by first | (simp [hne, hf0, hf3, del, zzA, zaa, getK, zab, zac]; done) | fail) (by rfl) (by first | assumption | (simp; done) | fail) (by rfl) (by simp) ?_; (try simp [hne, hf0, hf3, del, zzA]))
  | (refine CallP.zgg (ha _ (by first | omega | (simp <;> omega) | fail)) (by first | (simp [hne, hf0, hf3, del, zzA, zaa, getK, zab, zac]; done) | fail) (by rfl) (by first | assumption | (simp; done) | fail) (by rfl) (by simp) ?_; rintro ob' ⟨q', rfl⟩; refine ⟨_, Wk.refl _, ?_⟩)
  | fail)
  (refine hpan _ _ (PanG.k ([(i, pOb l q')]) (nx) (by simp [hn, hi, hne, zab, zac, zaa, getK] <;> omega) ?_); try simp)
  exact PPost.zbd (by simp [PR.bind, *])
 | ok v0 q0 =>
  have ha := fun nx' h => zeu (ha nx' h) hr0;refine RetX.runW Tryz.func136 Tryz.ntmps136 rfl (by simp) fun Γ hn hpan => ?_
  repeat' (first
  | (refine zaf rfl ?_; simp [hne, hf0, hf3, del, zzA])
  | (refine CallP.ok1 (hh2 _ (by first | omega | (simp <;> omega) | fail)) (by first | (simp [hne, hf0, hf3, del, zzA, zaa, getK, zab, zac]; done) | fail) (by rfl) (by first | assumption | (simp; done) | fail) (by rfl) (by simp) ?_; (try simp [hne, hf0, hf3, del, zzA]))
  | (refine CallP.ok1 (ha _ (by first | omega | (simp <;> omega) | fail)) (by first | (simp [hne, hf0, hf3, del, zzA, zaa, getK, zab, zac]; done) | fail) (by rfl) (by first | assumption | (simp; done) | fail) (by rfl) (by simp) ?_; (try simp [hne, hf0, hf3, del, zzA]))
  | fail)
  (refine EndW.frzN 1 ?_; simp [del, hne, zzA])
  refine EndW.norm ?_;simp [St.norm, za7, zbN, zb5, zcc, hne, zzA]
  (refine EndW.z ([(i, pOb l q0)]) (N := nx) Tryz.results136 (by simp [hne, hi] <;> omega) ?_; simp [hne, hi])
  exact PPost.zdv (by simp [PR.bind, *]; rfl) (by simp [Exp.row_eq, Exp.op, Exp.n, Exp.unit, Exp.s, Exp.args]) rfl
theorem zlw {l : List Tok} (hl : TokOK l) {f p : Nat} {form : Int} (hP : zkc l f) (hp : p < l.length) (hf : 4 * (l.length - p) + 1 <= f)
  (hf0 : form = 0) (hf3 : form <= 3) (h1 : isB l p [105, 102] = false) (h2 : isB l p [110, 111, 116] = false) {i nx : Nat} (hi : i < nx) :
  RetX Tryz.prog 136 [.ptr i 0, zkD form] [(i, pOb l p)] nx (PPost l i nx zlA (zcx l (f + 1) p form)) := by
 have hne := zbl hi;have hll := hl.len;rw [zcx];have hh1 := fun nx' (h : nx <= nx') => zb3 l p [105, 102] i nx' (by omega) hp hl.len;rw [h1] at hh1;simp only [if_true, Bool.false_eq_true, if_false] at hh1;have hh2 := fun nx' (h : nx <= nx') => zb3 l p [110, 111, 116] i nx' (by omega) hp hl.len;rw [h2] at hh2;simp only [if_true, Bool.false_eq_true, if_false] at hh2;rw [if_neg (by simp [*]), if_neg (by simp [*])];have ha := fun nx' (h : nx <= nx') => hP p i nx' (by omega) hp (by omega);cases hr0 : zbE l f p with
 | stop pos e =>
  simp only [hr0] at ha;refine RetX.runW Tryz.func136 Tryz.ntmps136 rfl (by simp) fun Γ hn hpan => ?_
  repeat' (first
  | (refine zaf rfl ?_; simp [hne, hf0, hf3, del, zzA])
  | (refine CallP.ok1 (hh1 _ (by first | omega | (simp <;> omega) | fail)) (by first | (simp [hne, hf0, hf3, del, zzA, zaa, getK, zab, zac]; done) | fail) (by rfl) (by first | assumption | (simp; done) | fail) (by rfl) (by simp) ?_; (try simp [hne, hf0, hf3, del, zzA]))
  | (refine CallP.ok1 (hh2 _ (by first | omega | (simp <;> omega) | fail)) (by first | (simp [hne, hf0, hf3, del, zzA, zaa, getK, zab, zac]; done) | fail) (by rfl) (by first | assumption | (simp; done) | fail) (by rfl) (by simp) ?_; (try simp [hne, hf0, hf3, del, zzA]))
  | (refine CallP.zgg (ha _ (by first | omega | (simp <;> omega) | fail)) (by first | (simp [hne, hf0, hf3, del, zzA, zaa, getK, zab, zac]; done) | fail) (by rfl) (by first | assumption | (simp; done) | fail) (by rfl) (by simp) ?_; rintro ob' ⟨q', rfl⟩; refine ⟨_, Wk.refl _, ?_⟩)
  | fail)
  (refine hpan _ _ (PanG.k ([(i, pOb l q')]) (nx) (by simp [hn, hi, hne, zab, zac, zaa, getK] <;> omega) ?_); try simp)
  exact PPost.zbd (by simp [PR.bind, *])
 | ok v0 q0 =>
  have ha := fun nx' h => zeu (ha nx' h) hr0;refine RetX.runW Tryz.func136 Tryz.ntmps136 rfl (by simp) fun Γ hn hpan => ?_
  repeat' (first
  | (refine zaf rfl ?_; simp [hne, hf0, hf3, del, zzA])
  | (refine CallP.ok1 (hh1 _ (by first | omega | (simp <;> omega) | fail)) (by first | (simp [hne, hf0, hf3, del, zzA, zaa, getK, zab, zac]; done) | fail) (by rfl) (by first | assumption | (simp; done) | fail) (by rfl) (by simp) ?_; (try simp [hne, hf0, hf3, del, zzA]))
  | (refine CallP.ok1 (hh2 _ (by first | omega | (simp <;> omega) | fail)) (by first | (simp [hne, hf0, hf3, del, zzA, zaa, getK, zab, zac]; done) | fail) (by rfl) (by first | assumption | (simp; done) | fail) (by rfl) (by simp) ?_; (try simp [hne, hf0, hf3, del, zzA]))
  | (refine CallP.ok1 (ha _ (by first | omega | (simp <;> omega) | fail)) (by first | (simp [hne, hf0, hf3, del, zzA, zaa, getK, zab, zac]; done) | fail) (by rfl) (by first | assumption | (simp; done) | fail) (by rfl) (by simp) ?_; (try simp [hne, hf0, hf3, del, zzA]))
  | fail)
  refine EndW.norm ?_;simp [St.norm, za7, zbN, zb5, zcc, hne, zzA]
  (refine EndW.z ([(i, pOb l q0)]) (N := nx) Tryz.results136 (by simp [hne, hi] <;> omega) ?_; simp [hne, hi])
  exact PPost.zdv (by simp [PR.bind, *]; rfl) (by simp [Exp.row_eq, Exp.op, Exp.n, Exp.unit, Exp.s, Exp.args]) rfl
theorem zlv {l : List Tok} (hl : TokOK l) {f p : Nat} {form : Int} (hP : zkc l f) (hp : p < l.length) (hf : 4 * (l.length - p) + 1 <= f)
  (hf0 : ¬ form = 0) (hf3 : form <= 3) (h2 : isB l p [110, 111, 116] = false) {i nx : Nat} (hi : i < nx) :
  RetX Tryz.prog 136 [.ptr i 0, zkD form] [(i, pOb l p)] nx (PPost l i nx zlA (zcx l (f + 1) p form)) := by
 have hne := zbl hi;have hll := hl.len;rw [zcx];have hh2 := fun nx' (h : nx <= nx') => zb3 l p [110, 111, 116] i nx' (by omega) hp hl.len;rw [h2] at hh2;simp only [if_true, Bool.false_eq_true, if_false] at hh2;rw [if_neg (by simp [*]), if_neg (by simp [*])];have ha := fun nx' (h : nx <= nx') => hP p i nx' (by omega) hp (by omega);cases hr0 : zbE l f p with
 | stop pos e =>
  simp only [hr0] at ha;refine RetX.runW Tryz.func136 Tryz.ntmps136 rfl (by simp) fun Γ hn hpan => ?_
  repeat' (first
  | (refine zaf rfl ?_; simp [hne, hf0, hf3, del, zzA])
  | (refine CallP.ok1 (hh2 _ (by first | omega | (simp <;> omega) | fail)) (by first | (simp [hne, hf0, hf3, del, zzA, zaa, getK, zab, zac]; done) | fail) (by rfl) (by first | assumption | (simp; done) | fail) (by rfl) (by simp) ?_; (try simp [hne, hf0, hf3, del, zzA]))
  | (refine CallP.zgg (ha _ (by first | omega | (simp <;> omega) | fail)) (by first | (simp [hne, hf0, hf3, del, zzA, zaa, getK, zab, zac]; done) | fail) (by rfl) (by first | assumption | (simp; done) | fail) (by rfl) (by simp) ?_; rintro ob' ⟨q', rfl⟩; refine ⟨_, Wk.refl _, ?_⟩)
  | fail)
  (refine hpan _ _ (PanG.k ([(i, pOb l q')]) (nx) (by simp [hn, hi, hne, zab, zac, zaa, getK] <;> omega) ?_); try simp)
  exact PPost.zbd (by simp [PR.bind, *])
 | ok v0 q0 =>
  have ha := fun nx' h => zeu (ha nx' h) hr0;refine RetX.runW Tryz.func136 Tryz.ntmps136 rfl (by simp) fun Γ hn hpan => ?_
  repeat' (first
  | (refine zaf rfl ?_; simp [hne, hf0, hf3, del, zzA])
  | (refine CallP.ok1 (hh2 _ (by first | omega | (simp <;> omega) | fail)) (by first | (simp [hne, hf0, hf3, del, zzA, zaa, getK, zab, zac]; done) | fail) (by rfl) (by first | assumption | (simp; done) | fail) (by rfl) (by simp) ?_; (try simp [hne, hf0, hf3, del, zzA]))
  | (refine CallP.ok1 (ha _ (by first | omega | (simp <;> omega) | fail)) (by first | (simp [hne, hf0, hf3, del, zzA, zaa, getK, zab, zac]; done) | fail) (by rfl) (by first | assumption | (simp; done) | fail) (by rfl) (by simp) ?_; (try simp [hne, hf0, hf3, del, zzA]))
  | fail)
  refine EndW.norm ?_;simp [St.norm, za7, zbN, zb5, zcc, hne, zzA]
  (refine EndW.z ([(i, pOb l q0)]) (N := nx) Tryz.results136 (by simp [hne, hi] <;> omega) ?_; simp [hne, hi])
  exact PPost.zdv (by simp [PR.bind, *]; rfl) (by simp [Exp.row_eq, Exp.op, Exp.n, Exp.unit, Exp.s, Exp.args]) rfl
theorem zlu {l : List Tok} (hl : TokOK l) {f p : Nat} {form : Int} (hP : zkc l f) (hp : p < l.length) (hf : 4 * (l.length - p) + 1 <= f)
  (hf0 : ¬ form = 0) (hf3 : ¬ form <= 3) {i nx : Nat} (hi : i < nx) :
  RetX Tryz.prog 136 [.ptr i 0, zkD form] [(i, pOb l p)] nx (PPost l i nx zlA (zcx l (f + 1) p form)) := by
 have hne := zbl hi;have hll := hl.len;rw [zcx];rw [if_neg (by simp [*]), if_neg (by simp [*])];have ha := fun nx' (h : nx <= nx') => hP p i nx' (by omega) hp (by omega);cases hr0 : zbE l f p with
 | stop pos e =>
  simp only [hr0] at ha;refine RetX.runW Tryz.func136 Tryz.ntmps136 rfl (by simp) fun Γ hn hpan => ?_
  repeat' (first
  | (refine zaf rfl ?_; simp [hne, hf0, hf3, del, zzA])
  | (refine CallP.zgg (ha _ (by first | omega | (simp <;> omega) | fail)) (by first | (simp [hne, hf0, hf3, del, zzA, zaa, getK, zab, zac]; done) | fail) (by rfl) (by first | assumption | (simp; done) | fail) (by rfl) (by simp) ?_; rintro ob' ⟨q', rfl⟩; refine ⟨_, Wk.refl _, ?_⟩)
  | fail)
  (refine hpan _ _ (PanG.k ([(i, pOb l q')]) (nx) (by simp [hn, hi, hne, zab, zac, zaa, getK] <;> omega) ?_); try simp)
  exact PPost.zbd (by simp [PR.bind, *])
 | ok v0 q0 =>
  have ha := fun nx' h => zeu (ha nx' h) hr0;refine RetX.runW Tryz.func136 Tryz.ntmps136 rfl (by simp) fun Γ hn hpan => ?_
  repeat' (first
  | (refine zaf rfl ?_; simp [hne, hf0, hf3, del, zzA])
  | (refine CallP.ok1 (ha _ (by first | omega | (simp <;> omega) | fail)) (by first | (simp [hne, hf0, hf3, del, zzA, zaa, getK, zab, zac]; done) | fail) (by rfl) (by first | assumption | (simp; done) | fail) (by rfl) (by simp) ?_; (try simp [hne, hf0, hf3, del, zzA]))
  | fail)
  refine EndW.norm ?_;simp [St.norm, za7, zbN, zb5, zcc, hne, zzA]
  (refine EndW.z ([(i, pOb l q0)]) (N := nx) Tryz.results136 (by simp [hne, hi] <;> omega) ?_; simp [hne, hi])
  exact PPost.zdv (by simp [PR.bind, *]; rfl) (by simp [Exp.row_eq, Exp.op, Exp.n, Exp.unit, Exp.s, Exp.args]) rfl
theorem zmT {l : List Tok} (hl : TokOK l) {f : Nat} (hE : zhZ l f) (hP : zkc l f) : zv6 l (f + 1) := by
 intro p form i nx hi hp hf hm0 hm7;have hf' : 4 * (l.length - p) + 1 <= f := by omega
 by_cases hf0 : form = 0
 ·have hf3 : form <= 3 := by omega
  cases h1 : isB l p [105, 102] with
  | true => exact zqw hl hE hp hf' hf0 h1 hi
  | false =>
   cases h2 : isB l p [110, 111, 116] with
   | true => exact zmV hl hE hp hf' hf0 hf3 h1 h2 hi
   | false => exact zlw hl hP hp hf' hf0 hf3 h1 h2 hi
 ·by_cases hf3 : form <= 3
  ·cases h2 : isB l p [110, 111, 116] with
   | true => exact zmU hl hE hp hf' hf0 hf3 h2 hi
   | false => exact zlv hl hP hp hf' hf0 hf3 h2 hi
  ·exact zlu hl hP hp hf' hf0 hf3 hi
end Go.Proofs.YtmlpcgkaonifcaaGreatDoor
namespace Go.Proofs.YtmlpcgkaonifcaaGreatDoor
open Go Go.VL
theorem zwV {e : Exp} {d : Nat} (h : zbg (d + 1) e = true) (ho : zbU e.op = 1) : ∃ x, e.args = [x] := by
 obtain ⟨h1, _⟩ := zdT h;exact List.length_eq_one_iff.1 (by omega)
theorem zsk {e : Exp} {d : Nat} (h : zbg (d + 1) e = true) (ho : zbU e.op = 2) : ∃ x y, e.args = [x, y] := by
 obtain ⟨h1, _⟩ := zdT h
 match hl : e.args, h1 with
 | [a, b], _ => exact ⟨a, b, rfl⟩
 | [], h => simp at h; omega
 | [a], h => simp at h; omega
 | a :: b :: c :: l, h => simp at h; omega
theorem zwU {e : Exp} {d : Nat} (h : zbg (d + 1) e = true) (ho : zbU e.op = 3) : ∃ x y z, e.args = [x, y, z] := by
 obtain ⟨h1, _⟩ := zdT h
 match hl : e.args, h1 with
 | [a, b, c], _ => exact ⟨a, b, c, rfl⟩
 | [], h => simp at h; omega
 | [a], h => simp at h; omega
 | [a, b], h => simp at h; omega
 | a :: b :: c :: d :: l, h => simp at h; omega
theorem zk2 {lets : List Let} {r : Nat} {g : GM} {m n : Nat} (hgs : ∀ s v, gF g s = some v -> inC v) (hrb : ∀ l ∈ lets, zbg 12 l.body = true) (hl : lets.length <= 20) (hmr : m ≠ r) (hnl : n <= lets.length) (hN : zuQ lets r g m n) : ∀ (d : Nat) (e : Exp), zbg d e = true -> zeA lets r g m n e
 | 0, e, h => by simp [zbg] at h
 | d + 1, e, h => by
  obtain ⟨h1, h2, h3, h4⟩ := zdT h;by_cases c0 : e.op = 0
  ·exact zpZ hmr c0
  by_cases c1 : e.op = 1
  ·exact zow hmr c1 hN
  have hV : ∀ x ∈ e.args, zeA lets r g m n x := fun x hx => zk2 hgs hrb hl hmr hnl hN d x (h4 c0 c1 x hx);have hT : ∀ x ∈ e.args, TMok lets.length (zcJ lets (gF g) n x) := fun x hx => zmF hrb hgs n d x (h4 c0 c1 x hx);by_cases c2 : e.op = 10
  ·obtain ⟨x, y, he⟩ := zsk h (by rw [c2]; rfl);rw [he] at hV hT;exact zp3 hmr c2 he (hV x (by simp)) (hT x (by simp)) (hV y (by simp)) (hT y (by simp))
  by_cases c3 : e.op = 11
  ·obtain ⟨x, y, he⟩ := zsk h (by rw [c3]; rfl);rw [he] at hV hT;exact zsD hmr c3 he (hV x (by simp)) (hT x (by simp)) (hV y (by simp)) (hT y (by simp))
  by_cases c4 : e.op = 12
  ·obtain ⟨x, he⟩ := zwV h (by rw [c4]; rfl);rw [he] at hV hT;exact zp0 hmr c4 he (hV x (by simp)) (hT x (by simp))
  by_cases c5 : e.op = 13
  ·obtain ⟨x, y, z, he⟩ := zwU h (by rw [c5]; rfl);rw [he] at hV hT;exact zsE hmr c5 he (hV x (by simp)) (hT x (by simp)) (hV y (by simp)) (hT y (by simp)) (hV z (by simp)) (hT z (by simp))
  obtain ⟨x, y, he⟩ := zsk h (by unfold zbU; split <;> first | omega | (split <;> first | omega | (split <;> first | omega | (split <;> omega))));rw [he] at hV hT;exact zp2 hmr (by omega) hl hnl he (hV x (by simp)) (hT x (by simp)) (hV y (by simp)) (hT y (by simp))
theorem ztK {lets : List Let} {r : Nat} {g : GM} {m : Nat} (hgs : ∀ s v, gF g s = some v -> inC v) (hrb : ∀ l ∈ lets, zbg 12 l.body = true) (hl : lets.length <= 20) (hmr : m ≠ r) :
  ∀ n, n <= lets.length -> ∀ (d : Nat) (e : Exp), zbg d e = true -> zeA lets r g m n e := by
 intro n
 induction n using Nat.strongRecOn with
 | _ n ih =>
  intro hnl;refine zk2 hgs hrb hl hmr hnl fun s t nx hm hr ht => ?_;exact ztc hgs hrb (fun i l hi hx => zqf (ih i hi (by omega) 12 l.body (hrb l (List.mem_of_getElem? hx))) hmr) s hnl hl hmr t nx hm hr ht
def gV (vars : List Var) : GM := vars.foldl (fun g v => if asc g v.name = none then zey g v.name v.n else g) []
theorem zvx {vars : List Var} {i : Nat} {v : Var} (h : vars[i]? = some v) : gV (vars.take (i + 1)) = if asc (gV (vars.take i)) v.name = none then zey (gV (vars.take i)) v.name v.n else gV (vars.take i) := zhx _ _ h
def zuF (v : Var) : Bool := decide (v.n <= 1099511627776) && decide (-1099511627776 <= v.n)
theorem zvy : ∀ (vars : List Var) (g : GM), (∀ s v, asc g s = some v -> inC v) -> (∀ v ∈ vars, zuF v = true) -> ∀ s v, asc (vars.foldl (fun g v => if asc g v.name = none then zey g v.name v.n else g) g) s = some v -> inC v
 | [], g, hg, _, s, v, h => hg s v h
 | x :: l, g, hg, hv, s, v, h => by
  refine zvy l _ ?_ (fun y hy => hv y (by simp [hy])) s v h;intro s' v' h';simp only at h';split at h'
  ·rw [zsj] at h';split at h'
   ·cases h';have := hv x (by simp);simp only [zuF, Bool.and_eq_true, decide_eq_true_eq] at this;exact ⟨this.2, this.1⟩
   ·exact hg s' v' h'
  ·exact hg s' v' h'
def zsw (lets : List Let) : Tab := List.replicate lets.length (0, 0, false)
def zjw (lets : List Let) (vars : List Var) (e : Exp) : Int × Int :=
 if zdK lets e = true /\ vars.all zuF = true then ((zj2 (zcJ lets (gF (gV vars)) lets.length e (zsw lets)).1).1, (zj2 (zcJ lets (gF (gV vars)) lets.length e (zsw lets)).1).2.1) else (0, 1)
end Go.Proofs.YtmlpcgkaonifcaaGreatDoor
namespace Go.Proofs.YtmlpcgkaonifcaaGreatDoor
open Go Go.VL
def zqp : List UInt8 := [100, 117, 101]
def zoG : List UInt8 := [102, 105, 110, 101]
def zlk : List UInt8 := [112, 97, 121]
def zjD : List UInt8 := [99, 111, 118, 101, 114]
def zga : List UInt8 := [104, 111, 108, 100]
def zkN (b : By) (c : List UInt8) : Option Exp :=
 if c = zqp then some b.due else if c = zoG then some b.fine else if c = zlk then some b.pay else if c = zjD then some b.cover else if c = zga then some b.hold else none
def zew (b : By) (c : List UInt8) (vars : List Var) : Int × Int := match zkN b c with
 | some e => if zdh b = true then zjw b.lets vars e else (0, 1)
 | none => (0, 1)
end Go.Proofs.YtmlpcgkaonifcaaGreatDoor
namespace Go.Proofs.YtmlpcgkaonifcaaGreatDoor
open Go Go.VL
structure Mv where
 to_ : Int
 gain : Int
structure Nd where
 mine : Bool
 moves : List Mv
def zd8 (l : List Mv) : U := .sl (l.map fun m => [.int .i64 m.to_, .int .i64 m.gain])
def zvf (m : Mv) : D := .u (.agg [.int .i64 m.to_, .int .i64 m.gain])
def zcE (l : List Nd) : U := .sl (l.map fun x => [.bool x.mine, .sl (x.moves.map fun m => [.int .i64 m.to_, .int .i64 m.gain])])
def zmz (i n : Nat) (m : Mv) : Bool := decide ((i : Int) < m.to_) && decide (m.to_ < n) && decide (-1099511627776 <= m.gain) && decide (m.gain <= 1099511627776)
def znT (i n : Nat) (x : Nd) : Bool := decide (x.moves.length <= 8) && x.moves.all (zmz i n)
def zqV (n : Nat) : Nat -> List Nd -> Bool
 | _, [] => true
 | i, x :: r => znT i n x && zqV n (i + 1) r
def zft (l : List Nd) : Bool := decide (0 < l.length) && decide (l.length <= 3000) && zqV l.length 0 l
def zjp (mine : Bool) (f : Int -> Int) (s : Int × Int × Nat) (m : Mv) : Int × Int × Nat :=
 if s.2.2 = 0 \/ mine = true /\ s.1 < m.gain + f m.to_ \/ mine = false /\ m.gain + f m.to_ < s.1 then (m.gain + f m.to_, s.2.2, s.2.2 + 1) else (s.1, s.2.1, s.2.2 + 1)
def zwS (mine : Bool) (f : Int -> Int) (ms : List Mv) : Int × Int × Nat := ms.foldl (zjp mine f) (0, -1, 0)
def svs (i : Nat) : List Nd -> List (Int × Int)
 | [] => []
 | x :: r => ((zwS x.mine (fun t => ((svs (i + 1) r).getD (t.toNat - (i + 1)) (0, -1)).1) x.moves).1, (zwS x.mine (fun t => ((svs (i + 1) r).getD (t.toNat - (i + 1)) (0, -1)).1) x.moves).2.1) :: svs (i + 1) r
def zfy (l : List Nd) : List Int := (svs 0 l).map (·.1)
def zgj (l : List Nd) : List Int := (svs 0 l).map (·.2)
def ofP (l : List Nd) (ms : List Int) (mine : Bool) : List Int := (l.zip ms).map fun p => if p.1.mine = mine then p.2 else -1
def zlH : List UInt8 := [109, 101, 109, 98, 101, 114, 115]
def zsA : List UInt8 := [112, 101, 114, 105, 111, 100]
def zxd : List UInt8 := [108, 97, 115, 116]
def zve : List UInt8 := [97, 103, 101]
def zuz : List UInt8 := [112, 111, 116]
def zuA : List UInt8 := [98, 105, 100]
def zm0 : List UInt8 := [104, 111, 108, 100, 115]
def zmG (b : By) (c : List UInt8) (vars : List Var) : Int × Int := (max (zew b c vars).1 0, (zew b c vars).2)
def ztO (b : By) (n p : Int) : Int × Int := zmG b zqp [⟨zlH, 1, n⟩, ⟨zsA, 1, p⟩, ⟨zxd, 1, b.last⟩, ⟨zve, 2, p * b.period⟩]
def znN (b : By) (n p pot : Int) : Int × Int := zmG b zlk [⟨zuz, 3, pot⟩, ⟨zuA, 3, 0⟩, ⟨zlH, 1, n⟩, ⟨zsA, 1, p⟩]
def zer (b : By) (n : Int) : Int × Int := zmG b zga [⟨zlH, 1, n⟩, ⟨zm0, 3, 0⟩]
def zs5 (b : By) (n k j due : Int) : Int := (if b.backs = 0 then n - k + j else n) * (due - (due * b.fund).tdiv 1000)
def zhX (b : By) (n k p due : Int) (j : Nat) : Int × Int :=
 if p < k /\ 0 < j then (if (znN b n p (zs5 b n k j due)).2 = 0 then (min (znN b n p (zs5 b n k j due)).1 (zs5 b n k j due) - j * due, 0) else (0, (znN b n p (zs5 b n k j due)).2)) else (-(j * due), 0)
def zgU (b : By) (n k p due : Int) : Nat -> List Int -> List Int × Int
 | 0, out => (out, 0)
 | j + 1, out => if (zhX b n k p due j).2 = 0 then zgU b n k p due j ((zhX b n k p due j).1 :: out) else ([], (zhX b n k p due j).2)
def zes (b : By) (n : Int) (k : Nat) (p : Int) : List Int × Int :=
 if b.kind = 2 then (List.replicate (k + 1) 0, 0)
 else if (ztO b n p).2 ≠ 0 then ([], (ztO b n p).2)
 else if 1099511627776 < n * (ztO b n p).1 then ([], 3)
 else zgU b n k p (ztO b n p).1 (k + 1) []
def znh (b : By) (n k j : Int) : Bool := decide (j < k) && decide (k < n) && decide (b.voices * n <= 1000 * (n - k))
def ziz (k : Nat) (base : Int) (g : List Int) : Nat -> List Mv
 | 0 => [⟨base + k, g.getD 0 0⟩]
 | i + 1 => ⟨base + k - (i + 1 : Nat), g.getD (i + 1) 0⟩ :: ziz k base g i
def zix (k : Nat) (base : Int) (g : List Int) : Nat -> List Nd
 | 0 => [⟨true, ziz k base g 0⟩]
 | j + 1 => ⟨true, ziz k base g (j + 1)⟩ :: zix k base g j
def zhS (b : By) (n : Int) (k : Nat) (lastP : Bool) (base end_ : Int) : Nat -> List Nd
 | 0 => [⟨false, ⟨if lastP = true then end_ else base + k, 0⟩ :: if znh b n k 0 = true then [⟨end_, 0⟩] else []⟩]
 | j + 1 => ⟨false, ⟨if lastP = true then end_ else base + k - (j + 1 : Nat), 0⟩ :: if znh b n k (j + 1 : Nat) = true then [⟨end_, 0⟩] else []⟩ :: zhS b n k lastP base end_ j
def zgO (b : By) (n : Int) (k : Nat) (p a end_ : Int) (g : List Int) : List Nd :=
 zix k (a + (k + 1)) g k ++ zhS b n k (decide (p = b.last - 1)) (a + 2 * (k + 1)) end_ k
def zhC (m : Int) : Int -> List Int -> Bool
 | _, [] => true
 | l, x :: r => decide (l < x) && decide (x < m) && zhC m x r
def zdJ (b : By) (m : Int) (c : List Int) : Bool := zhC m (-1) c && zdh b && decide (1 <= m) && decide (m <= 60)
def ziO (b : By) (n : Int) (k : Nat) (end_ : Int) : Nat -> List Nd -> Nat -> List Nd × Int
 | _, out, 0 => (out ++ [⟨false, []⟩], 0)
 | p, out, r + 1 => if (zes b n k p).2 = 0 then ziO b n k end_ (p + 1) (out ++ zgO b n k p out.length end_ (zes b n k p).1) r else ([], (zes b n k p).2)
def znb (b : By) (n : Int) (k : Nat) : List Nd × Int :=
 if 7 < k \/ 3000 <= 2 * ((k : Int) + 1) * b.last then ([], 6) else ziO b n k (2 * ((k : Int) + 1) * b.last) 0 [] b.last.toNat
def zdO (b : By) (m : Int) (c : List Int) : List Nd × Int := if zdJ b m c = true then znb b m c.length else ([], 1)
end Go.Proofs.YtmlpcgkaonifcaaGreatDoor
namespace Go.Proofs.YtmlpcgkaonifcaaGreatDoor
open Go Go.VL
theorem zmZ (n : Nat) : ∀ (l : List Nd) (i : Nat), zqV n i l = true ↔ ∀ (j : Nat) (x : Nd), l[j]? = some x -> znT (i + j) n x = true
 | [], i => by simp [zqV]
 | x :: r, i => by
  rw [zqV, Bool.and_eq_true, zmZ n r (i + 1)];constructor
  ·rintro ⟨h1, h2⟩ j y hy;cases j with
   | zero => simp at hy; subst hy; exact h1
   | succ j => have := h2 j y (by simpa using hy); rw [show i + (j + 1) = i + 1 + j by omega]; exact this
  ·intro h;refine ⟨by simpa using h 0 x rfl, fun j y hy => ?_⟩;have := h (j + 1) y (by simpa using hy);rw [show i + (j + 1) = i + 1 + j by omega] at this;exact this
theorem ziy (k : Nat) (base : Int) (g : List Int) : ∀ j, (ziz k base g j).length = j + 1
 | 0 => rfl
 | j + 1 => by rw [ziz, List.length_cons, ziy k base g j]
theorem zfD (k : Nat) (base : Int) (g : List Int) : ∀ j, (zix k base g j).length = j + 1
 | 0 => rfl
 | j + 1 => by rw [zix, List.length_cons, zfD k base g j]
theorem zlm (b : By) (n : Int) (k : Nat) (lp : Bool) (base e : Int) : ∀ j, (zhS b n k lp base e j).length = j + 1
 | 0 => rfl
 | j + 1 => by rw [zhS, List.length_cons, zlm b n k lp base e j]
theorem zjN (b : By) (n : Int) (k : Nat) (p a e : Int) (g : List Int) : (zgO b n k p a e g).length = 2 * (k + 1) := by
 unfold zgO;rw [List.length_append, zfD, zlm];omega
theorem zlJ {k : Nat} {base : Int} {g : List Int} : ∀ {j : Nat} {m : Mv}, m ∈ ziz k base g j -> ∃ i : Nat, i <= j /\ m.to_ = base + k - i /\ m.gain = g.getD i 0
 | 0, m, h => by simp [ziz] at h; subst h; exact ⟨0, Nat.le_refl _, by simp, rfl⟩
 | j + 1, m, h => by
  rw [ziz] at h;rcases List.mem_cons.1 h with rfl | h
  ·exact ⟨j + 1, Nat.le_refl _, rfl, rfl⟩
  ·obtain ⟨i, h1, h2⟩ := zlJ h;exact ⟨i, by omega, h2⟩
theorem znV {k : Nat} {base : Int} {g : List Int} : ∀ {j i : Nat} {x : Nd}, (zix k base g j)[i]? = some x -> i <= j /\ x = ⟨true, ziz k base g (j - i)⟩
 | 0, i, x, h => by
  cases i with
  | zero => simp [zix] at h; exact ⟨Nat.le_refl _, h.symm⟩
  | succ i => simp [zix] at h
 | j + 1, i, x, h => by
  rw [zix] at h;cases i with
  | zero => simp at h; exact ⟨by omega, h.symm⟩
  | succ i =>
   obtain ⟨h1, h2⟩ := znV (show (zix k base g j)[i]? = some x by simpa using h);exact ⟨by omega, by rw [h2, show j + 1 - (i + 1) = j - i by omega]⟩
theorem znK {b : By} {n : Int} {k : Nat} {lp : Bool} {base e : Int} : ∀ {j i : Nat} {x : Nd}, (zhS b n k lp base e j)[i]? = some x -> i <= j /\ x.mine = false /\ x.moves.length <= 2 /\ 0 < x.moves.length /\ ∀ m ∈ x.moves, m.gain = 0 /\ (m.to_ = e \/ lp = false /\ m.to_ = base + k - ((j - i : Nat) : Int))
 | 0, i, x, h => by
  cases i with
  | zero =>
   simp only [zhS, List.getElem?_cons_zero, Option.some.injEq] at h;subst h;refine ⟨Nat.le_refl _, rfl, by simp; split <;> simp, by simp, fun m hm => ?_⟩;simp only [List.mem_cons] at hm;rcases hm with rfl | hm
   ·refine ⟨rfl, ?_⟩;simp only;split
    ·exact .inl rfl
    ·rename_i hl;exact .inr ⟨by simpa using hl, by simp⟩
   ·split at hm
    ·simp at hm; subst hm; exact ⟨rfl, .inl rfl⟩
    ·cases hm
  | succ i => simp [zhS] at h
 | j + 1, i, x, h => by
  rw [zhS] at h;cases i with
  | zero =>
   simp only [List.getElem?_cons_zero, Option.some.injEq] at h;subst h;refine ⟨by omega, rfl, by simp; split <;> simp, by simp, fun m hm => ?_⟩;simp only [List.mem_cons] at hm;rcases hm with rfl | hm
   ·refine ⟨rfl, ?_⟩;simp only;split
    ·exact .inl rfl
    ·rename_i hl;exact .inr ⟨by simpa using hl, by simp⟩
   ·split at hm
    ·simp at hm; subst hm; exact ⟨rfl, .inl rfl⟩
    ·cases hm
  | succ i =>
   obtain ⟨h1, h2, h3, h4, h5⟩ := znK (show (zhS b n k lp base e j)[i]? = some x by simpa using h);exact ⟨by omega, h2, h3, h4, fun m hm => by rw [show j + 1 - (i + 1) = j - i by omega]; exact h5 m hm⟩
theorem zhe (b : By) (c : List UInt8) (vars : List Var) : 0 <= (zmG b c vars).1 := by unfold zmG; simp only; omega
theorem zvs {b : By} {n k p due : Int} {j : Nat} (hb : 0 <= b.fund /\ b.fund <= 1000) (hn : 1 <= n) (hd : 0 <= due) (hnd : n * due <= 1099511627776) (hk : 0 <= k /\ k <= n) (hj : (j : Int) <= k) : -1099511627776 <= (zhX b n k p due j).1 /\ (zhX b n k p due j).1 <= 1099511627776 := by
 have hjd : (j : Int) * due <= n * due := Int.mul_le_mul_of_nonneg_right (by omega) hd;have hj0 : 0 <= (j : Int) * due := Int.mul_nonneg (by omega) hd;have hf0 : 0 <= due * b.fund := Int.mul_nonneg hd hb.1;have hf1 : due * b.fund <= due * 1000 := Int.mul_le_mul_of_nonneg_left hb.2 hd;have hq0 : 0 <= (due * b.fund).tdiv 1000 := by rw [Int.tdiv_eq_ediv_of_nonneg hf0]; omega
 have hq1 : (due * b.fund).tdiv 1000 <= due := by rw [Int.tdiv_eq_ediv_of_nonneg hf0]; omega
 have hp : 0 <= zs5 b n k j due /\ zs5 b n k j due <= n * due := by
  unfold zs5;generalize (due * b.fund).tdiv 1000 = q at *;have hs : ∀ m : Int, 0 <= m -> m <= n -> 0 <= m * (due - q) /\ m * (due - q) <= n * due := fun m h0 h1 => by
   refine ⟨Int.mul_nonneg h0 (by omega), Int.le_trans (Int.mul_le_mul_of_nonneg_left (show due - q <= due by omega) h0) (Int.mul_le_mul_of_nonneg_right h1 hd)⟩
  split
  ·exact hs _ (by omega) (by omega)
  ·exact hs _ (by omega) (by omega)
 have hv := zhe b zlk [⟨zuz, 3, zs5 b n k j due⟩, ⟨zuA, 3, 0⟩, ⟨zlH, 1, n⟩, ⟨zsA, 1, p⟩];unfold zhX;split
 ·split
  ·simp only [znN];generalize (zmG b zlk _).1 = v at *;omega
  ·simp
 ·simp only; omega
theorem ziP {b : By} {n k p due : Int} {P : Int -> Prop} : ∀ {j : Nat} {out g : List Int}, zgU b n k p due j out = (g, 0) -> (∀ i, i < j -> P (zhX b n k p due i).1) -> (∀ z ∈ out, P z) -> g.length = j + out.length /\ ∀ z ∈ g, P z
 | 0, out, g, h, _, ho => by
  rw [zgU] at h;cases h;exact ⟨by simp, ho⟩
 | j + 1, out, g, h, hP, ho => by
  rw [zgU] at h;split at h
  ·obtain ⟨h1, h2⟩ := ziP h (fun i hi => hP i (by omega)) (fun z hz => by
    rcases List.mem_cons.1 hz with rfl | hz
    ·exact hP j (by omega)
    ·exact ho z hz)
   exact ⟨by rw [h1]; simp; omega, h2⟩
  ·rename_i hne;exact absurd (congrArg Prod.snd h) hne
theorem zn7 {b : By} {n : Int} {k : Nat} {p : Int} {g : List Int} (h : zes b n k p = (g, 0)) (hb : 0 <= b.fund /\ b.fund <= 1000) (hn : 1 <= n) (hk : (k : Int) <= n) : g.length = k + 1 /\ ∀ z ∈ g, -1099511627776 <= z /\ z <= 1099511627776 := by
 unfold zes at h;split at h
 ·cases h;exact ⟨by simp, fun z hz => by rw [List.eq_of_mem_replicate hz]; omega⟩
 split at h
 ·rename_i hne;exact absurd (congrArg Prod.snd h) hne
 split at h
 ·exact absurd (congrArg Prod.snd h) (by simp)
 rename_i hnd;have := ziP (P := fun z => -1099511627776 <= z /\ z <= 1099511627776) h (fun i hi => zvs hb hn (zhe _ _ _) (by omega) ⟨by omega, hk⟩ (by omega)) (fun z hz => by cases hz);exact ⟨by rw [this.1]; rfl, this.2⟩
theorem zpo {b : By} {n : Int} {k : Nat} {p : Int} {g : List Int} (h : zes b n k p = (g, 0)) (hz : b.kind = 2 \/ k = 0) : ∀ z ∈ g, z = 0 := by
 unfold zes at h;split at h
 ·cases h;exact fun z hz => List.eq_of_mem_replicate hz
 rename_i hk2
 obtain rfl : k = 0 := by rcases hz with h1 | h1; · exact absurd h1 hk2
                          ·exact h1
 split at h
 ·rename_i hne;exact absurd (congrArg Prod.snd h) hne
 split at h
 ·exact absurd (congrArg Prod.snd h) (by simp)
 refine (ziP (P := fun z => z = 0) h (fun i hi => ?_) (fun z hz => by cases hz)).2;obtain rfl : i = 0 := by omega
 unfold zhX;rw [if_neg (by omega)];simp
structure Outs (b : By) (n : Int) (k p : Nat) (e : Int) (out : List Nd) : Prop where
 len : out.length = 2 * (k + 1) * p
 ok : ∀ (i : Nat) (x : Nd), out[i]? = some x -> x.moves.length <= 8 /\ 0 < x.moves.length /\ ∀ m ∈ x.moves, (i : Int) < m.to_ /\ m.to_ <= e /\ -1099511627776 <= m.gain /\ m.gain <= 1099511627776 /\ (b.kind = 2 \/ k = 0 -> m.gain = 0)
theorem Outs.nodes {b : By} {n : Int} {k p : Nat} {out : List Nd} {g : List Int} (h : Outs b n k p (2 * ((k : Int) + 1) * b.last) out) (hp : (p : Int) < b.last) (hg : zes b n k p = (g, 0)) (hb : 0 <= b.fund /\ b.fund <= 1000) (hn : 1 <= n) (hk : (k : Int) <= n) (hk7 : k <= 7) :
  Outs b n k (p + 1) (2 * ((k : Int) + 1) * b.last) (out ++ zgO b n k p out.length (2 * ((k : Int) + 1) * b.last) g) := by
 obtain ⟨hgl, hgb⟩ := zn7 hg hb hn hk;have hgz := zpo hg;have hl := h.len;obtain ⟨q, hq⟩ : ∃ q : Nat, b.last = p + 1 + q := ⟨(b.last - p - 1).toNat, by omega⟩;have he : 2 * ((k : Int) + 1) * b.last = out.length + 2 * (k + 1) + 2 * (k + 1) * q := by
  rw [hq, show ((out.length : Nat) : Int) = 2 * (k + 1) * p by rw [hl]; push_cast; rfl];simp only [Int.mul_add, Int.add_mul];omega
 have hq0 : 0 <= 2 * ((k : Int) + 1) * q := by apply Int.mul_nonneg <;> omega
 have hq1 : 0 < q -> 2 * ((k : Int) + 1) <= 2 * ((k : Int) + 1) * q := fun h1 => by
  have := Int.mul_le_mul_of_nonneg_left (show (1 : Int) <= q by omega) (show 0 <= 2 * ((k : Int) + 1) by omega);omega
 generalize 2 * ((k : Int) + 1) * b.last = e at *;generalize 2 * ((k : Int) + 1) * q = w at *;refine ⟨by rw [List.length_append, zjN, hl]; exact (Nat.mul_succ _ _).symm, fun i x hx => ?_⟩;by_cases hi : i < out.length
 ·rw [List.getElem?_append_left hi] at hx;exact h.ok i x hx
 rw [List.getElem?_append_right (by omega)] at hx;unfold zgO at hx;by_cases hi2 : i - out.length < k + 1
 ·rw [List.getElem?_append_left (by rw [zfD]; omega)] at hx;obtain ⟨h1, rfl⟩ := znV hx;refine ⟨by simp only [ziy]; omega, by simp only [ziy]; omega, fun m hm => ?_⟩;obtain ⟨i', h2, h3, h4⟩ := zlJ hm;have hgi : g.getD i' 0 ∈ g := by
   rw [List.getD_eq_getElem?_getD, List.getElem?_eq_getElem (by omega)];exact List.getElem_mem _
  have := hgb _ hgi;rw [h3, h4];refine ⟨by omega, by omega, this.1, this.2, fun hz => hgz hz _ hgi⟩
 ·rw [List.getElem?_append_right (by rw [zfD]; omega), zfD] at hx;obtain ⟨h1, h2, h3, h4, h5⟩ := znK hx;refine ⟨by omega, h4, fun m hm => ?_⟩;obtain ⟨h6, h7⟩ := h5 m hm;rw [h6];rcases h7 with h7 | ⟨h8, h7⟩
  ·rw [h7];exact ⟨by omega, by omega, by omega, by omega, fun _ => rfl⟩
  ·rw [h7];have hq2 : 0 < q := by
    have : ¬ (p : Int) = b.last - 1 := by simpa using h8
    omega
   have := hq1 hq2;exact ⟨by omega, by omega, by omega, by omega, fun _ => rfl⟩
structure GameK (b : By) (k : Nat) (l : List Nd) : Prop where
 len : (l.length : Int) = 2 * ((k : Int) + 1) * b.last + 1
 right : zft l = true
 zero : b.kind = 2 \/ k = 0 -> ∀ x ∈ l, ∀ m ∈ x.moves, m.gain = 0
theorem zn6 {b : By} {n : Int} {k : Nat} (hb : 0 <= b.fund /\ b.fund <= 1000) (hn : 1 <= n) (hk : (k : Int) <= n) (hk7 : k <= 7) (he : 2 * ((k : Int) + 1) * b.last < 3000) : ∀ (r p : Nat) (out l : List Nd), (p : Int) + r = b.last -> Outs b n k p (2 * ((k : Int) + 1) * b.last) out ->
  ziO b n k (2 * ((k : Int) + 1) * b.last) p out r = (l, 0) -> GameK b k l
 | 0, p, out, l, hp, ho, h => by
  rw [ziO] at h;cases h;have hl : (out.length : Int) = 2 * ((k : Int) + 1) * b.last := by
   rw [ho.len, <- hp]; push_cast; simp
  have hok := ho.ok;rw [<- hl] at hok he;refine ⟨by rw [List.length_append, <- hl]; simp, ?_, fun hz x hx m hm => ?_⟩
  ·unfold zft;rw [Bool.and_eq_true, Bool.and_eq_true, zmZ];refine ⟨⟨by simp, by simp; omega⟩, fun j x hx => ?_⟩;by_cases hj : j < out.length
   ·rw [List.getElem?_append_left hj] at hx;obtain ⟨h1, _, h2⟩ := hok j x hx;unfold znT;rw [Bool.and_eq_true, decide_eq_true_eq, List.all_eq_true];refine ⟨h1, fun m hm => ?_⟩;obtain ⟨g1, g2, g3, g4, _⟩ := h2 m hm;simp [zmz];omega
   ·rw [List.getElem?_append_right (by omega)] at hx;cases hjj : j - out.length with
    | zero => rw [hjj] at hx; simp at hx; subst hx; simp [znT]
    | succ q => rw [hjj] at hx; simp at hx
  ·rcases List.mem_append.1 hx with hx | hx
   ·obtain ⟨i, hi⟩ := List.getElem?_of_mem hx;exact ((hok i x hi).2.2 m hm).2.2.2.2 hz
   ·simp at hx; subst hx; cases hm
 | r + 1, p, out, l, hp, ho, h => by
  rw [ziO] at h;split at h
  ·rename_i he0;exact zn6 hb hn hk hk7 he r (p + 1) _ l (by push_cast; omega) (ho.nodes (by omega) (Prod.ext rfl he0) hb hn hk hk7) h
  ·rename_i hne;exact absurd (congrArg Prod.snd h) hne
theorem zdF {b : By} (h : zdh b = true) : (1 <= b.last /\ b.last <= 1000) /\ (1 <= b.period /\ b.period <= 1000) /\ (0 <= b.fund /\ b.fund <= 1000) /\ (0 <= b.voices /\ b.voices <= 1000) /\ (0 <= b.wait /\ b.wait <= 1000) /\ (0 <= b.grace /\ b.grace <= 1000) := by
 simp only [zdh, zvp, Bool.and_eq_true] at h;obtain ⟨⟨⟨⟨⟨⟨⟨⟨_, _⟩, h1⟩, h2⟩, _⟩, _⟩, _⟩, _⟩, _⟩ := h;simp only [inB, List.any_cons, List.any_nil, Bool.or_false, Bool.not_eq_true', Bool.or_eq_false_iff, decide_eq_false_iff_not, Int.not_lt] at h1 h2;omega
theorem zn5 {b : By} {n : Int} {k : Nat} {l : List Nd} (hr : zdh b = true) (hn : 1 <= n) (hk : (k : Int) <= n) (h : znb b n k = (l, 0)) : GameK b k l := by
 obtain ⟨h1, h2, h3, _⟩ := zdF hr;unfold znb at h;split at h
 ·exact absurd (congrArg Prod.snd h) (by simp)
 ·rename_i hc;exact zn6 h3 hn hk (by omega) (by omega) b.last.toNat 0 [] l (by omega) ⟨by simp, fun i x hx => by simp at hx⟩ h
end Go.Proofs.YtmlpcgkaonifcaaGreatDoor
namespace Go.Proofs.YtmlpcgkaonifcaaGreatDoor
open Go Go.VL
theorem zii : ∀ (l : List Nd) (i : Nat), (svs i l).length = l.length
 | [], _ => rfl
 | x :: r, i => by rw [svs, List.length_cons, zii r, List.length_cons]
theorem zsg {mine : Bool} {f : Int -> Int} {B : Int} (h0 : 0 <= B) : ∀ (ms : List Mv) (s : Int × Int × Nat), -B <= s.1 /\ s.1 <= B -> (∀ m ∈ ms, -B <= m.gain + f m.to_ /\ m.gain + f m.to_ <= B) -> -B <= (ms.foldl (zjp mine f) s).1 /\ (ms.foldl (zjp mine f) s).1 <= B
 | [], s, hs, _ => hs
 | m :: r, s, hs, h => by
  rw [List.foldl_cons];refine zsg h0 r _ ?_ fun x hx => h x (by simp [hx]);unfold zjp;split
  ·exact h m (by simp)
  ·exact hs
theorem zqh : ∀ (l : List Nd) (i : Nat), (∀ x ∈ l, ∀ m ∈ x.moves, -1099511627776 <= m.gain /\ m.gain <= 1099511627776) -> ∀ p ∈ svs i l, -(1099511627776 * (l.length : Int)) <= p.1 /\ p.1 <= 1099511627776 * (l.length : Int)
 | [], i, _, p, hp => by simp [svs] at hp
 | x :: r, i, h, p, hp => by
  have ih := zqh r (i + 1) fun y hy => h y (by simp [hy]);have hl : ((x :: r : List Nd).length : Int) = r.length + 1 := by simp
  rw [svs] at hp;rw [hl];rcases List.mem_cons.1 hp with rfl | hp
  ·refine zsg (by omega) x.moves _ (by simp only; omega) fun m hm => ?_;have h1 := h x (by simp) m hm;have h2 : -(1099511627776 * (r.length : Int)) <= ((svs (i + 1) r).getD (m.to_.toNat - (i + 1)) (0, -1)).1 /\ ((svs (i + 1) r).getD (m.to_.toNat - (i + 1)) (0, -1)).1 <= 1099511627776 * (r.length : Int) := by
    rw [List.getD_eq_getElem?_getD];cases hg : (svs (i + 1) r)[m.to_.toNat - (i + 1)]? with
    | none => simp; omega
    | some q => exact ih q (List.mem_of_getElem? hg)
   omega
  ·have := ih p hp;omega
theorem zmi {mine : Bool} {f : Int -> Int} : ∀ (ms : List Mv) (s : Int × Int × Nat), s.1 = 0 -> (∀ m ∈ ms, m.gain + f m.to_ = 0) -> (ms.foldl (zjp mine f) s).1 = 0
 | [], s, hs, _ => hs
 | m :: r, s, hs, h => by
  rw [List.foldl_cons];refine zmi r _ ?_ fun x hx => h x (by simp [hx]);unfold zjp;split
  ·exact h m (by simp)
  ·exact hs
theorem znF : ∀ (l : List Nd) (i : Nat), (∀ x ∈ l, ∀ m ∈ x.moves, m.gain = 0) -> ∀ p ∈ svs i l, p.1 = 0
 | [], i, _, p, hp => by simp [svs] at hp
 | x :: r, i, h, p, hp => by
  have ih := znF r (i + 1) fun y hy => h y (by simp [hy]);rw [svs] at hp;rcases List.mem_cons.1 hp with rfl | hp
  ·refine zmi x.moves _ rfl fun m hm => ?_;rw [h x (by simp) m hm, List.getD_eq_getElem?_getD];cases hg : (svs (i + 1) r)[m.to_.toNat - (i + 1)]? with
   | none => rfl
   | some q => simp [ih q (List.mem_of_getElem? hg)]
  ·exact ih p hp
theorem zp4 {l : List Nd} (h : ∀ x ∈ l, ∀ m ∈ x.moves, m.gain = 0) : (zfy l).getD 0 0 = 0 := by
 unfold zfy;rw [List.getD_eq_getElem?_getD, List.getElem?_map];cases hg : (svs 0 l)[0]? with
 | none => rfl
 | some q => simp [znF l 0 h q (List.mem_of_getElem? hg)]
def zmM (b : By) : Bool := decide (b.wait <= b.period) && decide (b.grace <= b.period)
def zdV (b : By) (m : Int) (c : List Int) : List Nd × Int :=
 if (zdO b m c).2 ≠ 0 then ([], (zdO b m c).2) else if zmM b = true then ((zdO b m c).1, 0) else ([], 23)
def za5 (b : By) (m : Int) (c : List Int) : List Int × List Int × Int × Int :=
 if (zdV b m c).2 ≠ 0 then ([], [], 0, (zdV b m c).2) else (zfy (zdV b m c).1, ofP (zdV b m c).1 (zgj (zdV b m c).1) false, (zfy (zdV b m c).1).getD 0 0, 0)
def ze8 (s : Nat) : List Int := (List.range s).map fun i : Nat => (i : Int)
def exG (b : By) (m : Int) : Nat -> Int -> Nat -> Int × Int
 | _, most, 0 => (most, 0)
 | s, most, r + 1 => if (za5 b m (ze8 s)).2.2.2 ≠ 0 then (0, (za5 b m (ze8 s)).2.2.2) else exG b m (s + 1) (max most (za5 b m (ze8 s)).2.2.1) r
def zet (b : By) (m liars : Int) : Int × Int :=
 if zdJ b m [] = true /\ 0 <= liars /\ liars <= m then (if (exG b m 0 0 (liars.toNat + 1)).2 ≠ 0 then (0, (exG b m 0 0 (liars.toNat + 1)).2) else if (zer b m).2 ≠ 0 then (0, (zer b m).2) else ((exG b m 0 0 (liars.toNat + 1)).1 + liars * (zer b m).1, 0)) else (0, 1)
theorem zoi {m : Int} : ∀ {c : List Int} {l : Int}, zhC m l c = true -> (c.length : Int) <= max 0 (m - l - 1)
 | [], l, _ => by simp; omega
 | x :: r, l, h => by
  rw [zhC, Bool.and_eq_true, Bool.and_eq_true, decide_eq_true_eq, decide_eq_true_eq] at h;have := zoi h.2;simp only [List.length_cons];omega
theorem zj4 {m : Int} : ∀ (s k : Nat) (l : Int), l < s -> (s : Int) + k <= m -> zhC m l ((List.range' s k).map fun i : Nat => (i : Int)) = true
 | s, 0, l, _, _ => by simp [zhC]
 | s, k + 1, l, hl, hm => by
  rw [List.range'_succ, zzC, zhC, zj4 (s + 1) k s (by omega) (by omega)];simp;omega
theorem zrQ {m : Int} {k : Nat} (h : (k : Int) <= m) : zhC m (-1) (ze8 k) = true := by
 unfold ze8;rw [List.range_eq_range'];exact zj4 0 k (-1) (by omega) (by omega)
theorem zfR (k : Nat) : (ze8 k).length = k := by simp [ze8]
theorem zjG {b : By} {m : Int} {c : List Int} (h : zdJ b m c = true) {k : Nat} (hk : (k : Int) <= m) : zdJ b m (ze8 k) = true := by
 unfold zdJ at h ⊢;rw [zrQ hk];simp only [Bool.and_eq_true, decide_eq_true_eq] at h;simp [h]
theorem zd5 {b : By} {m : Int} {c : List Int} (h : zdJ b m c = true) : (c.length : Int) <= m /\ zdh b = true /\ 1 <= m /\ m <= 60 := by
 unfold zdJ at h;simp only [Bool.and_eq_true, decide_eq_true_eq] at h;have := zoi h.1.1.1;exact ⟨by omega, h.1.1.2, h.1.2, h.2⟩
theorem zjJ {b : By} {m : Int} {c c' : List Int} (h : zdJ b m c = true) (h' : zdJ b m c' = true) (hl : c.length = c'.length) : za5 b m c = za5 b m c' := by
 unfold za5 zdV zdO;rw [if_pos h, if_pos h', hl]
theorem zgs {b : By} {m : Int} {c : List Int} (h : (za5 b m c).2.2.2 = 0) : zdJ b m c = true /\ (zdO b m c).2 = 0 /\ zmM b = true /\ za5 b m c = (zfy (zdO b m c).1, ofP (zdO b m c).1 (zgj (zdO b m c).1) false, (zfy (zdO b m c).1).getD 0 0, 0) := by
 unfold za5 at h ⊢;split at h
 ·rename_i hn; exact absurd h hn
 ·rename_i ho;have ho : (zdV b m c).2 = 0 := Classical.byContradiction ho;rw [if_neg (by simpa using ho)];unfold zdV at ho ⊢;split at ho
  ·rename_i hg; exact absurd ho hg
  ·rename_i hg;split at ho
   ·rename_i hr;rw [if_neg hg, if_pos hr];have hg : (zdO b m c).2 = 0 := Classical.byContradiction hg;refine ⟨?_, hg, hr, rfl⟩;unfold zdO at hg;split at hg
    ·rename_i h1; exact h1
    ·cases hg
   ·cases ho
theorem zpL {b : By} {m : Int} {c : List Int} (h : (za5 b m c).2.2.2 = 0) (hz : b.kind = 2 \/ c.length = 0) : (za5 b m c).2.2.1 = 0 := by
 obtain ⟨h1, h2, _, h4⟩ := zgs h;rw [h4];obtain ⟨r1, r2, r3, _⟩ := zd5 h1;have hg : zdO b m c = znb b m c.length := by unfold zdO; rw [if_pos h1]
 rw [hg] at h2 ⊢;exact zp4 ((zn5 r2 r3 r1 (Prod.ext rfl h2)).zero hz)
theorem zrJ {b : By} {m : Int} : ∀ {r s : Nat} {most v : Int}, exG b m s most r = (v, 0) -> most <= v /\ ∀ i, s <= i -> i < s + r -> (za5 b m (ze8 i)).2.2.2 = 0 /\ (za5 b m (ze8 i)).2.2.1 <= v
 | 0, s, most, v, h => by rw [exG] at h; cases h; exact ⟨Int.le_refl _, fun i h1 h2 => by omega⟩
 | r + 1, s, most, v, h => by
  rw [exG] at h;split at h
  ·rename_i hn; exact absurd (congrArg Prod.snd h) hn
  ·rename_i hn;have hn : (za5 b m (ze8 s)).2.2.2 = 0 := Classical.byContradiction hn;obtain ⟨h1, h2⟩ := zrJ h;refine ⟨by omega, fun i hi hr => ?_⟩;by_cases e : i = s
   ·subst e; exact ⟨hn, by omega⟩
   ·exact h2 i (by omega) (by omega)
theorem zoe {b : By} {m : Int} : ∀ {r s : Nat} {most w : Int}, exG b m s most (r + 1) = (w, 0) -> ∃ v, exG b m s most r = (v, 0) /\ v <= w
 | 0, s, most, w, h => ⟨most, rfl, (zrJ h).1⟩
 | r + 1, s, most, w, h => by
  rw [exG] at h;split at h
  ·rename_i hn; exact absurd (congrArg Prod.snd h) hn
  ·rename_i hn;obtain ⟨v, h1, h2⟩ := zoe h;exact ⟨v, by rw [exG, if_neg hn]; exact h1, h2⟩
theorem zod {b : By} {m l n : Int} (h : zet b m l = (n, 0)) : zdJ b m [] = true /\ 0 <= l /\ l <= m /\ (zer b m).2 = 0 /\ ∃ v, exG b m 0 0 (l.toNat + 1) = (v, 0) /\ n = v + l * (zer b m).1 := by
 unfold zet at h;split at h
 ·rename_i hc;split at h
  ·rename_i hn; exact absurd (congrArg Prod.snd h) hn
  ·rename_i hx;split at h
   ·rename_i hn; exact absurd (congrArg Prod.snd h) hn
   ·rename_i hh;have hx : (exG b m 0 0 (l.toNat + 1)).2 = 0 := Classical.byContradiction hx;exact ⟨hc.1, hc.2.1, hc.2.2, Classical.byContradiction hh, _, Prod.ext rfl hx, (congrArg Prod.fst h).symm⟩
 ·exact absurd (congrArg Prod.snd h) (by simp)
theorem zrI {b : By} {m l : Int} (h : (zet b m l).2 ≠ 0) : (zet b m l).1 = 0 := by
 unfold zet at h ⊢;split
 ·rename_i hc;rw [if_pos hc] at h;split
  ·rfl
  ·rename_i h1;rw [if_neg h1] at h;split
   ·rfl
   ·rename_i h2;rw [if_neg h2] at h;exact absurd rfl h
 ·rfl
theorem zpu {b : By} {m l w : Int} (hl : 0 <= l) (h : zet b m (l + 1) = (w, 0)) : ∃ n, zet b m l = (n, 0) /\ n <= w := by
 obtain ⟨h1, h2, h3, h4, v, h5, h6⟩ := zod h;rw [show (l + 1).toNat + 1 = (l.toNat + 1) + 1 by omega] at h5;obtain ⟨u, g1, g2⟩ := zoe h5;refine ⟨u + l * (zer b m).1, ?_, ?_⟩
 ·unfold zet;rw [if_pos ⟨h1, hl, by omega⟩, g1, h4];simp
 ·have := zhe b zga [⟨zlH, 1, m⟩, ⟨zm0, 3, 0⟩];have e : (l + 1) * (zer b m).1 = l * (zer b m).1 + (zer b m).1 := by rw [Int.add_mul, Int.one_mul]
  have : 0 <= (zer b m).1 := this;omega
theorem zrH {b : By} {m l n : Int} {c : List Int} (h : zet b m l = (n, 0)) : (zer b m).2 = 0 /\ l * (zer b m).1 <= n /\ ((za5 b m c).2.2.2 = 0 -> (c.length : Int) <= l -> (za5 b m c).2.2.1 + l * (zer b m).1 <= n) := by
 obtain ⟨h1, h2, h3, h4, v, h5, h6⟩ := zod h;obtain ⟨g1, g2⟩ := zrJ h5;refine ⟨h4, by omega, fun h7 h8 => ?_⟩;obtain ⟨r1, _⟩ := zgs h7;obtain ⟨r2, _⟩ := zd5 r1;rw [zjJ r1 (zjG r1 r2) (zfR _).symm];have := (g2 c.length (by omega) (by omega)).2;omega
end Go.Proofs.YtmlpcgkaonifcaaGreatDoor
namespace Go.Proofs.YtmlpcgkaonifcaaGreatDoor
open Go Go.VL
def ofK (mine : Bool) : Nat -> List Nd -> List Int -> List Int
 | 0, _, ms => ms
 | k + 1, x :: r, c :: ms => (if x.mine = mine then c else -1) :: ofK mine k r ms
 | _ + 1, _, ms => ms
theorem zqJ (mine : Bool) : ∀ (k : Nat) (l : List Nd) (ms : List Int), (ofK mine k l ms).length = ms.length
 | 0, _, _ => by simp [ofK]
 | k + 1, x :: r, c :: ms => by simp [ofK, zqJ mine k r ms]
 | _ + 1, [], ms => by simp [ofK]
 | _ + 1, _ :: _, [] => by simp [ofK]
theorem znR (mine : Bool) : ∀ (k : Nat) (l : List Nd) (ms : List Int) (x : Nd), l[k]? = some x -> ms.length = l.length -> ofK mine (k + 1) l ms = if x.mine = mine then ofK mine k l ms else (ofK mine k l ms).set k (-1)
 | _, [], _, x, h, _ => by simp at h
 | _, _ :: _, [], x, _, h => by simp at h
 | 0, y :: r, c :: ms, x, h, _ => by
  simp at h; subst h;simp only [ofK];split <;> rfl
 | k + 1, y :: r, c :: ms, x, h, h2 => by
  have ih := znR mine k r ms x (by simpa using h) (by simpa using h2);rw [ofK, ih, ofK];by_cases hx : x.mine = mine
  ·rw [if_pos hx, if_pos hx]
  ·rw [if_neg hx, if_neg hx, List.set_cons_succ]
theorem zqK (mine : Bool) : ∀ (l : List Nd) (ms : List Int), ms.length = l.length -> ofK mine l.length l ms = ofP l ms mine
 | [], [], _ => rfl
 | [], _ :: _, h => by simp at h
 | _ :: _, [], h => by simp at h
 | x :: r, c :: ms, h => by
  have ih := zqK mine r ms (by simpa using h);rw [List.length_cons, ofK, ih];rfl
theorem zva {l : List Nd} {ms : List Int} (h : ms.length = l.length) (mine : Bool) : (ofP l ms mine).length = l.length := by simp [ofP, h]
theorem zk3 (l : List Nd) : (zfy l).length = l.length := by simp [zfy, zii]
theorem zjO (l : List Nd) : (zgj l).length = l.length := by simp [zgj, zii]
end Go.Proofs.YtmlpcgkaonifcaaGreatDoor
namespace Go.Proofs.YtmlpcgkaonifcaaGreatDoor
open Go Go.VL
def zlN (v : Int) (vs : List Int) (m : Mv) : Bool := decide (v < m.gain + vs.getD m.to_.toNat 0)
def zlU (x : Nd) (v c : Int) (vs : List Int) : Bool :=
 if v < -4503599627370496 \/ 4503599627370496 < v then false
 else if x.moves.length = 0 then decide (0 <= v) && decide (c = -1)
 else if x.mine = false then decide (0 <= c) && decide (c < x.moves.length) && !zlN v vs (x.moves.getD c.toNat ⟨0, 0⟩)
 else decide (c = -1) && !x.moves.any (zlN v vs)
def zkF (l : List Nd) (vs cs : List Int) (i : Nat) : Bool := zlU (l.getD i ⟨false, []⟩) (vs.getD i 0) (cs.getD i 0) vs
def zg4 (l : List Nd) (vs cs : List Int) : Int := if (List.range l.length).all (zkF l vs cs) = true then 0 else 21
def zjy (vs : List Int) : Prop := ∀ v ∈ vs, -4503599627370496 <= v /\ v <= 4503599627370496
end Go.Proofs.YtmlpcgkaonifcaaGreatDoor
namespace Go.Proofs.YtmlpcgkaonifcaaGreatDoor
open Go Go.VL
theorem zsX (lets : List Let) : TabOK lets.length (zsw lets) := ⟨by simp [zsw], fun i v e d h => by
 simp only [zsw, List.getElem?_replicate] at h;split at h
 ·cases h; exact ⟨by decide, by decide⟩
 ·cases h⟩
theorem zrS (b : By) (c : List UInt8) (vars : List Var) : -1099511627776 <= (zew b c vars).1 /\ (zew b c vars).1 <= 1099511627776 := by
 unfold zew;split
 ·split
  ·unfold zjw;split
   ·rename_i h;obtain ⟨_, h2, h3⟩ := zjF h.1;exact zng (zmF h3 (zvy _ [] (fun s v h => by cases h) (fun v hv => List.all_eq_true.1 h.2 v hv)) _ 12 _ h2 (zsw _) (zsX _)).2.1
   ·simp
  ·simp
 ·simp
theorem zk4 (b : By) (c : List UInt8) (vars : List Var) : 0 <= (zmG b c vars).1 /\ (zmG b c vars).1 <= 1099511627776 := by
 have := zrS b c vars;unfold zmG;simp only;omega
def zgf (b : By) (n : Int) (k : Nat) : U := .agg (zaE b ++ [.int .i64 n, .int .i64 k])
def zut (v : Var) : U := .agg [.str v.name, .int .i64 v.unit, .int .i64 v.n]
end Go.Proofs.YtmlpcgkaonifcaaGreatDoor
namespace Go.Proofs.YtmlpcgkaonifcaaGreatDoor
open Go Go.VL
theorem zen {x y B C : Int} (hx : 0 <= x /\ x <= C) (hB : 0 <= B) (hy : -B <= y /\ y <= B) : -(C * B) <= x * y /\ x * y <= C * B := by
 have h1 := Int.mul_le_mul_of_nonneg_left hy.2 hx.1;have h2 := Int.mul_le_mul_of_nonneg_left hy.1 hx.1;have h3 := Int.mul_le_mul_of_nonneg_right hx.2 hB;rw [Int.mul_neg] at h2;omega
theorem zu3 {x : Int} (h : 0 <= x) : 0 <= x.tdiv 1000 /\ x.tdiv 1000 <= x := by
 rw [Int.tdiv_eq_ediv_of_nonneg h];omega
def gaI (j : Nat) (v : Int) (out : List Int) : List Int := List.replicate j 0 ++ v :: out
theorem ztz (j : Nat) (out : List Int) : List.replicate (j + 1) 0 ++ out = gaI j 0 out := by
 rw [gaI, List.replicate_succ', List.append_assoc];rfl
theorem zvu (j : Nat) (v : Int) (out : List Int) : (gaI j v out).length = j + 1 + out.length := by simp [gaI]; omega
theorem zvv (j : Nat) (v : Int) (out : List Int) (h : j < (gaI j v out).length) : (gaI j v out)[j] = v := by simp [gaI]
theorem zvt (j : Nat) (v w : Int) (out : List Int) : (gaI j v out).set j w = gaI j w out := by
 rw [gaI, List.set_append];simp [gaI]
def gaA (j : Nat) (out : List Int) : List Int := List.replicate j 0 ++ out
theorem ztA (out : List Int) : gaA 0 out = out := rfl
theorem zrD (k : Nat) : gaA k [] = List.replicate k 0 := by simp [gaA]
theorem ztB (j : Nat) (out : List Int) : gaA (j + 1) out = gaI j 0 out := ztz j out
theorem zvw (j : Nat) (v : Int) (out : List Int) : gaI j v out = gaA j (v :: out) := rfl
theorem znc (b : By) (n k p due : Int) (j : Nat) (out : List Int) : zgU b n k p due (j + 1) out = if (zhX b n k p due j).2 = 0 then zgU b n k p due j ((zhX b n k p due j).1 :: out) else ([], (zhX b n k p due j).2) := rfl
end Go.Proofs.YtmlpcgkaonifcaaGreatDoor
namespace Go.Proofs.YtmlpcgkaonifcaaGreatDoor
open Go Go.VL
def zgv (l : List Mv) : List (List D) := l.map fun m => [.u (.int .i64 m.to_), .u (.int .i64 m.gain)]
def zdN (l : List Nd) : List (List D) := l.map fun x => [.u (.bool x.mine), .u (zd8 x.moves)]
theorem zgP (l : List Mv) : (zgv l).length = l.length := by simp [zgv]
theorem zeV (l : List Nd) : (zdN l).length = l.length := by simp [zdN]
theorem zoY (l : List Mv) (t g : Int) : zgv l ++ [[.u (.int .i64 t), .u (.int .i64 g)]] = zgv (l ++ [⟨t, g⟩]) := by simp [zgv]
theorem zeU (l : List Nd) (b : Bool) (ms : List Mv) : zdN l ++ [[.u (.bool b), .u (.sl (ms.map fun m => [.int .i64 m.to_, .int .i64 m.gain]))]] = zdN (l ++ [⟨b, ms⟩]) := by simp [zdN, zd8]
theorem zqZ (l : List Mv) : zct (zgv l) = some (l.map fun m => [.int .i64 m.to_, .int .i64 m.gain]) := by
 unfold zgv;exact zi6 (l.map fun m => [U.int .i64 m.to_, U.int .i64 m.gain]) ▸ by simp [rowsD, Function.comp_def]
theorem zlE (l : List Nd) : zct (zdN l) = some (l.map fun x => [.bool x.mine, zd8 x.moves]) := by
 unfold zdN;exact zi6 (l.map fun x => [U.bool x.mine, zd8 x.moves]) ▸ by simp [rowsD, Function.comp_def]
theorem zd7 (S : D -> Option U) (l : List Nd) : (zdN l).map (fun r => r.map (frzS S)) = zdN l := by simp [zdN, frzS]
theorem zbM (l : List Mv) : za2 (zgv l) = True := by
 have : zgv l = rowsD (l.map fun m => [U.int .i64 m.to_, .int .i64 m.gain]) := by simp [rowsD, zgv, Function.comp_def]
 rw [this]; simp
theorem zbo (l : List Nd) : za2 (zdN l) = True := by
 have : zdN l = rowsD (l.map fun x => [U.bool x.mine, zd8 x.moves]) := by simp [rowsD, zdN, Function.comp_def]
 rw [this]; simp
theorem zbx (n : Nat) (l : List Mv) : (∀ x ∈ zgv l, ∀ y ∈ x, D.under n y = true) ↔ True := by
 refine ⟨fun _ => trivial, fun _ x hx y hy => ?_⟩;obtain ⟨b, _, rfl⟩ := List.mem_map.1 hx;simp at hy;rcases hy with rfl | rfl <;> simp [D.under]
theorem zbb (n : Nat) (l : List Nd) : (∀ x ∈ zdN l, ∀ y ∈ x, D.under n y = true) ↔ True := by
 refine ⟨fun _ => trivial, fun _ x hx y hy => ?_⟩;obtain ⟨b, _, rfl⟩ := List.mem_map.1 hx;simp at hy;rcases hy with rfl | rfl <;> simp [D.under]
theorem zoZ (l : List Mv) : zkW 2 (zgv l) := fun r hr => by obtain ⟨t, _, rfl⟩ := List.mem_map.1 hr; rfl
theorem zhq (l : List Nd) : zkW 2 (zdN l) := fun r hr => by obtain ⟨t, _, rfl⟩ := List.mem_map.1 hr; rfl
def zhM (k : Nat) (base : Int) (g : List Int) : Nat -> List Mv
 | 0 => []
 | q + 1 => ziz k base g q
def zlI (k : Nat) (base : Int) (g : List Int) : Nat -> List Nd
 | 0 => []
 | j + 1 => zix k base g j
theorem zm4 (k : Nat) (base : Int) (g : List Int) (q : Nat) : zhM k base g (q + 1) = ⟨base + k - q, g.getD q 0⟩ :: zhM k base g q := by
 cases q with
 | zero => simp [zhM, ziz]
 | succ q => rfl
theorem zm3 (k : Nat) (base : Int) (g : List Int) (j : Nat) : zlI k base g (j + 1) = ⟨true, zhM k base g (j + 1)⟩ :: zlI k base g j := by
 cases j with
 | zero => rfl
 | succ j => rfl
def zjI (b : By) (n : Int) (k : Nat) (lp : Bool) (base e : Int) : Nat -> List Nd
 | 0 => []
 | j + 1 => zhS b n k lp base e j
theorem zmO (b : By) (n : Int) (k : Nat) (lp : Bool) (base e : Int) (j : Nat) : zjI b n k lp base e (j + 1) = ⟨false, ⟨if lp = true then e else base + k - j, 0⟩ :: if znh b n k j = true then [⟨e, 0⟩] else []⟩ :: zjI b n k lp base e j := by
 cases j with
 | zero => simp [zjI, zhS]
 | succ j => rfl
end Go.Proofs.YtmlpcgkaonifcaaGreatDoor
namespace Go.Proofs.YtmlpcgkaonifcaaGreatDoor
open Go Go.VL
theorem zoU (l : List Nd) : (zdN l).map (fun r => r.map zbN) = zdN l := by simp [zdN, zd8, zbN, zb5]
theorem zqO (l r : List Nd) : zdN l ++ rowsD (r.map fun x => [U.bool x.mine, .sl (x.moves.map fun m => [.int .i64 m.to_, .int .i64 m.gain])]) = zdN (l ++ r) := by simp [zdN, rowsD, zd8]
theorem zpn (b : By) (n : Int) (k : Nat) (e : Int) (p : Nat) (out : List Nd) (r : Nat) : ziO b n k e p out (r + 1) = if (zes b n k p).2 = 0 then ziO b n k e (p + 1) (out ++ zgO b n k p out.length e (zes b n k p).1) r else ([], (zes b n k p).2) := by rw [ziO]
end Go.Proofs.YtmlpcgkaonifcaaGreatDoor
namespace Go.Proofs.YtmlpcgkaonifcaaGreatDoor
open Go Go.VL
open Df (Con)
def zpR (b : By) : List Con := if zdh b = true then [⟨2, 0, b.period - 1⟩, ⟨0, 2, 1 - b.period⟩, ⟨1, 2, 1 - b.wait⟩, ⟨2, 1, b.wait - 1⟩, ⟨0, 1, 0⟩, ⟨3, 2, b.grace⟩, ⟨2, 3, -b.grace⟩, ⟨4, 2, b.period⟩, ⟨2, 4, -b.period⟩, ⟨3, 4, 0⟩] else []
theorem zsb (b : By) : (zpR b).length <= 10 := by unfold zpR; split <;> simp
theorem zwP {b : By} (h : zdh b = true) : Df.rightL (zpR b) 5 = true := by
 obtain ⟨_, h1, _, _, h2, h3⟩ := zdF h;unfold zpR;rw [if_pos h];simp only [Df.rightL, Bool.and_eq_true, decide_eq_true_eq, List.all_eq_true];refine ⟨⟨⟨by omega, by omega⟩, by simp⟩, fun c hc => ?_⟩;simp only [List.mem_cons, List.mem_nil_iff, or_false] at hc;simp only [Df.okB, Df.maxN, Bool.and_eq_true, decide_eq_true_eq];rcases hc with rfl | rfl | rfl | rfl | rfl | rfl | rfl | rfl | rfl | rfl <;> simp only <;> omega
def zwF (b : By) : List Int := [0, b.period - 1 - b.wait + 1, b.period - 1, b.period - 1 + b.grace, b.period - 1 + b.period]
theorem zua {b : By} (h : zdh b = true) : (∃ y, Df.Sol (zpR b) y) ↔ zmM b = true := by
 unfold zpR zmM;rw [if_pos h, Bool.and_eq_true, decide_eq_true_eq, decide_eq_true_eq];constructor
 ·rintro ⟨y, hy⟩;have q := fun c hc => hy c hc;have q0 := q ⟨2, 0, b.period - 1⟩ (by simp);have q1 := q ⟨0, 2, 1 - b.period⟩ (by simp);have q2 := q ⟨1, 2, 1 - b.wait⟩ (by simp);have q3 := q ⟨2, 1, b.wait - 1⟩ (by simp);have q4 := q ⟨0, 1, 0⟩ (by simp);have q5 := q ⟨3, 2, b.grace⟩ (by simp);have q6 := q ⟨2, 3, -b.grace⟩ (by simp);have q7 := q ⟨4, 2, b.period⟩ (by simp);have q8 := q ⟨2, 4, -b.period⟩ (by simp);have q9 := q ⟨3, 4, 0⟩ (by simp);simp only [Con.a, Con.b, show ((0 : Int)).toNat = 0 from rfl, show ((1 : Int)).toNat = 1 from rfl, show ((2 : Int)).toNat = 2 from rfl, show ((3 : Int)).toNat = 3 from rfl, show ((4 : Int)).toNat = 4 from rfl] at *;omega
 ·rintro ⟨h1, h2⟩;refine ⟨fun n => (zwF b).getD n 0, fun c hc => ?_⟩;simp only [List.mem_cons, List.mem_nil_iff, or_false] at hc;rcases hc with rfl | rfl | rfl | rfl | rfl | rfl | rfl | rfl | rfl | rfl <;> simp [zwF, Con.a, Con.b] <;> omega
theorem zsa {b : By} (h : zdh b = true) {V C : List Int} {E : Int} (hs : Df.SolveSpec (zpR b) 5 V C E) : E = if zmM b = true then 0 else 23 := by
 obtain ⟨h1, h2⟩ := hs.ok (zwP h);rw [zua h] at h1;by_cases hr : zmM b = true
 ·rw [if_pos hr]; exact h1.2 hr
 ·rw [if_neg hr];rcases h2 with h2 | h2
  ·exact absurd (h1.1 h2) hr
  ·exact h2
end Go.Proofs.YtmlpcgkaonifcaaGreatDoor
namespace Go.Proofs.YtmlpcgkaonifcaaGreatDoor
open Go Go.VL
open Df (SolveSpec)
theorem zjH {b : By} {m : Int} {c : List Int} (h : (zdO b m c).2 = 0) : zdJ b m c = true := by
 cases hR : zdJ b m c with
 | true => rfl
 | false => unfold zdO at h; rw [hR] at h; simp at h
theorem zpm {b : By} {m : Int} {c : List Int} (h : (zdO b m c).2 = 0) : zft (zdO b m c).1 = true := by
 have hR := zjH h;obtain ⟨hk, hr, hn1, hn2⟩ := zd5 hR;unfold zdO at h ⊢;rw [if_pos hR] at h ⊢;obtain ⟨l, e⟩ : ∃ l, znb b m c.length = (l, 0) := ⟨_, Prod.ext rfl h⟩;rw [e];exact (zn5 hr hn1 hk e).right
end Go.Proofs.YtmlpcgkaonifcaaGreatDoor
namespace Go.Proofs.YtmlpcgkaonifcaaGreatDoor
open Go Go.VL
theorem zmR {l : List Tok} (hl : TokOK l) {f p : Nat} (hE : zhZ l f) (hf : 4 * (l.length - p) <= f) {t : Tok} (ht : l[p]? = some t) (hk : ¬ t.kind = 2) (h1 : isB l p [116, 114, 117, 101] = false) (h2 : isB l p [102, 97, 108, 115, 101] = false)
  (h3 : isB l p [109, 105, 110] = true) (h4 : isB l p [109, 97, 120] = false) {i nx : Nat} (hi : i < nx) :
  RetX Tryz.prog 145 [.ptr i 0] [(i, pOb l p)] nx (PPost l i nx ziU (zbE l (f + 1) p)) := zjK hl hE hf ht hk h1 h2 (.inr ⟨h3, h4⟩) hi
end Go.Proofs.YtmlpcgkaonifcaaGreatDoor
namespace Go.Proofs.YtmlpcgkaonifcaaGreatDoor
open Go Go.VL
end Go.Proofs.YtmlpcgkaonifcaaGreatDoor
namespace Go.Proofs.YtmlpcgkaonifcaaGreatDoor
open Go Go.VL
attribute [local simp] HS zbw zc2 zcq evPure opd uOf zay St.put St.at getK binD binI binS binB nilD aggD zfJ zge lookD lookR zcn rangeS Go.VL.nextD Go.VL.nextS zcr zgk zgh zfs zcv mkV zbi zaT zaS zaR zc0 zaP zba zbs mapEff zdE zfp Key.kk shiftI arith unD convD zdu loadD cellsAt fieldAddrD fieldD indexAddrD indexSlD arrAddr indexD sliceD cutD lenD minmaxD nilCheckD buildD fillD zb0 zc7 zeD setAll zcW zef zck zfv zcj St.add zaw zbB rowsOf zdg zcw zad zac zaa zbz zda za3 entry zbO zbT valD zcm zcB zfw zdb zdc zb4 zbP zam zaW zbj delAll effD St.effS zcF zaU zaH zcG zaV zaJ zbY zaI zaA zbZ zcD zbv zbX za9 zbV zbW zar mkD zcl zbG zbK zam zcu D.ids Op.operands Call.operands zbH makeIfD makeFuncD typeAssertD zgd zdm zdn zf8 zco IntKind.bits zct zaz List.take_of_length_le List.range_succ zcO zcf zcP zcK zbD zb6 zb8 zcL zca zbe zb9 zb7 zhc zce zcM zaZ zaL zcN za0 zaN zcd zaM zaF zcS zcT zha zab frzN frz1 zav zau St.frz St.frzS frzS fv za1 zbm zbn frzObS zat zan frz zbL zbq zbr zbN zb5 zcc za7 St.norm St.lp St.only zax wkE wkO wkU Ob.under D.under zaj zak zcQ zcg zcR h4s zea zaC zbC List.zipIdx_cons List.zipIdx_nil zzC zzD Nat.zero_add
attribute [local irreducible] V G H HD HD2 HD4 zhd RetX zbf Eff CallP CallV EndOK Fun Ret FinOK LoopI LoopW EndW HR vs2 RN Cnd H4
theorem zp1 (lets : List Let) (vars : List Var) (e : Exp) : Fun Tryz.prog 47 [.u (zaQ lets), .u (zdS vars), zdo e] (· = .tup [.u (.int .i64 (zjw lets vars e).1), .u (.int .i64 (zjw lets vars e).2)]) := by
 have h1 := zd6 e;generalize hK : zjw lets vars e = K;unfold zjw zdK at hK;by_cases hre : zbg 12 e = true
 case neg =>
  have hre2 : zbg 12 e = false := by simpa using hre
  rw [if_neg (by simp [hre2])] at hK;subst hK;rw [hre2] at h1;simp only [zaQ, zdS, zdo] at h1 ⊢;refine Fun.runW Tryz.func47 Tryz.ntmps47 rfl (by simp) fun Γ hn => ?_
  repeat' (first
  | (refine zaf rfl ?_; simp)
  | (refine CallP.f2 rfl (h1) (by first | simp <;> rfl | fail) ?_; simp)
  | fail)
  refine EndW.here ?_
  (refine EndOK.val (.inr rfl) ?_; simp [Tryz.results47])
 by_cases hll : lets.length <= 20
 case neg =>
  have hll2 : 20 < (lets.length : Int) := by omega
  rw [if_neg (by simp [hll])] at hK;subst hK;rw [hre] at h1;simp only [zaQ, zdS, zdo] at h1 ⊢;refine Fun.runW Tryz.func47 Tryz.ntmps47 rfl (by simp) fun Γ hn => ?_; simp only [zzE, zzC, zzD];refine zhK (x := 0) rfl fun hl0 => ?_;simp only [List.length_map] at hl0
  repeat' (first
  | (refine zaf rfl ?_; simp [hll2])
  | (refine CallP.f2 rfl (h1) (by first | simp [hll2] <;> rfl | fail) ?_; simp [hll2])
  | fail)
  refine EndW.here ?_
  (refine EndOK.val (.inr rfl) ?_; simp [Tryz.results47])
 have hll2 : ¬ 20 < (lets.length : Int) := by omega
 rw [hre] at h1;simp only [zaQ, zdS, zdo] at h1 ⊢;refine Fun.runW Tryz.func47 Tryz.ntmps47 rfl (by simp) fun Γ hn => ?_; simp only [zzE, zzC, zzD];refine zhK (x := 1) rfl fun hl1 => ?_;simp only [List.length_map] at hl1
 repeat' (first
  | (refine zaf rfl ?_; simp [hll2])
  | (refine CallP.f2 rfl (h1) (by first | simp [hll2] <;> rfl | fail) ?_; simp [hll2])
  | fail)
 refine zbS (α := { i : Nat // i <= lets.length /\ ∀ l ∈ lets.take i, zbg 12 l.body = true }) [0, 1, 5, 23, 24] (fun i => [(25, .u (.int .i64 i.1))])
  (fun i => [(0, .box [.u (.int .i64 e.op), .u (.int .i64 e.n), .u (.int .i64 e.unit), .u (.str e.s), .u (.sl (e.args.map Exp.row))])]) 1
  (fun i => lets.length - i.1) ⟨0, by omega, by simp⟩ ?_ ?_
 ·exact (Wk.zdw (by simp [hn, Ob.under] <;> grind))
 rintro ⟨i, hi, hb⟩;simp;rcases hx : lets[i]? with _ | l
 ·have hge : lets.length <= i := by simpa using hx
  obtain rfl : i = lets.length := by omega
  rw [List.take_length] at hb
  repeat' (first
  | (refine zaf rfl ?_; simp [hx])
  | (refine And.intro (by omega) ?_)
  | fail)
  have hrg : zdK lets e = true := by
   simp only [zdK, Bool.and_eq_true, decide_eq_true_eq, Bool.not_eq_true', List.any_eq_false];exact ⟨⟨hll, hre⟩, fun l hl => by simp [hb l hl]⟩
  refine zbS (α := { i : Nat // i <= vars.length /\ ∀ v ∈ vars.take i, zuF v = true }) [0, 5, 10, 41, 42] (fun i => [(43, .u (.int .i64 i.1))])
   (fun i => [(3, .box [.u (.sl (lets.map fun l => [.str l.name, .int .i64 l.body.op, .int .i64 l.body.n, .int .i64 l.body.unit, .str l.body.s, .sl (l.body.args.map Exp.row)])), .vec 1 lets.length, .mp 2]), (2, .map .s false (zj3 (zrx (gV (vars.take i.1))))),
     (1, .vec 209 3 (List.replicate lets.length [.u (.int .i64 0), .u (.int .i64 0), .u (.bool false)])), (0, .box [.u (.int .i64 e.op), .u (.int .i64 e.n), .u (.int .i64 e.unit), .u (.str e.s), .u (.sl (e.args.map Exp.row))])]) 4
   (fun i => vars.length - i.1) ⟨0, by omega, by simp⟩ ?_ ?_
  ·exact (Wk.zdw (by simp [hn, gV, zrx, zbi, Ob.under] <;> grind))
  rintro ⟨j, hj, hvb⟩;simp;rcases hy : vars[j]? with _ | v
  ·have hge : vars.length <= j := by simpa using hy
   obtain rfl : j = vars.length := by omega
   rw [List.take_length] at hvb;have hva : vars.all zuF = true := by simpa [List.all_eq_true] using hvb
   have hgs : ∀ s v, gF (gV vars) s = some v -> inC v := zvy vars [] (fun s v h => by simp [asc] at h) hvb;rw [if_pos ⟨hrg, hva⟩] at hK;have htry := fun nx' (h : 4 <= nx') => zqf (ztK (r := 1) (m := 3) hgs hb hll (by decide) lets.length (Nat.le_refl _) 12 e hre) (by decide) (zsw lets) nx' (by omega) (by omega) ⟨by simp [zsw], fun i v er d hi => by
    have h7 : (v, er, d) = (0, 0, false) := List.eq_of_mem_replicate (List.mem_of_getElem? hi);cases h7;unfold inC; omega⟩
   have htb : tOb (zsw lets) = .vec 209 3 (List.replicate lets.length [.u (.int .i64 0), .u (.int .i64 0), .u (.bool false)]) := by simp [tOb, zsw]
   rw [htb] at htry;simp only [zdo, mOb, zaQ] at htry;subst hK
   repeat' (first
  | (refine zaf rfl ?_; simp [hy, List.take_length])
  | fail)
   refine zhb (Wk.zyX (us := zrx (gV vars)) 2 [3, 2, 1, 0] rfl (by simp)) ?_;simp [zav, zau, St.frzS, frzS, fv, za1, zbm, zbn, frzObS, zat, zan, del]
   repeat' (first
  | (refine CallP.okL (htry _ (by first | omega | (simp <;> omega) | fail)) (by first | (simp [hy, zaa, getK, zab, zac, zad, zar, del]; done) | fail) (by rfl) (by first | assumption | (simp; done) | fail) (by rfl) (by simp) ?_; (try simp [hy, zcZ, del]))
  | fail)
   refine EndW.here ?_
   (refine EndOK.val (.inr rfl) ?_; simp [Tryz.results47])
  ·have hlt : j < vars.length := (List.getElem?_eq_some_iff.1 hy).1;have hg := znZ (gV (vars.take j)) v.name;have hsu := zvx hy;by_cases hv : zuF v = true
   ·have hv1 := hv;simp only [zuF, Bool.and_eq_true, decide_eq_true_eq] at hv1;have hv2 : ¬ 1099511627776 < v.n := by omega
    have hv3 : ¬ v.n < -1099511627776 := by omega
    cases hga : asc (gV (vars.take j)) v.name with
    | some u =>
     rw [hga] at hg hsu;simp only [Option.map_some] at hg
     repeat' (first
  | (refine Cnd.of (fun hc => ?_) (fun hc => ?_) <;> (try (exfalso; omega)) <;> (try simp [hy, hg, hv2, hv3]))
  | (refine zaf rfl ?_; simp [hy, hg, hv2, hv3])
  | (refine And.intro (by omega) ?_)
  | (refine ⟨hC _ (by kernel_rfl), hk _ (zdH 8 _ _ _ ?_)⟩; clear hC hk C k; simp [hy, hg, hv2, hv3])
  | (refine zdx rfl (by kernel_rfl) (by first | (simp [hn] <;> omega) | fail) fun C k hC hk => ?_; simp [hy, hg, hv2, hv3])
  | fail)
     refine LoopW.next ⟨j + 1, by omega, zbh hy hvb hv⟩ (by simp; omega) ?_
     exact (Wk.zdw (by simp [hn, hsu] <;> grind))
    | none =>
     rw [hga] at hg hsu;simp only [Option.map_none] at hg
     repeat' (first
  | (refine Cnd.of (fun hc => ?_) (fun hc => ?_) <;> (try (exfalso; omega)) <;> (try simp [hy, hg, zk5, hv2, hv3]))
  | (refine zaf rfl ?_; simp [hy, hg, zk5, hv2, hv3])
  | (refine And.intro (by omega) ?_)
  | (refine ⟨hC _ (by kernel_rfl), hk _ (zdH 8 _ _ _ ?_)⟩; clear hC hk C k; simp [hy, hg, zk5, hv2, hv3])
  | (refine zdx rfl (by kernel_rfl) (by first | (simp [hn] <;> omega) | fail) fun C k hC hk => ?_; simp [hy, hg, zk5, hv2, hv3])
  | fail)
     refine LoopW.next ⟨j + 1, by omega, zbh hy hvb hv⟩ (by simp; omega) ?_
     exact (Wk.zdw (by simp [hn, hsu] <;> grind))
   ·have hv1 : 1099511627776 < v.n \/ v.n < -1099511627776 := by
     simp only [zuF, Bool.and_eq_true, decide_eq_true_eq] at hv;omega
    rw [if_neg (by
     rintro ⟨_, h⟩;rw [List.all_eq_true] at h;exact hv (h v (List.mem_of_getElem? hy)))] at hK
    subst hK;by_cases hv2 : 1099511627776 < v.n
    ·repeat' (first
  | (refine Cnd.of (fun hc => ?_) (fun hc => ?_) <;> (try (exfalso; omega)) <;> (try simp [hy, hv2]))
  | (refine zaf rfl ?_; simp [hy, hv2])
  | fail)
     refine EndW.here ?_
     (refine EndOK.val (.inr rfl) ?_; simp [Tryz.results47])
    ·have hv3 : v.n < -1099511627776 := by omega
     repeat' (first
  | (refine Cnd.of (fun hc => ?_) (fun hc => ?_) <;> (try (exfalso; omega)) <;> (try simp [hy, hv2, hv3]))
  | (refine zaf rfl ?_; simp [hy, hv2, hv3])
  | fail)
     refine EndW.here ?_
     (refine EndOK.val (.inr rfl) ?_; simp [Tryz.results47])
 ·have hlt : i < lets.length := (List.getElem?_eq_some_iff.1 hx).1;have h2 := zd6 l.body;simp only [zdo] at h2;by_cases hlb : zbg 12 l.body = true
  ·rw [hlb] at h2
   repeat' (first
  | (refine Cnd.of (fun hc => ?_) (fun hc => ?_) <;> (try (exfalso; omega)) <;> (try simp [hx]))
  | (refine zaf rfl ?_; simp [hx])
  | (refine And.intro (by omega) ?_)
  | (refine CallP.f2 rfl (h2) (by first | simp [hx] <;> rfl | fail) ?_; simp [hx])
  | fail)
   refine LoopW.next ⟨i + 1, by omega, zbh hx hb hlb⟩ (by simp; omega) ?_
   exact (Wk.zdw (by simp [hn, Ob.under] <;> grind))
  ·have hlb2 : zbg 12 l.body = false := by simpa using hlb
   rw [hlb2] at h2;rw [if_neg (by
    rintro ⟨h, _⟩;simp only [Bool.and_eq_true, Bool.not_eq_true', List.any_eq_false] at h;have := h.2 l (List.mem_of_getElem? hx);simp [hlb2] at this)] at hK
   subst hK
   repeat' (first
  | (refine Cnd.of (fun hc => ?_) (fun hc => ?_) <;> (try (exfalso; omega)) <;> (try simp [hx]))
  | (refine zaf rfl ?_; simp [hx])
  | (refine CallP.f2 rfl (h2) (by first | simp [hx] <;> rfl | fail) ?_; simp [hx])
  | fail)
   refine EndW.here ?_
   (refine EndOK.val (.inr rfl) ?_; simp [Tryz.results47])
theorem zj5 (b : By) (c : List UInt8) (vars : List Var) : Fun Tryz.prog 24 [.u (.agg (zaE b)), .u (.str c), .u (zdS vars)] (· = .tup [.u (.int .i64 (zew b c vars).1), .u (.int .i64 (zew b c vars).2)]) := by
 have h1 := zgp b;generalize hW : zew b c vars = W;unfold zew at hW;cases hE : zkN b c with
 | none =>
  rw [hE] at hW;unfold zkN at hE;by_cases c1 : c = zqp
  ·rw [if_pos c1] at hE; cases hE
  by_cases c2 : c = zoG
  ·rw [if_neg c1, if_pos c2] at hE; cases hE
  by_cases c3 : c = zlk
  ·rw [if_neg c1, if_neg c2, if_pos c3] at hE; cases hE
  by_cases c4 : c = zjD
  ·rw [if_neg c1, if_neg c2, if_neg c3, if_pos c4] at hE; cases hE
  by_cases c5 : c = zga
  ·rw [if_neg c1, if_neg c2, if_neg c3, if_neg c4, if_pos c5] at hE; cases hE
  clear hE;have d1 := Ne.symm c1;have d2 := Ne.symm c2;have d3 := Ne.symm c3;have d4 := Ne.symm c4;have d5 := Ne.symm c5;subst hW;unfold zqp zoG zlk zjD zga at *;unfold zaE zdS;refine Fun.runW Tryz.func24 Tryz.ntmps24 rfl (by simp) fun Γ hn => ?_
  repeat' (first
  | (refine zaf rfl ?_; simp [c1, c2, c3, c4, c5, d1, d2, d3, d4, d5])
  | fail)
  refine EndW.here ?_
  (refine EndOK.val (.inr rfl) ?_; simp [Tryz.results24])
 | some e =>
  rw [hE] at hW;simp only at hW;have hc : (c = zqp /\ e = b.due) \/ (c = zoG /\ e = b.fine) \/ (c = zlk /\ e = b.pay) \/ (c = zjD /\ e = b.cover) \/ (c = zga /\ e = b.hold) := by
   unfold zkN at hE
   repeat' split at hE
   all_goals first | (cases hE; done) | (cases hE; simp_all; done)
  clear hE;have h2 := zp1 b.lets vars e;cases hr : zdh b
  ·rw [hr] at h1;rw [hr, if_neg (by simp)] at hW;subst hW;clear h2;unfold zqp zoG zlk zjD zga at *;unfold zaE zdS;unfold zaE at h1;rcases hc with ⟨rfl, rfl⟩ | ⟨rfl, rfl⟩ | ⟨rfl, rfl⟩ | ⟨rfl, rfl⟩ | ⟨rfl, rfl⟩
   all_goals
    refine Fun.runW Tryz.func24 Tryz.ntmps24 rfl (by simp) fun Γ hn => ?_
    repeat' (first
  | (refine zaf rfl ?_; simp)
  | (refine CallP.f2 rfl (h1) (by first | simp <;> rfl | fail) ?_; simp)
  | fail)
    refine EndW.here ?_
    (refine EndOK.val (.inr rfl) ?_; simp [Tryz.results24])
  ·rw [hr] at h1;rw [hr, if_pos rfl] at hW;rw [hW] at h2;clear hW;unfold zqp zoG zlk zjD zga at *;unfold zaE zdS;unfold zaE at h1;unfold zaQ zdS zdo at h2;rcases hc with ⟨rfl, rfl⟩ | ⟨rfl, rfl⟩ | ⟨rfl, rfl⟩ | ⟨rfl, rfl⟩ | ⟨rfl, rfl⟩
   all_goals
    refine Fun.runW Tryz.func24 Tryz.ntmps24 rfl (by simp) fun Γ hn => ?_
    repeat' (first
  | (refine zaf rfl ?_; simp)
  | ((first | refine CallP.f2 rfl (h1) (by first | simp <;> rfl | fail) ?_ | refine CallP.f2 rfl (h2) (by first | simp <;> rfl | fail) ?_ | fail); simp)
  | fail)
    refine EndW.here ?_
    (refine EndOK.val (.inr rfl) ?_; simp [Tryz.results24])
theorem zpd (l : List (Mv)) (f : FuncId) (caps : List U) (p : Mv -> Bool) (hf : ∀ n ∈ l, Fun Tryz.prog f (zvf n :: caps.map .u) (· = .u (.bool (p n)))) (hcl : zae Tryz.prog f = true)
  (hca : ∀ o, zcB o (caps.map .u) = some (caps.map .u, [])) : Fun Tryz.prog 96 [.u (zd8 l), .fnc (.func f) (caps.map .u)] (· = .u (.int .i64 (zgc p l 0))) := by
 refine Fun.run Tryz.func96 Tryz.ntmps96 Tryz.results96 rfl (by simp) fun Γ hn => ?_; simp only [zzE, zzC, zzD];simp only [zd8];refine zhK (x := 0) rfl fun hl => ?_;simp at hl
 repeat' (first
  | (refine zaf rfl ?_; simp)
  | fail)
 refine zdd (α := { i : Nat // i <= l.length /\ ∀ c ∈ l.take i, p c = false }) [0, 1, 7] (fun i => [(8, .u (.int .i64 i.1))]) (fun i => l.length - i.1) ⟨0, by omega, by simp⟩ ?_ ?_
 ·exact (Wk.env rfl rfl rfl (by simp [wkE, St.lp, zax, zaa, getK] <;> (try (intros; simp_all; done)) <;> (try (intros; omega)) <;> (try grind)))
 rintro ⟨i, hi, hb⟩;simp;rcases hx : l[i]? with _ | n
 ·have hge : l.length <= i := by simpa using hx
  repeat' (first
  | (refine Cnd.of (fun hc => ?_) (fun hc => ?_) <;> (try (exfalso; omega)) <;> (try simp [hx]))
  | (refine zaf rfl ?_; simp [hx])
  | fail)
  (refine Pst.of ?_; simp)
  rw [List.take_of_length_le hge] at hb;exact (zeq hb).symm
 ·have hlt : i < l.length := (List.getElem?_eq_some_iff.1 hx).1;have h1 := hf n (List.mem_of_getElem? hx);simp only [zvf] at h1;cases hp : p n
  ·rw [hp] at h1
   repeat' (first
  | (refine Cnd.of (fun hc => ?_) (fun hc => ?_) <;> (try (exfalso; omega)) <;> (try simp [hx, hca]))
  | (refine zaf rfl ?_; simp [hx, hca])
  | (refine And.intro (by omega) ?_)
  | (refine CallP.f2 rfl (h1) (by first | simp [hx, hca] <;> rfl | fail) ?_; simp [hx, hca])
  | fail)
   refine LoopW.next ⟨i + 1, by omega, zbh hx hb hp⟩ (by simp; omega) ?_
   exact (Wk.env rfl rfl rfl (by simp [wkE, St.lp, zax, zaa, getK] <;> (try (intros; simp_all; done)) <;> (try (intros; omega)) <;> (try grind)))
  ·rw [hp] at h1
   repeat' (first
  | (refine Cnd.of (fun hc => ?_) (fun hc => ?_) <;> (try (exfalso; omega)) <;> (try simp [hx, hca]))
  | (refine zaf rfl ?_; simp [hx, hca])
  | (refine And.intro (by omega) ?_)
  | (refine CallP.f2 rfl (h1) (by first | simp [hx, hca] <;> rfl | fail) ?_; simp [hx, hca])
  | fail)
   (refine Pst.of ?_; simp)
   rw [zgx hb hx hp];omega
theorem zg2 (l : List (Mv)) (f : FuncId) (caps : List U) (p : Mv -> Bool) (hf : ∀ n ∈ l, Fun Tryz.prog f (zvf n :: caps.map .u) (· = .u (.bool (p n)))) (hcl : zae Tryz.prog f = true)
  (hca : ∀ o, zcB o (caps.map .u) = some (caps.map .u, [])) (hcb : ∀ o, zbP o (caps.map .u) = some (caps, [])) : Fun Tryz.prog 70 [.u (zd8 l), .fnc (.func f) (caps.map .u)] (· = .u (.bool (l.any p))) := by
 have h1 := zpd l f caps p hf hcl hca;refine Fun.run Tryz.func70 Tryz.ntmps70 Tryz.results70 rfl (by simp) fun Γ hn => ?_; simp only [zzE, zzC, zzD];simp only [zd8] at h1 ⊢
 repeat' (first
  | (refine zaf rfl ?_; simp [hcb])
  | (refine CallP.f2 rfl (h1) (by first | simp [hcb] <;> rfl | fail) ?_; simp [hcb])
  | fail)
 (refine Pst.of ?_; simp)
 have h2 := zfW p l 0 (by omega);rw [Bool.eq_iff_iff];simpa using h2
theorem zkY (i : Nat) (l : List Nd) (m : Mv) (hl : l.length <= 3000) : Fun Tryz.prog 69 (zvf m :: [U.row [.int .i64 i] 0, U.row [zcE l] 0].map .u) (· = .u (.bool (!zmz i l.length m))) := by
 unfold zmz;obtain ⟨t, g⟩ := m;simp only [zvf, zcE, zzC, zzD];refine Fun.run Tryz.func69 Tryz.ntmps69 Tryz.results69 rfl (by simp) fun Γ hn => ?_
 repeat' (first
  | (refine Cnd.of (fun hc => ?_) (fun hc => ?_) <;> (try (exfalso; omega)) <;> (try simp))
  | (refine zaf rfl ?_; simp)
  | fail)
 all_goals
  (refine Pst.of ?_; simp)
 all_goals grind
theorem zdL (l : List Nd) : zft l = true ↔ 0 < l.length /\ l.length <= 3000 /\ ∀ (j : Nat) (x : Nd), l[j]? = some x -> znT j l.length x = true := by
 unfold zft;rw [Bool.and_eq_true, Bool.and_eq_true, zmZ, decide_eq_true_eq, decide_eq_true_eq];simp [and_assoc]
theorem zjX (l : List Nd) : Fun Tryz.prog 44 [.u (zcE l)] (· = .u (.bool (zft l))) := by
 simp only [zcE];by_cases h0 : l.length = 0
 ·have hp : zft l = false := by unfold zft; simp [h0]
  have h0' : l = [] := by simpa using h0
  rw [hp];refine Fun.runW Tryz.func44 Tryz.ntmps44 rfl (by simp) fun Γ hn => ?_
  repeat' (first
  | (refine zaf rfl ?_; simp [h0, h0'])
  | fail)
  refine EndW.norm (EndW.here ?_)
  (refine EndOK.val (.inr rfl) ?_; simp [Tryz.results44])
 have h0' : ¬ l = [] := by simpa using h0
 by_cases h3 : 3000 < l.length
 ·have hp : zft l = false := by unfold zft; simp; intro _ h; omega
  have h3' : (3000 : Int) < l.length := by omega
  rw [hp];refine Fun.runW Tryz.func44 Tryz.ntmps44 rfl (by simp) fun Γ hn => ?_
  repeat' (first
  | (refine zaf rfl ?_; simp [h0, h0', h3, h3'])
  | fail)
  refine EndW.norm (EndW.here ?_)
  (refine EndOK.val (.inr rfl) ?_; simp [Tryz.results44])
 have h3' : ¬ (3000 : Int) < l.length := by omega
 have hw := fun i m => zkY i l m (by omega);simp only [zcE] at hw;refine Fun.runW Tryz.func44 Tryz.ntmps44 rfl (by simp) fun Γ hn => ?_
 repeat' (first
  | (refine zaf rfl ?_; simp [h0, h0', h3, h3'])
  | fail)
 refine zhP 0 ?_;simp [frzB, zav, zau, St.frzS, frzS, fv, za1, zbm, zbn, frzObS, zat, zan, del];refine zbS (α := { i : Nat // i <= l.length /\ ∀ (j : Nat) (x : Nd), j < i -> l[j]? = some x -> znT j l.length x = true }) [1, 14, 15] (fun i => [(16, .u (.int .i64 i.1))]) (fun i => []) 1 (fun i => l.length - i.1) ⟨0, by omega, by omega⟩ ?_ ?_
 ·exact (Wk.zdw (by simp [hn] <;> grind))
 rintro ⟨i, hi, hb⟩;simp;rcases hx : l[i]? with _ | x
 ·have hge : l.length <= i := by simpa using hx
  obtain rfl : i = l.length := by omega
  have hp : zft l = true := (zdL l).2 ⟨by omega, by omega, fun j x hj => hb j x (List.getElem?_eq_some_iff.1 hj).1 hj⟩;rw [hp]
  repeat' (first
  | (refine zaf rfl ?_; simp [hx])
  | fail)
  refine EndW.norm (EndW.here ?_)
  (refine EndOK.val (.inr rfl) ?_; simp [Tryz.results44])
 ·have hlt : i < l.length := (List.getElem?_eq_some_iff.1 hx).1;have hcq := zg2 x.moves 69 [U.row [.int .i64 i] 0, U.row [zcE l] 0] (fun m => !zmz i l.length m) (fun m _ => zkY i l m (by omega)) (by kernel_rfl) (fun _ => rfl) (fun _ => rfl);have hbad : znT i l.length x = false -> zft l = false := fun h => by
   rw [Bool.eq_false_iff];intro hg;rw [((zdL l).1 hg).2.2 i x hx] at h;cases h
  simp only [zcE, zd8, zzC, zzD] at hcq;have hany : (x.moves.any fun m => !zmz i l.length m) = !x.moves.all (zmz i l.length) := by
   generalize x.moves = ms
   induction ms with
   | nil => rfl
   | cons a r ih => simp [ih, Bool.not_and]
  rw [hany] at hcq;unfold znT at hbad;by_cases h8 : 8 < x.moves.length
  ·have h8' : (8 : Int) < x.moves.length := by omega
   rw [hbad (by simp; omega)]
   repeat' (first
  | (refine Cnd.of (fun hc => ?_) (fun hc => ?_) <;> (try (exfalso; omega)) <;> (try simp [hx, h8, h8']))
  | (refine zaf rfl ?_; simp [hx, h8, h8'])
  | fail)
   refine EndW.norm (EndW.here ?_)
   (refine EndOK.val (.inr rfl) ?_; simp [Tryz.results44])
  ·have h8' : ¬ (8 : Int) < x.moves.length := by omega
   cases ha : x.moves.all (zmz i l.length) with
   | false =>
    rw [ha] at hcq;rw [hbad (by simp [ha])]
    repeat' (first
  | (refine zhb (Wk.zum 1 _) ?_; simp [frzB, zav, zau, St.frzS, frzS, fv, za1, zbm, zbn, frzObS, zat, zan, del]; refine CallP.f2 rfl (hcq) (by first | simp [hx, h8, h8'] <;> rfl | fail) ?_; simp [hx, h8, h8'])
  | (refine Cnd.of (fun hc => ?_) (fun hc => ?_) <;> (try (exfalso; omega)) <;> (try simp [hx, h8, h8']))
  | (refine zaf rfl ?_; simp [hx, h8, h8'])
  | fail)
    refine EndW.norm (EndW.here ?_)
    (refine EndOK.val (.inr rfl) ?_; simp [Tryz.results44])
   | true =>
    rw [ha] at hcq
    repeat' (first
  | (refine zhb (Wk.zum 1 _) ?_; simp [frzB, zav, zau, St.frzS, frzS, fv, za1, zbm, zbn, frzObS, zat, zan, del]; refine CallP.f2 rfl (hcq) (by first | simp [hx, h8, h8'] <;> rfl | fail) ?_; simp [hx, h8, h8'])
  | (refine Cnd.of (fun hc => ?_) (fun hc => ?_) <;> (try (exfalso; omega)) <;> (try simp [hx, h8, h8']))
  | (refine zaf rfl ?_; simp [hx, h8, h8'])
  | (refine And.intro (by omega) ?_)
  | fail)
    refine LoopW.next ⟨i + 1, by omega, fun j y hj hy => ?_⟩ (by simp; omega) ?_
    ·rcases Nat.lt_succ_iff_lt_or_eq.1 hj with h1 | h1
     ·exact hb j y h1 hy
     ·subst h1;rw [hx] at hy;cases hy;unfold znT;rw [ha]; simp; omega
    exact (Wk.zdw (by simp [hn] <;> grind))
theorem ztk (v : Int) (vs : List Int) (m : Mv) (i : Nat) (hv : zjy vs) (hm : zmz i vs.length m = true) : Fun Tryz.prog 94 (zvf m :: [U.row [.int .i64 v] 0, U.row [ints vs] 0].map .u) (· = .u (.bool (zlN v vs m))) := by
 unfold zlN;obtain ⟨t, g⟩ := m;unfold zmz at hm;simp at hm;obtain ⟨⟨⟨h1, h2⟩, h3⟩, h4⟩ := hm;obtain ⟨T, rfl⟩ := Int.eq_ofNat_of_zero_le (show 0 <= t by omega);have hT : T < vs.length := by omega
 obtain ⟨F, hg⟩ : ∃ F, vs[T]? = some F := ⟨_, List.getElem?_eq_getElem hT⟩;have hge := (List.getElem?_eq_some_iff.1 hg).2;have hv' := hv F (List.mem_of_getElem? hg);simp only [zvf, ints, zzC, zzD];refine Fun.run Tryz.func94 Tryz.ntmps94 Tryz.results94 rfl (by simp) fun Γ hn => ?_
 repeat' (first
  | (refine zaf rfl ?_; simp [hg, hge, hT])
  | (refine And.intro (by omega) ?_)
  | (refine ⟨hC _ (by kernel_rfl), hk _ (zdH 8 _ _ _ ?_)⟩; clear hC hk C k; simp [hg, hge, hT])
  | (refine zdx rfl (by kernel_rfl) (by first | (simp [hn] <;> omega) | fail) fun C k hC hk => ?_; simp [hg, hge, hT])
  | fail)
 (refine Pst.of ?_; simp)
 all_goals try simp [List.getD_eq_getElem?_getD, hg]
theorem zrv (x : Nd) (v c : Int) (vs : List Int) (i : Nat) (hv : zjy vs) (hx : znT i vs.length x = true) : Fun Tryz.prog 66 [.u (.agg [.bool x.mine, zd8 x.moves]), .u (.int .i64 v), .u (.int .i64 c), .u (ints vs)] (· = .u (.bool (zlU x v c vs))) := by
 obtain ⟨h8, hmv⟩ : x.moves.length <= 8 /\ ∀ m ∈ x.moves, zmz i vs.length m = true := by unfold znT at hx; simpa using hx
 have hl := fun (m : Mv) (hm : m ∈ x.moves) => ztk v vs m i hv (hmv m hm);have hcq := zg2 x.moves 94 [U.row [.int .i64 v] 0, U.row [ints vs] 0] (zlN v vs) (fun m hm => hl m hm) (by kernel_rfl) (fun _ => rfl) (fun _ => rfl);obtain ⟨mine, ms⟩ := x;simp only [zd8, ints, zzC, zzD] at *;unfold zlU;dsimp only;by_cases h1 : v < -4503599627370496
 ·rw [if_pos (.inl h1)];refine Fun.runW Tryz.func66 Tryz.ntmps66 rfl (by simp) fun Γ hn => ?_
  repeat' (first
  | (refine zaf rfl ?_; simp [h1])
  | fail)
  refine EndW.norm (EndW.here ?_)
  (refine EndOK.val (.inr rfl) ?_; simp [Tryz.results66])
 by_cases h2 : 4503599627370496 < v
 ·rw [if_pos (.inr h2)];refine Fun.runW Tryz.func66 Tryz.ntmps66 rfl (by simp) fun Γ hn => ?_
  repeat' (first
  | (refine zaf rfl ?_; simp [h1, h2])
  | fail)
  refine EndW.norm (EndW.here ?_)
  (refine EndOK.val (.inr rfl) ?_; simp [Tryz.results66])
 rw [if_neg (by omega)];by_cases h0 : ms.length = 0
 ·obtain rfl : ms = [] := by simpa using h0
  rw [if_pos h0];by_cases h3 : 0 <= v
  ·refine Fun.runW Tryz.func66 Tryz.ntmps66 rfl (by simp) fun Γ hn => ?_
   repeat' (first
  | (refine zaf rfl ?_; simp [h1, h2, h3])
  | fail)
   refine EndW.norm (EndW.here ?_)
   (refine EndOK.val (.inr rfl) ?_; simp [Tryz.results66])
   all_goals try simp [h3]
  ·refine Fun.runW Tryz.func66 Tryz.ntmps66 rfl (by simp) fun Γ hn => ?_
   repeat' (first
  | (refine zaf rfl ?_; simp [h1, h2, h3])
  | fail)
   refine EndW.norm (EndW.here ?_)
   (refine EndOK.val (.inr rfl) ?_; simp [Tryz.results66])
   all_goals try simp [h3]
 rw [if_neg h0];have h0' : ¬ ms = [] := by simpa using h0
 cases mine with
 | false =>
  rw [if_pos rfl];by_cases h3 : 0 <= c
  ·obtain ⟨C, rfl⟩ := Int.eq_ofNat_of_zero_le h3;by_cases h4 : (C : Int) < ms.length
   ·have h4' : C < ms.length := by omega
    obtain ⟨m, hm⟩ : ∃ m, ms[C]? = some m := ⟨_, List.getElem?_eq_getElem h4'⟩;have hmo := hmv m (List.mem_of_getElem? hm);have e1 : zlN v vs (ms.getD (Int.toNat C) ⟨0, 0⟩) = zlN v vs m := by rw [List.getD_eq_getElem?_getD, Int.toNat_natCast, hm]; rfl
    rw [e1];unfold zlN;obtain ⟨t, g⟩ := m;unfold zmz at hmo;simp at hmo;obtain ⟨⟨⟨k1, k2⟩, k3⟩, k4⟩ := hmo;obtain ⟨T, rfl⟩ := Int.eq_ofNat_of_zero_le (show 0 <= t by omega);have hT : T < vs.length := by omega
    obtain ⟨F, hg⟩ : ∃ F, vs[T]? = some F := ⟨_, List.getElem?_eq_getElem hT⟩;have hge := (List.getElem?_eq_some_iff.1 hg).2;have hme := (List.getElem?_eq_some_iff.1 hm).2;have hv' := hv F (List.mem_of_getElem? hg);simp only [List.getD_eq_getElem?_getD, Int.toNat_natCast, hg, Option.getD_some];refine Fun.runW Tryz.func66 Tryz.ntmps66 rfl (by simp) fun Γ hn => ?_
    repeat' (first
  | (refine zaf rfl ?_; simp [h1, h2, h0, h0', h4, h4', hm, hme, hg, hge, hT])
  | (refine And.intro (by omega) ?_)
  | (refine ⟨hC _ (by kernel_rfl), hk _ (zdH 8 _ _ _ ?_)⟩; clear hC hk C k; simp [h1, h2, h0, h0', h4, h4', hm, hme, hg, hge, hT])
  | (refine zdx rfl (by kernel_rfl) (by first | (simp [hn] <;> omega) | fail) fun C k hC hk => ?_; simp [h1, h2, h0, h0', h4, h4', hm, hme, hg, hge, hT])
  | fail)
    refine EndW.norm (EndW.here ?_)
    (refine EndOK.val (.inr rfl) ?_; simp [Tryz.results66])
    all_goals try simp [h4']
    all_goals grind
   ·refine Fun.runW Tryz.func66 Tryz.ntmps66 rfl (by simp) fun Γ hn => ?_
    repeat' (first
  | (refine zaf rfl ?_; simp [h1, h2, h0, h0', h4])
  | (refine ⟨hC _ (by kernel_rfl), hk _ (zdH 8 _ _ _ ?_)⟩; clear hC hk C k; simp [h1, h2, h0, h0', h4])
  | (refine zdx rfl (by kernel_rfl) (by first | (simp [hn] <;> omega) | fail) fun C k hC hk => ?_; simp [h1, h2, h0, h0', h4])
  | fail)
    refine EndW.norm (EndW.here ?_)
    (refine EndOK.val (.inr rfl) ?_; simp [Tryz.results66])
    all_goals try simp [h4]
  ·refine Fun.runW Tryz.func66 Tryz.ntmps66 rfl (by simp) fun Γ hn => ?_
   repeat' (first
  | (refine zaf rfl ?_; simp [h1, h2, h0, h0', h3])
  | (refine ⟨hC _ (by kernel_rfl), hk _ (zdH 8 _ _ _ ?_)⟩; clear hC hk C k; simp [h1, h2, h0, h0', h3])
  | (refine zdx rfl (by kernel_rfl) (by first | (simp [hn] <;> omega) | fail) fun C k hC hk => ?_; simp [h1, h2, h0, h0', h3])
  | fail)
   refine EndW.norm (EndW.here ?_)
   (refine EndOK.val (.inr rfl) ?_; simp [Tryz.results66])
   all_goals try simp [h3]
 | true =>
  rw [if_neg (by simp)];by_cases h3 : c = -1
  ·subst h3;refine Fun.runW Tryz.func66 Tryz.ntmps66 rfl (by simp) fun Γ hn => ?_
   repeat' (first
  | (refine zaf rfl ?_; simp [h1, h2, h0, h0'])
  | (refine CallP.f2 rfl (hcq) (by first | simp [h1, h2, h0, h0'] <;> rfl | fail) ?_; simp [h1, h2, h0, h0'])
  | fail)
   refine EndW.norm (EndW.here ?_)
   (refine EndOK.val (.inr rfl) ?_; simp [Tryz.results66])
  ·refine Fun.runW Tryz.func66 Tryz.ntmps66 rfl (by simp) fun Γ hn => ?_
   repeat' (first
  | (refine zaf rfl ?_; simp [h1, h2, h0, h0', h3])
  | fail)
   refine EndW.norm (EndW.here ?_)
   (refine EndOK.val (.inr rfl) ?_; simp [Tryz.results66])
   all_goals try simp [h3]
theorem zpl (l : List Nd) (vs cs : List Int) (hg : zft l = true) (h1 : vs.length = l.length) (h2 : cs.length = l.length) (hv : zjy vs) : Fun Tryz.prog 40 [.u (zcE l), .u (.agg [ints vs, ints cs])] (· = .u (.int .i64 (zg4 l vs cs))) := by
 obtain ⟨hl0, hl3, hnd⟩ := (zdL l).1 hg;have h0 := zjX l;rw [hg] at h0;have hh := fun (x : Nd) (i : Nat) (hx : l[i]? = some x) => zrv x (vs.getD i 0) (cs.getD i 0) vs i hv (by rw [h1]; exact hnd i x hx);simp only [zcE, ints, zd8] at *;refine Fun.runW Tryz.func40 Tryz.ntmps40 rfl (by simp) fun Γ hn => ?_
 repeat' (first
  | (refine zaf rfl ?_; simp [h1, h2])
  | (refine And.intro (by omega) ?_)
  | (refine CallP.f2 rfl (h0) (by first | simp [h1, h2] <;> rfl | fail) ?_; simp [h1, h2])
  | fail)
 refine zbS (α := { j : Nat // j <= l.length /\ ∀ k, j <= k -> k < l.length -> zkF l vs cs k = true }) [0, 3] (fun j => [(5, .u (.int .i64 ((j.1 : Int) - 1)))]) (fun j => [(0, .box [.u (.sl (vs.map fun n => [.int .i64 n])), .u (.sl (cs.map fun n => [.int .i64 n]))])]) 1 (fun j => j.1) ⟨l.length, Nat.le_refl _, fun k a b => by omega⟩ ?_ ?_
 ·exact (Wk.zdw (by simp [hn] <;> grind))
 rintro ⟨j, hj, hb⟩;simp;rcases j with _ | i
 ·have hp : zg4 l vs cs = 0 := by
   unfold zg4;rw [if_pos];exact List.all_eq_true.2 fun k hk => hb k (Nat.zero_le _) (List.mem_range.1 hk)
  rw [hp]
  repeat' (first
  | (refine zaf rfl ?_; simp)
  | fail)
  refine EndW.norm (EndW.here ?_)
  (refine EndOK.val (.inr rfl) ?_; simp [Tryz.results40])
 have hi : i < l.length := by omega
 obtain ⟨x, hx⟩ : ∃ x, l[i]? = some x := ⟨_, List.getElem?_eq_getElem hi⟩;have hh := hh x i hx;have hiv : i < vs.length := by omega
 have hic : i < cs.length := by omega
 obtain ⟨v, gv⟩ : ∃ F, vs[i]? = some F := ⟨_, List.getElem?_eq_getElem hiv⟩;obtain ⟨c, gc⟩ : ∃ F, cs[i]? = some F := ⟨_, List.getElem?_eq_getElem hic⟩;have gve := (List.getElem?_eq_some_iff.1 gv).2;have gce := (List.getElem?_eq_some_iff.1 gc).2;have hxe := (List.getElem?_eq_some_iff.1 hx).2;have e1 : (((i + 1 : Nat) : Int)) - 1 = i := by omega
 have hat : zkF l vs cs i = zlU x (vs.getD i 0) (cs.getD i 0) vs := by unfold zkF; rw [List.getD_eq_getElem?_getD, hx]; rfl
 simp only [List.getD_eq_getElem?_getD, gv, gc, Option.getD_some] at hh hat;cases ha : zlU x v c vs with
 | true =>
  rw [ha] at hh
  repeat' (first
  | (refine zaf rfl ?_; simp [hx, hxe, e1, gv, gc, gve, gce, hiv, hic])
  | (refine And.intro (by omega) ?_)
  | (refine ⟨hC _ (by kernel_rfl), hk _ (zdH 8 _ _ _ ?_)⟩; clear hC hk C k; simp [hx, hxe, e1, gv, gc, gve, gce, hiv, hic])
  | (refine zdx rfl (by kernel_rfl) (by first | (simp [hn] <;> omega) | fail) fun C k hC hk => ?_; simp [hx, hxe, e1, gv, gc, gve, gce, hiv, hic])
  | (refine zcA rfl ?_; simp [hx, hxe, e1, gv, gc, gve, gce, hiv, hic])
  | (refine zbQ rfl ?_; simp [hx, hxe, e1, gv, gc, gve, gce, hiv, hic])
  | (refine CallV.f2 rfl (hh) (by first | simp [hx, hxe, e1, gv, gc, gve, gce, hiv, hic] <;> rfl | fail) ?_; simp [hx, hxe, e1, gv, gc, gve, gce, hiv, hic])
  | fail)
  refine LoopW.next ⟨i, by omega, fun k a b => ?_⟩ (by simp) ?_
  ·rcases Nat.eq_or_lt_of_le a with rfl | a
   ·rw [hat, ha]
   ·exact hb k a b
  exact (Wk.zdw (by simp [hn] <;> grind))
 | false =>
  rw [ha] at hh;have hp : zg4 l vs cs = 21 := by
   unfold zg4;rw [if_neg];intro hall;have := List.all_eq_true.1 hall i (List.mem_range.2 hi);rw [hat, ha] at this;cases this
  rw [hp]
  repeat' (first
  | (refine zaf rfl ?_; simp [hx, hxe, e1, gv, gc, gve, gce, hiv, hic])
  | (refine ⟨hC _ (by kernel_rfl), hk _ (zdH 8 _ _ _ ?_)⟩; clear hC hk C k; simp [hx, hxe, e1, gv, gc, gve, gce, hiv, hic])
  | (refine zdx rfl (by kernel_rfl) (by first | (simp [hn] <;> omega) | fail) fun C k hC hk => ?_; simp [hx, hxe, e1, gv, gc, gve, gce, hiv, hic])
  | (refine zcA rfl ?_; simp [hx, hxe, e1, gv, gc, gve, gce, hiv, hic])
  | (refine zbQ rfl ?_; simp [hx, hxe, e1, gv, gc, gve, gce, hiv, hic])
  | (refine CallV.f2 rfl (hh) (by first | simp [hx, hxe, e1, gv, gc, gve, gce, hiv, hic] <;> rfl | fail) ?_; simp [hx, hxe, e1, gv, gc, gve, gce, hiv, hic])
  | fail)
  refine EndW.norm (EndW.here ?_)
  (refine EndOK.val (.inr rfl) ?_; simp [Tryz.results40])
theorem zg1 (s : List UInt8) (n : Int) : Fun Tryz.prog 20 [.u (.str s), .u (.int .i64 n)] (· = .u (zut ⟨s, 1, n⟩)) := by
 simp only [zut];refine Fun.runW Tryz.func20 Tryz.ntmps20 rfl (by simp) fun Γ hn => ?_
 repeat' (first
  | (refine zaf rfl ?_; simp)
  | fail)
 refine EndW.norm (EndW.here ?_)
 (refine EndOK.val (.inr rfl) ?_; simp [Tryz.results20])
theorem zfO (s : List UInt8) (n : Int) : Fun Tryz.prog 21 [.u (.str s), .u (.int .i64 n)] (· = .u (zut ⟨s, 3, n⟩)) := by
 simp only [zut];refine Fun.runW Tryz.func21 Tryz.ntmps21 rfl (by simp) fun Γ hn => ?_
 repeat' (first
  | (refine zaf rfl ?_; simp)
  | fail)
 refine EndW.norm (EndW.here ?_)
 (refine EndOK.val (.inr rfl) ?_; simp [Tryz.results21])
theorem zh1 (b : By) (n : Int) (k : Nat) (c : List UInt8) (vars : List Var) : Fun Tryz.prog 19 [.u (zgf b n k), .u (.str c), .u (zdS vars)] (· = .tup [.u (.int .i64 (zmG b c vars).1), .u (.int .i64 (zmG b c vars).2)]) := by
 have h1 := zj5 b c vars;unfold zmG;generalize zew b c vars = R at *;obtain ⟨r, e⟩ := R;simp only [zgf, zdS, zaE, List.cons_append, List.nil_append] at h1 ⊢;refine Fun.runW Tryz.func19 Tryz.ntmps19 rfl (by simp) fun Γ hn => ?_
 repeat' (first
  | (refine zaf rfl ?_; simp)
  | (refine CallP.f2 rfl (h1) (by first | simp <;> rfl | fail) ?_; simp)
  | fail)
 refine EndW.norm (EndW.here ?_)
 (refine EndOK.val (.inr rfl) ?_; simp [Tryz.results19])
theorem ztL (b : By) (n : Int) (k j : Nat) (hr : zdh b = true) (hn : 1 <= n /\ n <= 60) (hk : (k : Int) <= n) : Fun Tryz.prog 95 [.u (zgf b n k), .u (.int .i64 j)] (· = .u (.bool (znh b n k j))) := by
 obtain ⟨_, _, _, hv, _⟩ := zdF hr;have h1 := zen (x := b.voices) (y := n) (B := 60) (C := 1000) hv (by omega) (by omega);unfold znh;simp only [zgf, zaE, List.cons_append, List.nil_append];refine Fun.runW Tryz.func95 Tryz.ntmps95 rfl (by simp) fun Γ hn => ?_
 repeat' (first
  | (refine Cnd.of (fun hc => ?_) (fun hc => ?_) <;> (try (exfalso; omega)) <;> (try simp))
  | (refine zaf rfl ?_; simp)
  | (refine And.intro (by omega) ?_)
  | fail)
 all_goals
  refine EndW.norm (EndW.here ?_)
  (refine EndOK.val (.inr rfl) ?_; simp [Tryz.results95])
 all_goals grind
theorem zfb (b : By) (m : Int) (c : List Int) (hl : c.length <= 1000000) : Fun Tryz.prog 18 [.u (.agg (zaE b)), .u (.int .i64 m), .u (ints c)] (· = .u (.bool (zdJ b m c))) := by
 have h1 := zgp b;unfold zdJ;simp only [ints];generalize hR : zhC m (-1) c = R;simp only [zaE] at h1 ⊢;refine Fun.runW Tryz.func18 Tryz.ntmps18 rfl (by simp) fun Γ hn => ?_
 repeat' (first
  | (refine zaf rfl ?_; simp)
  | fail)
 refine zhP 0 ?_;simp [frzB, zav, zau, St.frzS, frzS, fv, za1, zbm, zbn, frzObS, zat, zan, del];refine zbS (α := { s : Nat × Int // s.1 <= c.length /\ zhC m s.2 (c.drop s.1) = R }) [1, 3, 10, 11] (fun s => [(7, .u (.int .i64 s.1.2)), (12, .u (.int .i64 s.1.1))]) (fun s => []) 1 (fun s => c.length - s.1.1) ⟨(0, -1), by omega, hR⟩ ?_ ?_
 ·exact (Wk.zdw (by simp [hn] <;> grind))
 rintro ⟨⟨i, last⟩, hi, hc0⟩;simp;simp only at hi hc0;rcases hx : c[i]? with _ | x
 ·have hge : c.length <= i := by simpa using hx
  obtain rfl : i = c.length := by omega
  have hRt : R = true := by rw [<- hc0]; simp [zhC]
  subst hRt;by_cases hm1 : 1 <= m
  ·by_cases hm2 : m <= 60
   ·repeat' (first
  | (refine Cnd.of (fun hc => ?_) (fun hc => ?_) <;> (try (exfalso; omega)) <;> (try simp [hx, hm1, hm2]))
  | (refine zaf rfl ?_; simp [hx, hm1, hm2])
  | (refine CallP.f2 rfl (h1) (by first | simp [hx, hm1, hm2] <;> rfl | fail) ?_; simp [hx, hm1, hm2])
  | fail)
    all_goals
     refine EndW.norm (EndW.here ?_)
     (refine EndOK.val (.inr rfl) ?_; simp [Tryz.results18])
    all_goals try simp_all
   ·repeat' (first
  | (refine Cnd.of (fun hc => ?_) (fun hc => ?_) <;> (try (exfalso; omega)) <;> (try simp [hx, hm1, hm2]))
  | (refine zaf rfl ?_; simp [hx, hm1, hm2])
  | (refine CallP.f2 rfl (h1) (by first | simp [hx, hm1, hm2] <;> rfl | fail) ?_; simp [hx, hm1, hm2])
  | fail)
    all_goals
     refine EndW.norm (EndW.here ?_)
     (refine EndOK.val (.inr rfl) ?_; simp [Tryz.results18])
    all_goals try simp_all
  ·repeat' (first
  | (refine Cnd.of (fun hc => ?_) (fun hc => ?_) <;> (try (exfalso; omega)) <;> (try simp [hx, hm1]))
  | (refine zaf rfl ?_; simp [hx, hm1])
  | (refine CallP.f2 rfl (h1) (by first | simp [hx, hm1] <;> rfl | fail) ?_; simp [hx, hm1])
  | fail)
   all_goals
    refine EndW.norm (EndW.here ?_)
    (refine EndOK.val (.inr rfl) ?_; simp [Tryz.results18])
   all_goals try simp_all
 ·have hlt : i < c.length := (List.getElem?_eq_some_iff.1 hx).1;have hxe := (List.getElem?_eq_some_iff.1 hx).2;rw [zvE hx, zhC] at hc0;by_cases h2 : x <= last
  ·have hRf : R = false := by rw [<- hc0]; simp; omega
   subst hRf
   repeat' (first
  | (refine Cnd.of (fun hc => ?_) (fun hc => ?_) <;> (try (exfalso; omega)) <;> (try simp [hx, hxe, h2]))
  | (refine zaf rfl ?_; simp [hx, hxe, h2])
  | fail)
   refine EndW.norm (EndW.here ?_)
   (refine EndOK.val (.inr rfl) ?_; simp [Tryz.results18])
  ·by_cases h3 : m <= x
   ·have hRf : R = false := by rw [<- hc0]; simp; omega
    subst hRf
    repeat' (first
  | (refine Cnd.of (fun hc => ?_) (fun hc => ?_) <;> (try (exfalso; omega)) <;> (try simp [hx, hxe, h2, h3]))
  | (refine zaf rfl ?_; simp [hx, hxe, h2, h3])
  | fail)
    refine EndW.norm (EndW.here ?_)
    (refine EndOK.val (.inr rfl) ?_; simp [Tryz.results18])
   ·have hRt : zhC m x (c.drop (i + 1)) = R := by rw [<- hc0]; simp; omega
    repeat' (first
  | (refine Cnd.of (fun hc => ?_) (fun hc => ?_) <;> (try (exfalso; omega)) <;> (try simp [hx, hxe, h2, h3]))
  | (refine zaf rfl ?_; simp [hx, hxe, h2, h3])
  | (refine And.intro (by omega) ?_)
  | fail)
    refine LoopW.next ⟨(i + 1, x), by simp; omega, hRt⟩ (by simp; omega) ?_
    exact (Wk.zdw (by simp [hn] <;> grind))
theorem zpA (b : By) (n : Int) (k p : Nat) (a end_ : Int) (g : List Int) (hr : zdh b = true) (hn : 1 <= n /\ n <= 60) (hk : k <= 7 /\ (k : Int) <= n) (hp : p < 1000) (ha : 0 <= a /\ a <= 100000) (he : 0 <= end_ /\ end_ <= 100000) (hg : g.length = k + 1) :
  Fun Tryz.prog 68 [.u (zgf b n k), .u (.int .i64 p), .u (.int .i64 a), .u (.int .i64 end_), .u (ints g)] (· = .u (zcE (zgO b n k p a end_ g))) := by
 obtain ⟨hlast, _⟩ := zdF hr;have hen := fun j => ztL b n k j hr hn hk.2;unfold zgO;have hM : ∃ M, M = zix k (a + (k + 1)) g k := ⟨_, rfl⟩;obtain ⟨M, hM⟩ := hM;rw [<- hM];simp only [zgf, zaE, ints, List.cons_append, List.nil_append] at hen ⊢;refine Fun.runW Tryz.func68 Tryz.ntmps68 rfl (by simp) fun Γ hn => ?_
 repeat' (first
  | (refine zaf rfl ?_; simp [hk])
  | (refine And.intro (by omega) ?_)
  | fail)
 refine zhP 0 ?_;simp [frzB, zav, zau, St.frzS, frzS, fv, za1, zbm, zbn, frzObS, zat, zan, del];refine zkX _ (Wk.own 11 119 2 (by decide) rfl) ?_;simp [St.own];refine zbS (α := { s : Nat × List Nd // s.1 + s.2.length = k + 1 /\ s.2 ++ zlI k (a + (k + 1)) g s.1 = M }) [1, 2, 3, 4, 5, 12] (fun s => [(11, .vec 1 s.1.2.length), (13, .u (.int .i64 ((s.1.1 : Int) - 1)))]) (fun s => [(1, .vec 119 2 (zdN s.1.2))]) 2 (fun s => s.1.1) ⟨(k + 1, []), by simp, by simp [hM, zlI]⟩ ?_ ?_
 ·exact (Wk.zdw (by simp [hn, zdN] <;> grind))
 rintro ⟨⟨j, done⟩, hjl, hjM⟩;simp;simp only at hjl hjM;rcases j with _ | i
 ·have hMd : done = M := by simpa [zlI] using hjM
  obtain ⟨N, hN⟩ : ∃ N, N = M ++ zhS b n k (decide ((p : Int) = b.last - 1)) (a + 2 * (k + 1)) end_ k := ⟨_, rfl⟩;rw [<- hN]
  repeat' (first
  | (refine zaf rfl ?_; simp [hk])
  | fail)
  refine zbS (α := { s : Nat × List Nd // s.1 + s.2.length = 2 * (k + 1) /\ s.1 <= k + 1 /\ s.2 ++ zjI b n k (decide ((p : Int) = b.last - 1)) (a + 2 * (k + 1)) end_ s.1 = N }) [1, 2, 3, 5, 12] (fun s => [(11, .vec 1 s.1.2.length), (16, .u (.int .i64 ((s.1.1 : Int) - 1)))]) (fun s => [(1, .vec 119 2 (zdN s.1.2))]) 2 (fun s => s.1.1) ⟨(k + 1, done), by simp; omega, by omega, by simp [hN, hMd, zjI]⟩ ?_ ?_
  ·exact (Wk.zdw (by simp [hn, zbo, zbb] <;> grind))
  rintro ⟨⟨j, dn⟩, hjl2, hjk, hjN⟩;simp;simp only at hjl2 hjk hjN;have hln := zeV dn;have hlr2 := zhq dn;rcases j with _ | i
  ·have hdN : N = dn := by simpa [zjI] using hjN.symm
   repeat' (first
  | (refine zaf rfl ?_; simp [hln])
  | fail)
   (refine EndW.frzN 1 ?_; simp [del, zd7, zlE, zeV])
   refine EndW.norm (EndW.here ?_)
   (refine EndOK.val (.inr rfl) ?_; simp [Tryz.results68])
   all_goals simp [zcE, hdN, zd8]
  have e1 : (((i + 1 : Nat) : Int)) - 1 = i := by omega
  rw [zmO] at hjN;have hei := hen i;by_cases hlp : (p : Int) = b.last - 1
  ·cases hee : znh b n k i with
   | true =>
    rw [hee] at hei;have hs := zeU dn false [⟨end_, 0⟩, ⟨end_, 0⟩];simp only [zzC, zzD] at hs
    repeat' (first
  | (refine zaf rfl ?_; simp [e1, hln, hlr2, hlp])
  | (refine And.intro (by omega) ?_)
  | (refine CallP.f2 rfl (hei) (by first | simp [e1, hln, hlr2, hlp] <;> rfl | fail) ?_; simp [e1, hln, hlr2, hlp])
  | fail)
    refine LoopW.next ⟨(i, dn ++ [⟨false, [⟨end_, 0⟩, ⟨end_, 0⟩]⟩]), by simp; omega, by omega, by rw [<- hjN, List.append_assoc]; simp [hlp, hee]⟩ (by simp) ?_
    refine Wk.trans (Wk.frz (e := 124) (sz := 2) 5 [7] (us := [[.int .i64 (end_), .int .i64 0], [.int .i64 end_, .int .i64 0]]) (rows := [[.u (.int .i64 (end_)), .u (.int .i64 0)], [.u (.int .i64 end_), .u (.int .i64 0)]]) (by simp [zaa, getK, zac, zad]) rfl) ?_;simp [St.frz, St.frzS, frzS, fv, za1, frzObS, del, zcw, zd7];exact (Wk.ren ((fun i => if i = 1 then 7 else i)) rfl (by first | (simp [hn]; done) | (intro i hi; rw [hn] at hi; constructor <;> (try simp) <;> (try (intro _)) <;> omega)) (by simp [zhQ, St.lp, zax, zaa, getK, zac, zad, D.under, D.le, D.ren, hs, zbM, zbo, zbx, zbb] <;> (try (intros; simp_all; done)) <;> (try omega)) (by simp [wkR, St.lp, zaa, getK, zac, zad, obR, leU, zch, za2, Ob.under, D.under, D.le, D.ren, hs, zbM, zbo, zbx, zbb] <;> (try (intros; simp_all; done)) <;> (try omega)) (by simp [hs, zbM, zbo, zbx, zbb]))
   | false =>
    rw [hee] at hei;have hs := zeU dn false [⟨end_, 0⟩];simp only [zzC, zzD] at hs
    repeat' (first
  | (refine zaf rfl ?_; simp [e1, hln, hlr2, hlp])
  | (refine And.intro (by omega) ?_)
  | (refine CallP.f2 rfl (hei) (by first | simp [e1, hln, hlr2, hlp] <;> rfl | fail) ?_; simp [e1, hln, hlr2, hlp])
  | fail)
    refine LoopW.next ⟨(i, dn ++ [⟨false, [⟨end_, 0⟩]⟩]), by simp; omega, by omega, by rw [<- hjN, List.append_assoc]; simp [hlp, hee]⟩ (by simp) ?_
    refine Wk.trans (Wk.frz (e := 124) (sz := 2) 2 [5] (us := [[.int .i64 (end_), .int .i64 0]]) (rows := [[.u (.int .i64 (end_)), .u (.int .i64 0)]]) (by simp [zaa, getK, zac, zad]) rfl) ?_;simp [St.frz, St.frzS, frzS, fv, za1, frzObS, del, zcw, zd7];exact (Wk.ren ((fun i => if i = 1 then 5 else i)) rfl (by first | (simp [hn]; done) | (intro i hi; rw [hn] at hi; constructor <;> (try simp) <;> (try (intro _)) <;> omega)) (by simp [zhQ, St.lp, zax, zaa, getK, zac, zad, D.under, D.le, D.ren, hs, zbM, zbo, zbx, zbb] <;> (try (intros; simp_all; done)) <;> (try omega)) (by simp [wkR, St.lp, zaa, getK, zac, zad, obR, leU, zch, za2, Ob.under, D.under, D.le, D.ren, hs, zbM, zbo, zbx, zbb] <;> (try (intros; simp_all; done)) <;> (try omega)) (by simp [hs, zbM, zbo, zbx, zbb]))
  ·cases hee : znh b n k i with
   | true =>
    rw [hee] at hei;have hs := zeU dn false [⟨a + 2 * (k + 1) + k - i, 0⟩, ⟨end_, 0⟩];simp only [zzC, zzD] at hs
    repeat' (first
  | (refine zaf rfl ?_; simp [e1, hln, hlr2, hlp])
  | (refine And.intro (by omega) ?_)
  | (refine CallP.f2 rfl (hei) (by first | simp [e1, hln, hlr2, hlp] <;> rfl | fail) ?_; simp [e1, hln, hlr2, hlp])
  | fail)
    refine LoopW.next ⟨(i, dn ++ [⟨false, [⟨a + 2 * (k + 1) + k - i, 0⟩, ⟨end_, 0⟩]⟩]), by simp; omega, by omega, by rw [<- hjN, List.append_assoc]; simp [hlp, hee]⟩ (by simp) ?_
    refine Wk.trans (Wk.frz (e := 124) (sz := 2) 5 [7] (us := [[.int .i64 (a + 2 * (k + 1) + k - i), .int .i64 0], [.int .i64 end_, .int .i64 0]]) (rows := [[.u (.int .i64 (a + 2 * (k + 1) + k - i)), .u (.int .i64 0)], [.u (.int .i64 end_), .u (.int .i64 0)]]) (by simp [zaa, getK, zac, zad]) rfl) ?_;simp [St.frz, St.frzS, frzS, fv, za1, frzObS, del, zcw, zd7];exact (Wk.ren ((fun i => if i = 1 then 7 else i)) rfl (by first | (simp [hn]; done) | (intro i hi; rw [hn] at hi; constructor <;> (try simp) <;> (try (intro _)) <;> omega)) (by simp [zhQ, St.lp, zax, zaa, getK, zac, zad, D.under, D.le, D.ren, hs, zbM, zbo, zbx, zbb] <;> (try (intros; simp_all; done)) <;> (try omega)) (by simp [wkR, St.lp, zaa, getK, zac, zad, obR, leU, zch, za2, Ob.under, D.under, D.le, D.ren, hs, zbM, zbo, zbx, zbb] <;> (try (intros; simp_all; done)) <;> (try omega)) (by simp [hs, zbM, zbo, zbx, zbb]))
   | false =>
    rw [hee] at hei;have hs := zeU dn false [⟨a + 2 * (k + 1) + k - i, 0⟩];simp only [zzC, zzD] at hs
    repeat' (first
  | (refine zaf rfl ?_; simp [e1, hln, hlr2, hlp])
  | (refine And.intro (by omega) ?_)
  | (refine CallP.f2 rfl (hei) (by first | simp [e1, hln, hlr2, hlp] <;> rfl | fail) ?_; simp [e1, hln, hlr2, hlp])
  | fail)
    refine LoopW.next ⟨(i, dn ++ [⟨false, [⟨a + 2 * (k + 1) + k - i, 0⟩]⟩]), by simp; omega, by omega, by rw [<- hjN, List.append_assoc]; simp [hlp, hee]⟩ (by simp) ?_
    refine Wk.trans (Wk.frz (e := 124) (sz := 2) 2 [5] (us := [[.int .i64 (a + 2 * (k + 1) + k - i), .int .i64 0]]) (rows := [[.u (.int .i64 (a + 2 * (k + 1) + k - i)), .u (.int .i64 0)]]) (by simp [zaa, getK, zac, zad]) rfl) ?_;simp [St.frz, St.frzS, frzS, fv, za1, frzObS, del, zcw, zd7];exact (Wk.ren ((fun i => if i = 1 then 5 else i)) rfl (by first | (simp [hn]; done) | (intro i hi; rw [hn] at hi; constructor <;> (try simp) <;> (try (intro _)) <;> omega)) (by simp [zhQ, St.lp, zax, zaa, getK, zac, zad, D.under, D.le, D.ren, hs, zbM, zbo, zbx, zbb] <;> (try (intros; simp_all; done)) <;> (try omega)) (by simp [wkR, St.lp, zaa, getK, zac, zad, obR, leU, zch, za2, Ob.under, D.under, D.le, D.ren, hs, zbM, zbo, zbx, zbb] <;> (try (intros; simp_all; done)) <;> (try omega)) (by simp [hs, zbM, zbo, zbx, zbb]))
 have e1 : (((i + 1 : Nat) : Int)) - 1 = i := by omega
 repeat' (first
  | (refine zaf rfl ?_; simp [e1])
  | fail)
 refine zkX _ (Wk.ownC 2 _ 1 124 2 (by decide) rfl rfl) ?_;simp [St.ownC];refine zbS (α := { s : Nat × List Mv // s.1 + s.2.length = i + 1 /\ s.2 ++ zhM k (a + (k + 1)) g s.1 = zhM k (a + (k + 1)) g (i + 1) }) [1, 2, 3, 4, 5, 11, 12, 13, 14] (fun s => [(15, .u (.int .i64 ((s.1.1 : Int) - 1)))]) (fun s => [(1, .vec 119 2 (zdN done)), (2, .box [.u (.bool true), .vec 3 s.1.2.length]), (3, .vec 124 2 (zgv s.1.2))]) 4 (fun s => s.1.1) ⟨(i + 1, []), by simp, by simp⟩ ?_ ?_
 ·exact (Wk.zdw (by simp [hn, zdN, zgv] <;> grind))
 rintro ⟨⟨q, dm⟩, hql, hqM⟩;simp;simp only at hql hqM;have hlm := zgP dm;have hlr := zoZ dm;have hlr2 := zhq done;have hln := zeV done;rcases q with _ | q
 ·have hdm : dm = zhM k (a + (k + 1)) g (i + 1) := by simpa [zhM] using hqM
  have hs := zeU done true dm;refine zkX _ (Wk.frz (e := 124) (sz := 2) 3 [2] (us := dm.map fun m => [.int .i64 m.to_, .int .i64 m.gain]) (rows := zgv dm) (by simp [zaa, getK]) (zqZ dm)) ?_;simp [St.frz, St.frzS, frzS, fv, za1, frzObS, del, hlm, zd7]
  repeat' (first
  | (refine zaf rfl ?_; simp [e1, hln, zeV, hlr2, hs])
  | (refine And.intro (by omega) ?_)
  | fail)
  refine LoopW.next ⟨(i, done ++ [⟨true, dm⟩]), by simp; omega, by rw [<- hjM, zm3, <- hdm, List.append_assoc]; rfl⟩ (by simp) ?_
  exact (Wk.ren ((fun i => if i = 1 then 5 else i)) rfl (by first | (simp [hn]; done) | (intro i hi; rw [hn] at hi; constructor <;> (try simp) <;> (try (intro _)) <;> omega)) (by simp [zhQ, St.lp, zax, zaa, getK, zac, zad, D.under, D.le, D.ren, hs, zbM, zbo, zbx, zbb] <;> (try (intros; simp_all; done)) <;> (try omega)) (by simp [wkR, St.lp, zaa, getK, zac, zad, obR, leU, zch, za2, Ob.under, D.under, D.le, D.ren, hs, zbM, zbo, zbx, zbb] <;> (try (intros; simp_all; done)) <;> (try omega)) (by simp [hs, zbM, zbo, zbx, zbb]))
 ·have e2 : (((q + 1 : Nat) : Int)) - 1 = q := by omega
  have hqg : q < g.length := by omega
  obtain ⟨v, hgv⟩ : ∃ v, g[q]? = some v := ⟨_, List.getElem?_eq_getElem hqg⟩;have hge := (List.getElem?_eq_some_iff.1 hgv).2;have hs := zoY dm (a + (k + 1) + k - q) v
  repeat' (first
  | (refine zaf rfl ?_; simp [e2, hqg, hgv, hge, hlm, zgP, hlr, hs])
  | (refine And.intro (by omega) ?_)
  | (refine ⟨hC _ (by kernel_rfl), hk _ (zdH 8 _ _ _ ?_)⟩; clear hC hk C k; simp [e2, hqg, hgv, hge, hlm, zgP, hlr, hs])
  | (refine zdx rfl (by kernel_rfl) (by first | (simp [hn] <;> omega) | fail) fun C k hC hk => ?_; simp [e2, hqg, hgv, hge, hlm, zgP, hlr, hs])
  | fail)
  refine LoopW.next ⟨(q, dm ++ [⟨a + (k + 1) + k - q, v⟩]), by simp; omega, by rw [<- hqM, zm4, List.append_assoc, List.getD_eq_getElem?_getD, hgv]; rfl⟩ (by simp) ?_
  exact (Wk.ren ((fun i => if i = 3 then 5 else i)) rfl (by first | (simp [hn]; done) | (intro i hi; rw [hn] at hi; constructor <;> (try simp) <;> (try (intro _)) <;> omega)) (by simp [zhQ, St.lp, zax, zaa, getK, zac, zad, D.under, D.le, D.ren, hs, zbM, zbo, zbx, zbb] <;> (try (intros; simp_all; done)) <;> (try omega)) (by simp [wkR, St.lp, zaa, getK, zac, zad, obR, leU, zch, za2, Ob.under, D.under, D.le, D.ren, hs, zbM, zbo, zbx, zbb] <;> (try (intros; simp_all; done)) <;> (try omega)) (by simp [hs, zbM, zbo, zbx, zbb]))
theorem zty (b : By) (m : Int) (c : List Int) (hl : c.length <= 1000000) (hR : zdJ b m c = false) : Fun Tryz.prog 43 [.u (.agg (zaE b)), .u (.int .i64 m), .u (ints c)] (· = .tup [.u (zcE (zdO b m c).1), .u (.int .i64 (zdO b m c).2)]) := by
 have h1 := zfb b m c hl;unfold zdO;rw [hR] at h1;rw [hR];simp only [zaE, ints] at h1 ⊢;refine Fun.runW Tryz.func43 Tryz.ntmps43 rfl (by simp) fun Γ hn => ?_
 repeat' (first
  | (refine zaf rfl ?_; simp)
  | (refine CallP.f2 rfl (h1) (by first | simp <;> rfl | fail) ?_; simp)
  | fail)
 refine EndW.norm (EndW.here ?_)
 (refine EndOK.val (.inr rfl) ?_; simp [Tryz.results43])
 all_goals simp [zcE]
theorem zrB (b : By) (m : Int) (c : List Int) (hl : c.length <= 1000000) (hR : zdJ b m c = true) (h9 : 7 < c.length \/ 3000 <= 2 * ((c.length : Int) + 1) * b.last) : Fun Tryz.prog 43 [.u (.agg (zaE b)), .u (.int .i64 m), .u (ints c)] (· = .tup [.u (zcE (zdO b m c).1), .u (.int .i64 (zdO b m c).2)]) := by
 have h1 := zfb b m c hl;unfold zdO;rw [hR] at h1;rw [hR, if_pos rfl];obtain ⟨hk, hr, hn1, hn2⟩ := zd5 hR;have hn : 1 <= m /\ m <= 60 := ⟨hn1, hn2⟩;obtain ⟨hlast, _⟩ := zdF hr;obtain ⟨k, hkc⟩ : ∃ k, k = c.length := ⟨_, rfl⟩;rw [<- hkc] at hk ⊢;obtain ⟨L, hL⟩ := Int.eq_ofNat_of_zero_le (show 0 <= b.last by omega);have hE := zen (x := 2 * ((k : Int) + 1)) (y := (L : Int)) (B := 1000) (C := 200) (by omega) (by omega) (by omega);have hE0 : 0 <= 2 * ((k : Int) + 1) * L := Int.mul_nonneg (by omega) (by omega);unfold znb;rw [if_pos (by rw [hkc]; exact h9)];rw [hL] at h9;simp only [zaE, ints, zcE, hL, List.cons_append, List.nil_append] at h1 ⊢;clear hR;by_cases h8 : 7 < k
 ·skip
  refine Fun.runW Tryz.func43 Tryz.ntmps43 rfl (by simp) fun Γ hn => ?_; simp only [zzE, zzC, zzD];subst hkc;have h7 : 7 < c.length := h8;have h7' : (7 : Int) < c.length := by omega
  repeat' (first
  | (refine CallP.f2 rfl (h1) (by first | simp <;> rfl | fail) ?_; simp (config := { maxSteps := 1000000 }) [h7, h7'])
  | (refine Cnd.of (fun hc => ?_) (fun hc => ?_) <;> (try (exfalso; omega)) <;> (try simp [h7, h7']))
  | (refine zaf rfl ?_; simp [h7, h7'])
  | (refine And.intro (by omega) ?_)
  | fail)
  refine EndW.norm (EndW.here ?_)
  (refine EndOK.val (.inr rfl) ?_; simp [Tryz.results43])
  all_goals simp
 have h7n : k <= 7 := by omega
 subst hkc;have h7 : ¬ 7 < c.length := h8;have h7' : ¬ (7 : Int) < c.length := by omega
 have h3 : 3000 <= 2 * ((c.length : Int) + 1) * L := by omega
 ·skip
  refine Fun.runW Tryz.func43 Tryz.ntmps43 rfl (by simp) fun Γ hn => ?_
  repeat' (first
  | (refine CallP.f2 rfl (h1) (by first | simp <;> rfl | fail) ?_; simp (config := { maxSteps := 1000000 }) [h7, h7', h3])
  | (refine Cnd.of (fun hc => ?_) (fun hc => ?_) <;> (try (exfalso; omega)) <;> (try simp [h7, h7', h3]))
  | (refine zaf rfl ?_; simp [h7, h7', h3])
  | (refine And.intro (by omega) ?_)
  | fail)
  refine EndW.norm (EndW.here ?_)
  (refine EndOK.val (.inr rfl) ?_; simp [Tryz.results43])
  all_goals simp
theorem zlt {l : List Tok} (hl : TokOK l) {f p : Nat} {t : Tok} (ht : l[p]? = some t) (hk : ¬ t.kind = 2) (h1 : isB l p [116, 114, 117, 101] = false) (h2 : isB l p [102, 97, 108, 115, 101] = false)
  (h3 : isB l p [109, 105, 110] = false) (h4 : isB l p [109, 97, 120] = false) (h5 : isB l p [40] = false) {i nx : Nat} (hi : i < nx) :
  RetX Tryz.prog 145 [.ptr i 0] [(i, pOb l p)] nx (PPost l i nx ziU (zbE l (f + 1) p)) := by
 have hne := zbl hi;have hp := (List.getElem?_eq_some_iff.1 ht).1;have hnx := zdi l p t ht hl.len;have hll := hl.len;rw [zbE, ht];have hh1 := fun nx' (h : nx <= nx') => zb3 l p [116, 114, 117, 101] i nx' (by omega) hp hl.len;have hh2 := fun nx' (h : nx <= nx') => zb3 l p [102, 97, 108, 115, 101] i nx' (by omega) hp hl.len;have hm1 := zfr l p [109, 105, 110] hp hl.len;have hm2 := zfr l p [109, 97, 120] hp hl.len;have hh3 := fun nx' (h : nx <= nx') => zb3 l p [40] i nx' (by omega) hp hl.len;have hnm := zh5 t.text;have hc1 := fun nx' (h : nx <= nx') => zf5 l p 12 i nx' (by omega);have hc2 := fun nx' (h : nx <= nx') => zex l p t 12 i nx' (by omega) ht hl.len;simp only [hk, h1, h2, h3, h4, h5, if_false, if_true, Bool.false_eq_true, or_self] at hh1 hh2 hm1 hm2 hh3 ⊢;by_cases hw : t.kind = 1
 ·cases hb : zfe t.text with
  | true =>
   simp only [hb, hw, and_self, if_true] at hnm ⊢;refine RetX.runW Tryz.func145 Tryz.ntmps145 rfl (by simp) fun Γ hn hpan => ?_
   repeat' (first
  | (refine zaf rfl ?_; simp [hne, hk, hw, del, zzA])
  | (refine And.intro (by omega) ?_)
  | ((first | refine CallP.f2 rfl (hnx) (by first | simp [hne, hk, hw, del, zzA] <;> rfl | fail) ?_ | refine CallP.f2 rfl (hm1) (by first | simp [hne, hk, hw, del, zzA] <;> rfl | fail) ?_ | refine CallP.f2 rfl (hm2) (by first | simp [hne, hk, hw, del, zzA] <;> rfl | fail) ?_ | refine CallP.f2 rfl (hnm) (by first | simp [hne, hk, hw, del, zzA] <;> rfl | fail) ?_ | fail); simp [hne, hk, hw, del, zzA])
  | (refine CallP.ok1 (hh1 _ (by first | omega | (simp <;> omega) | fail)) (by first | (simp [hne, hk, hw, del, zzA, zaa, getK, zab, zac]; done) | fail) (by rfl) (by first | assumption | (simp; done) | fail) (by rfl) (by simp) ?_; (try simp [hne, hk, hw, del, zzA]))
  | (refine CallP.ok1 (hh2 _ (by first | omega | (simp <;> omega) | fail)) (by first | (simp [hne, hk, hw, del, zzA, zaa, getK, zab, zac]; done) | fail) (by rfl) (by first | assumption | (simp; done) | fail) (by rfl) (by simp) ?_; (try simp [hne, hk, hw, del, zzA]))
  | (refine CallP.ok1 (hh3 _ (by first | omega | (simp <;> omega) | fail)) (by first | (simp [hne, hk, hw, del, zzA, zaa, getK, zab, zac]; done) | fail) (by rfl) (by first | assumption | (simp; done) | fail) (by rfl) (by simp) ?_; (try simp [hne, hk, hw, del, zzA]))
  | (refine CallP.ok1 (hc1 _ (by first | omega | (simp <;> omega) | fail)) (by first | (simp [hne, hk, hw, del, zzA, zaa, getK, zab, zac]; done) | fail) (by rfl) (by first | assumption | (simp; done) | fail) (by rfl) (by simp) ?_; (try simp [hne, hk, hw, del, zzA]))
  | fail)
   refine EndW.norm ?_;simp [St.norm, za7, zbN, zb5, zcc, hne]
   (refine EndW.z ([(i, pOb l (p + 1))]) (N := nx) Tryz.results145 (by simp [hne, hi] <;> omega) ?_; simp [hne, hi])
   exact PPost.zdv rfl (by simp [Exp.row]) rfl
  | false =>
   simp only [hb, hw, Bool.false_eq_true, and_false, if_false] at hnm ⊢;refine RetX.runW Tryz.func145 Tryz.ntmps145 rfl (by simp) fun Γ hn hpan => ?_
   repeat' (first
  | (refine zaf rfl ?_; simp [hne, hk, hw, del, zzA])
  | ((first | refine CallP.f2 rfl (hnx) (by first | simp [hne, hk, hw, del, zzA] <;> rfl | fail) ?_ | refine CallP.f2 rfl (hm1) (by first | simp [hne, hk, hw, del, zzA] <;> rfl | fail) ?_ | refine CallP.f2 rfl (hm2) (by first | simp [hne, hk, hw, del, zzA] <;> rfl | fail) ?_ | refine CallP.f2 rfl (hnm) (by first | simp [hne, hk, hw, del, zzA] <;> rfl | fail) ?_ | fail); simp [hne, hk, hw, del, zzA])
  | (refine CallP.ok1 (hh1 _ (by first | omega | (simp <;> omega) | fail)) (by first | (simp [hne, hk, hw, del, zzA, zaa, getK, zab, zac]; done) | fail) (by rfl) (by first | assumption | (simp; done) | fail) (by rfl) (by simp) ?_; (try simp [hne, hk, hw, del, zzA]))
  | (refine CallP.ok1 (hh2 _ (by first | omega | (simp <;> omega) | fail)) (by first | (simp [hne, hk, hw, del, zzA, zaa, getK, zab, zac]; done) | fail) (by rfl) (by first | assumption | (simp; done) | fail) (by rfl) (by simp) ?_; (try simp [hne, hk, hw, del, zzA]))
  | (refine CallP.ok1 (hh3 _ (by first | omega | (simp <;> omega) | fail)) (by first | (simp [hne, hk, hw, del, zzA, zaa, getK, zab, zac]; done) | fail) (by rfl) (by first | assumption | (simp; done) | fail) (by rfl) (by simp) ?_; (try simp [hne, hk, hw, del, zzA]))
  | (refine CallP.zgg (hc2 _ (by first | omega | (simp <;> omega) | fail)) (by first | (simp [hne, hk, hw, del, zzA, zaa, getK, zab, zac]; done) | fail) (by rfl) (by first | assumption | (simp; done) | fail) (by rfl) (by simp) ?_; rintro ob' ⟨q', rfl⟩; refine ⟨_, Wk.refl _, ?_⟩)
  | fail)
   (refine hpan _ _ (PanG.k ([(i, pOb l q')]) (nx) (by simp [hn, hi, hne, zab, zac, zaa, getK] <;> omega) ?_); try simp)
   exact PPost.zbd rfl
 ·simp only [hw, false_and, if_false];refine RetX.runW Tryz.func145 Tryz.ntmps145 rfl (by simp) fun Γ hn hpan => ?_
  repeat' (first
  | (refine zaf rfl ?_; simp [hne, hk, hw, del, zzA])
  | ((first | refine CallP.f2 rfl (hnx) (by first | simp [hne, hk, hw, del, zzA] <;> rfl | fail) ?_ | refine CallP.f2 rfl (hm1) (by first | simp [hne, hk, hw, del, zzA] <;> rfl | fail) ?_ | refine CallP.f2 rfl (hm2) (by first | simp [hne, hk, hw, del, zzA] <;> rfl | fail) ?_ | refine CallP.f2 rfl (hnm) (by first | simp [hne, hk, hw, del, zzA] <;> rfl | fail) ?_ | fail); simp [hne, hk, hw, del, zzA])
  | (refine CallP.ok1 (hh1 _ (by first | omega | (simp <;> omega) | fail)) (by first | (simp [hne, hk, hw, del, zzA, zaa, getK, zab, zac]; done) | fail) (by rfl) (by first | assumption | (simp; done) | fail) (by rfl) (by simp) ?_; (try simp [hne, hk, hw, del, zzA]))
  | (refine CallP.ok1 (hh2 _ (by first | omega | (simp <;> omega) | fail)) (by first | (simp [hne, hk, hw, del, zzA, zaa, getK, zab, zac]; done) | fail) (by rfl) (by first | assumption | (simp; done) | fail) (by rfl) (by simp) ?_; (try simp [hne, hk, hw, del, zzA]))
  | (refine CallP.ok1 (hh3 _ (by first | omega | (simp <;> omega) | fail)) (by first | (simp [hne, hk, hw, del, zzA, zaa, getK, zab, zac]; done) | fail) (by rfl) (by first | assumption | (simp; done) | fail) (by rfl) (by simp) ?_; (try simp [hne, hk, hw, del, zzA]))
  | (refine CallP.zgg (hc2 _ (by first | omega | (simp <;> omega) | fail)) (by first | (simp [hne, hk, hw, del, zzA, zaa, getK, zab, zac]; done) | fail) (by rfl) (by first | assumption | (simp; done) | fail) (by rfl) (by simp) ?_; rintro ob' ⟨q', rfl⟩; refine ⟨_, Wk.refl _, ?_⟩)
  | fail)
  (refine hpan _ _ (PanG.k ([(i, pOb l q')]) (nx) (by simp [hn, hi, hne, zab, zac, zaa, getK] <;> omega) ?_); try simp)
  exact PPost.zbd rfl
theorem zn4 {l : List Tok} {p : Nat} {w : List UInt8} {t : Tok} (ht : l[p]? = some t) (h : isB l p w = true) : t.text = w := by
 unfold isB at h;rw [ht] at h;simp only [Bool.and_eq_true, decide_eq_true_eq] at h;exact h.2
theorem zls {l : List Tok} (hl : TokOK l) {f : Nat} (hE : zhZ l f) : zkc l (f + 1) := by
 intro p i nx hi hp hf;obtain ⟨t, ht⟩ : ∃ t, l[p]? = some t := ⟨_, List.getElem?_eq_getElem hp⟩;by_cases hk : t.kind = 2
 ·exact zmQ hl ht hk hi
 cases h1 : isB l p [116, 114, 117, 101] with
 | true => exact zlr hl ht hk h1 hi
 | false =>
 cases h2 : isB l p [102, 97, 108, 115, 101] with
 | true => exact zkr hl ht hk h1 h2 hi
 | false =>
 cases h3 : isB l p [109, 105, 110] with
 | true =>
  cases h4 : isB l p [109, 97, 120] with
  | true => exact absurd ((zn4 ht h3).symm.trans (zn4 ht h4)) (by decide)
  | false => exact zmR hl hE (by omega) ht hk h1 h2 h3 h4 hi
 | false =>
 cases h4 : isB l p [109, 97, 120] with
 | true => exact zmS hl hE (by omega) ht hk h1 h2 h3 h4 hi
 | false =>
 cases h5 : isB l p [40] with
 | true => exact zkq hl hE (by omega) ht hk h1 h2 h3 h4 h5 hi
 | false => exact zlt hl ht hk h1 h2 h3 h4 h5 hi
end Go.Proofs.YtmlpcgkaonifcaaGreatDoor
namespace Go.Proofs.YtmlpcgkaonifcaaGreatDoor
open Go Go.VL
def zmx (j : Nat) (l : List Nd) : List Int := List.replicate j 0 ++ (svs j (l.drop j)).map (·.1)
def zoD (j : Nat) (l : List Nd) : List Int := List.replicate j (-1) ++ (svs j (l.drop j)).map (·.2)
theorem znH {j : Nat} {l : List Nd} (h : j <= l.length) : (zmx j l).length = l.length := by simp [zmx, zii]; omega
theorem znI {j : Nat} {l : List Nd} (h : j <= l.length) : (zoD j l).length = l.length := by simp [zoD, zii]; omega
theorem zs0 (l : List Nd) : zmx l.length l = List.replicate l.length 0 := by simp [zmx, svs]
theorem zs1 (l : List Nd) : zoD l.length l = List.replicate l.length (-1) := by simp [zoD, svs]
theorem zqm (l : List Nd) : zmx 0 l = zfy l := by simp [zmx, zfy]
theorem zqn (l : List Nd) : zoD 0 l = zgj l := by simp [zoD, zgj]
def fI (i : Nat) (l : List Nd) (t : Int) : Int := ((svs (i + 1) (l.drop (i + 1))).getD (t.toNat - (i + 1)) (0, -1)).1
def vaI (i : Nat) (v : Int) (l : List Nd) : List Int := (zmx (i + 1) l).set i v
def maI (i : Nat) (c : Int) (l : List Nd) : List Int := (zoD (i + 1) l).set i c
def zhY (x : Nd) (f : Int -> Int) (k : Nat) : Int × Int × Nat := (x.moves.take k).foldl (zjp x.mine f) (0, -1, 0)
theorem zj7 {x : Nd} {k : Nat} {m : Mv} (h : x.moves[k]? = some m) (f : Int -> Int) : zhY x f (k + 1) = zjp x.mine f (zhY x f k) m := by
 unfold zhY;rw [List.take_add_one, h];simp
theorem zmj (x : Nd) (f : Int -> Int) : ∀ k, k <= x.moves.length -> (zhY x f k).2.2 = k
 | 0, _ => rfl
 | k + 1, h => by
  rw [zj7 (List.getElem?_eq_getElem (by omega)), zjp];have := zmj x f k (by omega);split <;> simp [this]
theorem zuX {i : Nat} {v : Int} {l : List Nd} (h : i < l.length) : (vaI i v l).length = l.length := by rw [vaI, List.length_set, znH h]
theorem zvh {i : Nat} {v : Int} {l : List Nd} (h : i < l.length) : (maI i v l).length = l.length := by rw [maI, List.length_set, znI h]
theorem zuW (i : Nat) (v w : Int) (l : List Nd) : (vaI i v l).set i w = vaI i w l := by simp [vaI]
theorem zvg (i : Nat) (v w : Int) (l : List Nd) : (maI i v l).set i w = maI i w l := by simp [maI]
theorem zsR (i : Nat) (v : Int) (l : List Nd) (h : i < (vaI i v l).length) : (vaI i v l)[i] = v := by simp [vaI]
theorem zuY {i T : Nat} {v : Int} {l : List Nd} (h1 : i < T) (h : T < (vaI i v l).length) : (vaI i v l)[T] = fI i l T := by
 have h2 : T < (zmx (i + 1) l).length := by simpa [vaI] using h
 simp only [vaI, List.getElem_set_ne (show i ≠ T by omega)];apply Option.some.inj;rw [<- List.getElem?_eq_getElem h2, fI, List.getD_eq_getElem?_getD];have h3 : T - (i + 1) < (svs (i + 1) (l.drop (i + 1))).length := by simp [zmx] at h2; omega
 simp only [zmx];rw [List.getElem?_append_right (by simp; omega), List.length_replicate, List.getElem?_map, Int.toNat_natCast, List.getElem?_eq_getElem h3];rfl
theorem zkm {α : Type} (i : Nat) (a v : α) (r : List α) : (List.replicate (i + 1) a ++ r).set i v = List.replicate i a ++ v :: r := by
 simp [List.replicate_succ', List.set_append]
theorem zsQ (i : Nat) (l : List Nd) : vaI i 0 l = zmx (i + 1) l := by
 rw [vaI, zmx, zkm, List.replicate_succ', List.append_assoc];rfl
theorem ztd (i : Nat) (l : List Nd) : maI i (-1) l = zoD (i + 1) l := by
 rw [maI, zoD, zkm, List.replicate_succ', List.append_assoc];rfl
theorem zrN {l : List Nd} {i : Nat} {x : Nd} (h : l[i]? = some x) : l.drop i = x :: l.drop (i + 1) := by
 obtain ⟨h1, h2⟩ := List.getElem?_eq_some_iff.1 h;rw [List.drop_eq_getElem_cons h1, h2]
theorem zuZ {l : List Nd} {i : Nat} {x : Nd} (h : l[i]? = some x) : vaI i (zhY x (fI i l) x.moves.length).1 l = zmx i l := by
 rw [vaI, zmx, zkm, zmx, zrN h, svs, zhY, List.take_length];rfl
theorem zvi {l : List Nd} {i : Nat} {x : Nd} (h : l[i]? = some x) : maI i (zhY x (fI i l) x.moves.length).2.1 l = zoD i l := by
 rw [maI, zoD, zkm, zoD, zrN h, svs, zhY, List.take_length];rfl
theorem zxZ {l : List Nd} (hg : zft l = true) (i : Nat) (t : Int) : -4503599627370496 <= fI i l t /\ fI i l t <= 4503599627370496 := by
 obtain ⟨_, h3, hn⟩ := (zdL l).1 hg;have h := zqh (l.drop (i + 1)) (i + 1) (fun x hx m hm => by
  obtain ⟨j, hj⟩ := List.getElem?_of_mem (List.mem_of_mem_drop hx);have h5 := hn j x hj;unfold znT at h5;have h6 := List.all_eq_true.1 (Bool.and_eq_true_iff.1 h5).2 m hm;unfold zmz at h6;simp at h6;omega)
 have hl : ((l.drop (i + 1)).length : Int) <= 3000 := by simp; omega
 rw [fI, List.getD_eq_getElem?_getD];cases hq : (svs (i + 1) (l.drop (i + 1)))[t.toNat - (i + 1)]? with
 | none => simp
 | some q =>
  have := h q (List.mem_of_getElem? hq);simp only [Option.getD_some];omega
end Go.Proofs.YtmlpcgkaonifcaaGreatDoor
namespace Go.Proofs.YtmlpcgkaonifcaaGreatDoor
open Go Go.VL
open Df (Con)
attribute [local simp] zbw zc2 zcq evPure opd uOf zay St.put St.at getK binD binI binS binB nilD aggD zfJ zge lookD lookR zcn rangeS Go.VL.nextD Go.VL.nextS zcr zgk zgh zfs zcv mkV zbi zaT zaS zaR zc0 zaP zba zbs mapEff zdE zfp Key.kk shiftI arith unD convD zdu loadD cellsAt fieldAddrD fieldD indexAddrD indexSlD arrAddr indexD sliceD cutD lenD minmaxD nilCheckD buildD fillD zb0 zc7 zeD setAll zcW zef zck zfv zcj St.add zaw zbB rowsOf zdg zcw zad zac zaa zbz zda za3 entry zbO zbT valD zcm zcB zfw zdb zdc zb4 zbP zam zaW zbj delAll effD St.effS zcF zaU zaH zcG zaV zaJ zbY zaI zaA zbZ zcD zbv zbX za9 zbV zbW zar mkD zcl zbG zbK zam zcu D.ids Op.operands Call.operands zbH makeIfD makeFuncD typeAssertD zgd zdm zdn zf8 zco IntKind.bits zct zaz List.take_of_length_le List.range_succ zcO zcf zcP zcK zbD zb6 zb8 zcL zca zbe zb9 zb7 zhc zce zcM zaZ zaL zcN za0 zaN zcd zaM zaF zcS zcT zha zab frzN frz1 zav zau St.frz St.frzS frzS fv za1 zbm zbn frzObS zat zan frz zbL zbq zbr zbN zb5 zcc za7 St.norm St.lp St.only zax wkE wkO wkU Ob.under D.under zaj zak zcQ zcg zcR h4s zea zaC zbC List.zipIdx_cons List.zipIdx_nil zzC zzD Nat.zero_add
attribute [local irreducible] V G H HD HD2 zbf Eff CallP CallV EndOK Fun Ret FinOK LoopI LoopW EndW HR vs2 RN Cnd H4
theorem zsc (b : By) : Fun Tryz.prog 10 [.u (.agg (zaE b))] (· = .u (Df.consU (zpR b))) := by
 have hri := zgp b;unfold zpR Df.consU;cases hb : zdh b with
 | false =>
  rw [hb] at hri;rw [if_neg (by simp)];unfold zaE at hri ⊢;refine Fun.runW Tryz.func10 Tryz.ntmps10 rfl (by simp) fun Γ hn => ?_
  repeat' (first
  | (refine zaf rfl ?_; simp)
  | (refine CallP.f2 rfl (hri) (by first | simp <;> rfl | fail) ?_; simp)
  | fail)
  refine EndW.norm (EndW.here ?_)
  (refine EndOK.val (.inr rfl) ?_; simp [Tryz.results10])
 | true =>
  obtain ⟨_, h1, _, _, h2, h3⟩ := zdF hb;rw [hb] at hri;rw [if_pos rfl];clear hb;unfold zaE at hri ⊢;refine Fun.runW Tryz.func10 Tryz.ntmps10 rfl (by simp) fun Γ hn => ?_
  repeat' (first
  | (refine zaf rfl ?_; simp)
  | (refine And.intro (by omega) ?_)
  | (refine CallP.f2 rfl (hri) (by first | simp <;> rfl | fail) ?_; simp)
  | fail)
  (refine EndW.frzN 1 ?_; simp [del])
  refine EndW.norm (EndW.here ?_)
  (refine EndOK.val (.inr rfl) ?_; simp [Tryz.results10])
end Go.Proofs.YtmlpcgkaonifcaaGreatDoor
namespace Go.Proofs.YtmlpcgkaonifcaaGreatDoor
open Go Go.VL
attribute [local simp] zbw zc2 zcq evPure opd uOf zay St.put St.at getK binD binI binS binB nilD aggD zfJ zge lookD lookR zcn rangeS Go.VL.nextD Go.VL.nextS zcr zgk zgh zfs zcv mkV zbi zaT zaS zaR zc0 zaP zba zbs mapEff zdE zfp Key.kk shiftI arith unD convD zdu loadD cellsAt fieldAddrD fieldD indexAddrD indexSlD arrAddr indexD sliceD cutD lenD minmaxD nilCheckD buildD fillD zb0 zc7 zeD setAll zcW zef zck zfv zcj St.add zaw zbB rowsOf zdg zcw zad zac zaa zbz zda za3 entry zbO zbT valD zcm zcB zfw zdb zdc zb4 zbP zam zaW zbj delAll effD St.effS zcF zaU zaH zcG zaV zaJ zbY zaI zaA zbZ zcD zbv zbX za9 zbV zbW zar mkD zcl zbG zbK zam zcu D.ids Op.operands Call.operands zbH makeIfD makeFuncD typeAssertD zgd zdm zdn zf8 zco IntKind.bits zct zaz List.take_of_length_le List.range_succ zcO zcf zcP zcK zbD zb6 zb8 zcL zca zbe zb9 zb7 zhc zce zcM zaZ zaL zcN za0 zaN zcd zaM zaF zcS zcT zha zab frzN frz1 zav zau St.frz St.frzS frzS fv za1 zbm zbn frzObS zat zan frz zbL zbq zbr zbN zb5 zcc za7 St.norm St.lp St.only zax wkE wkO wkU Ob.under D.under zaj zak zcQ zcg zcR h4s zea zaC zbC List.zipIdx_cons List.zipIdx_nil zzC zzD Nat.zero_add
attribute [local irreducible] V G H HD HD2 zbf Eff CallP CallV EndOK Fun Ret FinOK LoopI LoopW EndW HR vs2 RN Cnd H4
theorem zq7 (s : List UInt8) : Fun Tryz.prog 83 [.u (.str s)] (· = zjU (zpP s)) := by
 unfold zpP;by_cases hlong : 2000 < s.length
 ·have hlong2 : 2000 < (s.length : Int) := by omega
  rw [if_pos hlong];refine Fun.runW Tryz.func83 Tryz.ntmps83 rfl (by simp) fun Γ hn => ?_
  repeat' (first
  | (refine zaf rfl ?_; simp [hlong, hlong2])
  | fail)
  refine EndW.norm (EndW.here ?_)
  (refine EndOK.val (.inr rfl) ?_; simp [Tryz.results83])
  simp [zjU]
 rw [if_neg hlong];have hlong2 : ¬ 2000 < (s.length : Int) := by omega
 obtain ⟨R, hR⟩ : ∃ R, R = zq9 (s.length + 1) s 0 := ⟨_, rfl⟩;rw [<- hR];refine Fun.runW Tryz.func83 Tryz.ntmps83 rfl (by simp) fun Γ hn => ?_
 repeat' (first
  | (refine zaf rfl ?_; simp [hlong, hlong2])
  | fail)
 refine zkX _ (Wk.own 5 156 4 (by decide) rfl) ?_;simp [St.own];refine zbS (α := { x : List Tok × Nat × Nat // x.2.1 <= s.length /\ s.length < x.2.1 + x.2.2 /\ x.1.length <= x.2.1 /\ R = zoL x.1 (zq9 x.2.2 s x.2.1) }) [0] (fun x => [(5, .vec 0 x.1.1.length), (6, .u (.int .i64 x.1.2.1))]) (fun x => [(0, .vec 156 4 (zlb x.1.1))]) 1 (fun x => x.1.2.2) ⟨([], 0, s.length + 1), by simp, by simp, by simp, by rw [zqv, hR]⟩ ?_ ?_
 ·exact (Wk.zdw (by simp [hn, zlb] <;> grind))
 rintro ⟨⟨acc, p, f⟩, h1, h2, h3, h4⟩;simp only at h1 h2 h3 h4;simp;obtain ⟨f', rfl⟩ : ∃ f', f = f' + 1 := ⟨f - 1, by omega⟩;rw [zq9] at h4;have hsp := zgK (s.drop p) (by rw [List.length_drop]; omega) 113 zc1 (fun c _ => zse c) (by simp);have hle := zeG zc1 (s.drop p);rw [List.length_drop] at hle;obtain ⟨b, hb⟩ : ∃ b, b = zdt zc1 (s.drop p) := ⟨_, rfl⟩;rw [<- hb] at hsp hle h4;have hp1 : (p : Int) <= s.length := by omega
 have hpb : (p : Int) + b <= s.length := by omega
 rcases hd : s.drop (p + b) with _ | ⟨c, r⟩
 ·have hdl : (s.drop (p + b)).length = 0 := by rw [hd]; rfl
  rw [List.length_drop] at hdl;have hpe : p + b = s.length := by omega
  have hpe2 : (p : Int) + b = s.length := by omega
  rw [hd] at h4;simp only at h4;have hap : zlb acc ++ [[D.u (.int .i64 0), D.u (.str []), D.u (.int .i64 0), D.u (.int .i64 (s.length : Int))]] = zlb (acc ++ [⟨0, [], 0, s.length⟩]) := by simp [zlb]
  have hlr : zkW 4 (zlb acc) := fun r hr => by obtain ⟨t, _, rfl⟩ := List.mem_map.1 hr; rfl
  rw [hpe] at h4
  repeat' (first
  | (refine zaf rfl ?_; simp [h1, hp1, hpe2, zed, hap, hlr])
  | (refine And.intro (by omega) ?_)
  | (refine CallP.f2 rfl (hsp) (by first | simp [h1, hp1, hpe2, zed, hap, hlr] <;> rfl | fail) ?_; simp [h1, hp1, hpe2, zed, hap, hlr])
  | fail)
  (refine EndW.frzN 3 ?_; simp [del, znE, zed, List.length_append])
  refine EndW.norm (EndW.here ?_)
  (refine EndOK.val (.inr rfl) ?_; simp [Tryz.results83, znE, zed, List.length_append])
  rw [h4];simp [zoL, zjU]
 ·have hdl : (s.drop (p + b)).length = r.length + 1 := by rw [hd]; rfl
  rw [List.length_drop] at hdl;have hpe : ¬ p + b = s.length := by omega
  have hpe2 : ¬ (p : Int) + b = s.length := by omega
  have hnx := zta (s.drop (p + b)) (by rw [hd]; simp) (by rw [List.length_drop]; omega);unfold nextD at hnx;rw [hd] at h4;simp only at h4;rw [hd] at hnx;have hpb2 : ((p : Int) + b).toNat = p + b := by omega
  have hpb3 : p + b <= s.length := by omega
  cases hno : zjf (c :: r) with
  | error e =>
   rw [hno] at h4 hnx;have he : e ≠ 0 := by
    unfold zjf at hno;simp only at hno;split at hno
    ·split at hno <;> cases hno;omega
    ·split at hno
     ·split at hno <;> cases hno;omega
     ·split at hno <;> cases hno;omega
   repeat' (first
  | (refine zaf rfl ?_; simp [h1, hp1, hpe, hpe2, hd, he, hpb, hpb2, hpb3])
  | (refine And.intro (by omega) ?_)
  | ((first | refine CallP.f2 rfl (hsp) (by first | simp [h1, hp1, hpe, hpe2, hd, he, hpb, hpb2, hpb3] <;> rfl | fail) ?_ | refine CallP.f2 rfl (hnx) (by first | simp [h1, hp1, hpe, hpe2, hd, he, hpb, hpb2, hpb3] <;> rfl | fail) ?_ | fail); simp [h1, hp1, hpe, hpe2, hd, he, hpb, hpb2, hpb3])
  | fail)
   refine EndW.norm (EndW.here ?_)
   (refine EndOK.val (.inr rfl) ?_; simp [Tryz.results83])
   rw [h4];simp [zoL, zjU]
  | ok t =>
   rw [hno] at h4 hnx;obtain ⟨ht1, ht2⟩ := zhr hno;simp only [List.length_cons] at ht2;have hap : zlb acc ++ [[D.u (.int .i64 t.kind), D.u (.str t.text), D.u (.int .i64 t.n), D.u (.int .i64 ((p : Int) + b))]] = zlb (acc ++ [{ t with pos := ((p + b : Nat) : Int) }]) := by simp [zlb]
   have hlr : zkW 4 (zlb acc) := fun r hr => by obtain ⟨t, _, rfl⟩ := List.mem_map.1 hr; rfl
   repeat' (first
  | (refine zaf rfl ?_; simp [h1, hp1, hpe, hpe2, hd, hpb, hpb2, hpb3, zed, hap, hlr])
  | (refine And.intro (by omega) ?_)
  | ((first | refine CallP.f2 rfl (hsp) (by first | simp [h1, hp1, hpe, hpe2, hd, hpb, hpb2, hpb3, zed, hap, hlr] <;> rfl | fail) ?_ | refine CallP.f2 rfl (hnx) (by first | simp [h1, hp1, hpe, hpe2, hd, hpb, hpb2, hpb3, zed, hap, hlr] <;> rfl | fail) ?_ | fail); simp [h1, hp1, hpe, hpe2, hd, hpb, hpb2, hpb3, zed, hap, hlr])
  | fail)
   refine LoopW.next ⟨(acc ++ [{ t with pos := ((p + b : Nat) : Int) }], p + b + t.text.length, f'), by simp; omega, by simp; omega, by simp; omega, ?_⟩ (by simp) ?_
   ·rw [h4];simp only;cases zq9 f' s (p + b + t.text.length) <;> simp [zoL]
   ·skip
    exact (Wk.ren ((fun i => if i = 0 then 3 else i)) rfl (by first | (simp [hn]; done) | (intro i hi; rw [hn] at hi; constructor <;> (try simp) <;> (try (intro _)) <;> omega)) (by simp [zhQ, St.lp, zax, zaa, getK, zac, zad, D.under, D.le, D.ren, ziq, zhg] <;> (try (intros; simp_all; done)) <;> (try omega)) (by simp [wkR, St.lp, zaa, getK, zac, zad, obR, leU, zch, za2, Ob.under, D.under, D.le, D.ren, ziq, zhg] <;> (try (intros; simp_all; done)) <;> (try omega)) (by simp [ziq, zhg]))
abbrev zxc (o : Opr) : D := .u (.agg [.str o.text, .int .i64 o.op, .int .i64 o.form])
abbrev zqH (l : List Opr) : U := .sl (l.map fun o => [.str o.text, .int .i64 o.op, .int .i64 o.form])
theorem zks : Fun Tryz.prog 138 [] (· = .u (zqH oprs)) := by
 unfold zqH oprs;refine Fun.runW Tryz.func138 Tryz.ntmps138 rfl (by simp) fun Γ hn => ?_
 repeat' (first
  | (refine zaf rfl ?_; simp [zbT, zbO])
  | fail)
 (refine EndW.frzN 1 ?_; simp [del])
 refine EndW.here ?_
 (refine EndOK.val (.inr rfl) ?_; simp [Tryz.results138])
theorem ztI (l : List Tok) (q : Nat) (o : Opr) (hq : q < l.length) (hl : l.length <= 1000000) : Fun Tryz.prog 139 (zxc o :: [U.row [zuw l q] 0].map .u) (· = .u (.bool (isB l q o.text))) := by
 have h1 := zfr l q o.text hq hl;simp only [zzC, zzD, zxc];refine Fun.run Tryz.func139 Tryz.ntmps139 Tryz.results139 rfl (by simp) fun Γ hn => ?_
 repeat' (first
  | (refine zaf rfl ?_; simp)
  | (refine CallP.f2 rfl (h1) (by first | simp <;> rfl | fail) ?_; simp)
  | fail)
 (refine Pst.of ?_; simp)
theorem zpc (l : List (Opr)) (f : FuncId) (caps : List U) (p : Opr -> Bool) (hf : ∀ n ∈ l, Fun Tryz.prog f (zxc n :: caps.map .u) (· = .u (.bool (p n)))) (hcl : zae Tryz.prog f = true)
  (hca : ∀ o, zcB o (caps.map .u) = some (caps.map .u, [])) : Fun Tryz.prog 137 [.u (zqH l), .fnc (.func f) (caps.map .u)] (· = .u (.int .i64 (zgc p l 0))) := by
 refine Fun.run Tryz.func137 Tryz.ntmps137 Tryz.results137 rfl (by simp) fun Γ hn => ?_; simp only [zzE, zzC, zzD];simp only [zqH];refine zhK (x := 0) rfl fun hl => ?_;simp at hl
 repeat' (first
  | (refine zaf rfl ?_; simp)
  | fail)
 refine zdd (α := { i : Nat // i <= l.length /\ ∀ c ∈ l.take i, p c = false }) [0, 1, 7] (fun i => [(8, .u (.int .i64 i.1))]) (fun i => l.length - i.1) ⟨0, by omega, by simp⟩ ?_ ?_
 ·exact (Wk.env rfl rfl rfl (by simp [wkE, St.lp, zax, zaa, getK] <;> (try (intros; simp_all; done)) <;> (try (intros; omega)) <;> (try grind)))
 rintro ⟨i, hi, hb⟩;simp;rcases hx : l[i]? with _ | n
 ·have hge : l.length <= i := by simpa using hx
  repeat' (first
  | (refine Cnd.of (fun hc => ?_) (fun hc => ?_) <;> (try (exfalso; omega)) <;> (try simp [hx]))
  | (refine zaf rfl ?_; simp [hx])
  | fail)
  (refine Pst.of ?_; simp)
  rw [List.take_of_length_le hge] at hb;exact (zeq hb).symm
 ·have hlt : i < l.length := (List.getElem?_eq_some_iff.1 hx).1;have h1 := hf n (List.mem_of_getElem? hx);simp only [zxc] at h1;cases hp : p n
  ·rw [hp] at h1
   repeat' (first
  | (refine Cnd.of (fun hc => ?_) (fun hc => ?_) <;> (try (exfalso; omega)) <;> (try simp [hx, hca]))
  | (refine zaf rfl ?_; simp [hx, hca])
  | (refine And.intro (by omega) ?_)
  | (refine CallP.f2 rfl (h1) (by first | simp [hx, hca] <;> rfl | fail) ?_; simp [hx, hca])
  | fail)
   refine LoopW.next ⟨i + 1, by omega, zbh hx hb hp⟩ (by simp; omega) ?_
   exact (Wk.env rfl rfl rfl (by simp [wkE, St.lp, zax, zaa, getK] <;> (try (intros; simp_all; done)) <;> (try (intros; omega)) <;> (try grind)))
  ·rw [hp] at h1
   repeat' (first
  | (refine Cnd.of (fun hc => ?_) (fun hc => ?_) <;> (try (exfalso; omega)) <;> (try simp [hx, hca]))
  | (refine zaf rfl ?_; simp [hx, hca])
  | (refine And.intro (by omega) ?_)
  | (refine CallP.f2 rfl (h1) (by first | simp [hx, hca] <;> rfl | fail) ?_; simp [hx, hca])
  | fail)
   (refine Pst.of ?_; simp)
   rw [zgx hb hx hp];omega
theorem ziM {p : Opr -> Bool} : ∀ (L : List Opr) (k : Int), (L.find? p = none -> zgc p L k = -1) /\ ∀ x, L.find? p = some x -> ∃ j : Nat, L[j]? = some x /\ zgc p L k = k + j
 | [], k => ⟨fun _ => rfl, fun x h => by simp at h⟩
 | a :: L, k => by
  by_cases h : p a = true
  ·refine ⟨fun h1 => by simp [h] at h1, fun x h1 => ?_⟩;rw [List.find?_cons, h] at h1;cases h1;exact ⟨0, rfl, by rw [zgc, if_pos h]; simp⟩
  ·have h' : p a = false := by simpa using h
   obtain ⟨h1, h2⟩ := ziM L (k + 1);refine ⟨fun h3 => ?_, fun x h3 => ?_⟩
   ·rw [List.find?_cons, h'] at h3;rw [zgc, if_neg h];exact h1 h3
   ·rw [List.find?_cons, h'] at h3;obtain ⟨j, h4, h5⟩ := h2 x h3;exact ⟨j + 1, h4, by rw [zgc, if_neg h, h5]; omega⟩
theorem zpb (l : List Tok) (q : Nat) (hq : q < l.length) (hl : l.length <= 1000000) : Fun Tryz.prog 137 [.u (zqH oprs), .fnc (.func 139) [.u (.row [zuw l q] 0)]]
  (· = .u (.int .i64 (zgc (fun o => isB l q o.text) oprs 0))) :=
 zpc oprs 139 [U.row [zuw l q] 0] (fun o => isB l q o.text) (fun o _ => ztI l q o hq hl) rfl (fun o => rfl)
end Go.Proofs.YtmlpcgkaonifcaaGreatDoor
namespace Go.Proofs.YtmlpcgkaonifcaaGreatDoor
open Go Go.VL
attribute [local simp] HS zbw zc2 zcq evPure opd uOf zay St.put St.at getK binD binI binS binB nilD aggD zfJ zge lookD lookR zcn rangeS Go.VL.nextD Go.VL.nextS zcr zgk zgh zfs zcv mkV zbi zaT zaS zaR zc0 zaP zba zbs mapEff zdE zfp Key.kk shiftI arith unD convD zdu loadD cellsAt fieldAddrD fieldD indexAddrD indexSlD arrAddr indexD sliceD cutD lenD minmaxD nilCheckD buildD fillD zb0 zc7 zeD setAll zcW zef zck zfv zcj St.add zaw zbB rowsOf zdg zcw zad zac zaa zbz zda za3 entry zbO zbT valD zcm zcB zfw zdb zdc zb4 zbP zam zaW zbj delAll effD St.effS zcF zaU zaH zcG zaV zaJ zbY zaI zaA zbZ zcD zbv zbX za9 zbV zbW zar mkD zcl zbG zbK zam zcu D.ids Op.operands Call.operands zbH makeIfD makeFuncD typeAssertD zgd zdm zdn zf8 zco IntKind.bits zct zaz List.take_of_length_le List.range_succ zcO zcf zcP zcK zbD zb6 zb8 zcL zca zbe zb9 zb7 zhc zce zcM zaZ zaL zcN za0 zaN zcd zaM zaF zcS zcT zha zab frzN frz1 zav zau St.frz St.frzS frzS fv za1 zbm zbn frzObS zat zan frz zbL zbq zbr zbN zb5 zcc za7 St.norm St.lp St.only zax wkE wkO wkU Ob.under D.under zaj zak zcQ zcg zcR h4s zea zaC zbC List.zipIdx_cons List.zipIdx_nil zzC zzD Nat.zero_add
attribute [local irreducible] V G H HD HD2 HD4 zhd RetX zbf Eff CallP CallV EndOK Fun Ret FinOK LoopI LoopW EndW HR vs2 RN Cnd H4
open Df in
theorem zqj (l : List Nd) (hg : zft l = true) : RetX Tryz.prog 45 [.u (zcE l)] [] 1 fun r o n => r = .val (.tup [.vec 1 l.length, .vec 3 l.length]) /\ o = [(1, .vec 3 1 (intR (zfy l))), (3, .vec 3 1 (intR (zgj l)))] /\ n = 4 := by
 obtain ⟨hl0, hl3, hnd⟩ := (zdL l).1 hg;simp only [zcE];refine RetX.runW Tryz.func45 Tryz.ntmps45 rfl (by simp) fun Γ hn hpan => ?_; simp only [zzE, zzC, zzD];have k0 : intR [-1] = [[D.u (.int .i64 (-1))]] := rfl
 repeat' (first
  | (refine zmt [(2, .vec 3 1 (intR [-1]))] ⟨[], some (.vec 3 1 (intR (List.replicate l.length (-1)))), .vec l.length⟩ (.vec 3 1 (intR (List.replicate l.length (-1)))) (fun nx' h' => znL 2 nx' l.length (-1) (by omega)) ⟨rfl, rfl⟩ (by rfl) (by first | assumption | (simp; done) | fail) (by rfl) (by first | (simp [k0, zai, zaa, getK, zab, zac, zad, zar, del]; done) | fail) (by first | (simp [k0, zai, D.under, Ob.under, zaj]; done) | fail) (by simp) ?_; (try simp [k0, zai]))
  | (refine zaf rfl ?_; simp [k0, zai])
  | (refine And.intro (by omega) ?_)
  | (refine ⟨hC _ (by kernel_rfl), hk _ (zdH 8 _ _ _ ?_)⟩; clear hC hk C k; simp [k0, zai])
  | (refine zdx rfl (by kernel_rfl) (by first | (simp [hn] <;> omega) | fail) fun C k hC hk => ?_; simp [k0, zai])
  | (refine zcA rfl ?_; simp [k0, zai])
  | fail)
 refine zbS (α := { j : Nat // j <= l.length }) [0, 4, 5] (fun j => [(6, .u (.int .i64 ((j.1 : Int) - 1)))]) (fun j => [(1, .vec 3 1 (intR (zmx j.1 l))), (3, .vec 3 1 (intR (zoD j.1 l)))]) 4 (fun j => j.1) ⟨l.length, Nat.le_refl _⟩ ?_ ?_
 ·have q1 := zs0 l;have q2 := zs1 l;have q3 := zkC l.length 0;exact (Wk.zdw (by simp [hn, zal, zai, q1, q2, q3] <;> grind))
 rintro ⟨j, hj⟩;simp;rcases j with _ | i
 ·have q1 := zqm l;have q2 := zqn l;have q3 := znH (Nat.zero_le l.length);have q4 := znI (Nat.zero_le l.length)
  repeat' (first
  | (refine zaf rfl ?_; simp)
  | fail)
  (refine EndW.h Tryz.results45 ?_; simp)
  all_goals simp [q1, q2, q3, q4, zag]
 have hi : i < l.length := by omega
 obtain ⟨x, hx⟩ : ∃ x, l[i]? = some x := ⟨_, List.getElem?_eq_getElem hi⟩;have hok := hnd i x hx;obtain ⟨h8, hmv⟩ : x.moves.length <= 8 /\ ∀ m ∈ x.moves, zmz i l.length m = true := by unfold znT at hok; simpa using hok
 have e1 : (((i + 1 : Nat) : Int)) - 1 = i := by omega
 have f1 := zsQ i l;have f2 := ztd i l;have f3 := zuZ hx;have f4 := zvi hx;have f5 := zmj x (fI i l);have f6 := zxZ hg i;have f7 := fun (m : Mv) k (h : x.moves[k]? = some m) => zj7 h (fI i l);have f0 : zhY x (fI i l) 0 = (0, -1, 0) := rfl
 repeat' (first
  | (refine zaf rfl ?_; simp [hx, e1])
  | fail)
 refine zbS (α := { k : Nat // k <= x.moves.length }) [0, 4, 5, 6, 28, 29] (fun k => [(30, .u (.int .i64 k.1))]) (fun k => [(1, .vec 3 1 (intR (vaI i (zhY x (fI i l) k.1).1 l))), (3, .vec 3 1 (intR (maI i (zhY x (fI i l) k.1).2.1 l)))]) 4 (fun k => x.moves.length - k.1) ⟨0, by omega⟩ ?_ ?_
 ·exact (Wk.zdw (by simp [hn, zal, zai, f0, f1, f2] <;> grind))
 rintro ⟨k, hk⟩;simp;rcases hm : x.moves[k]? with _ | m
 ·have hge : x.moves.length <= k := by simpa using hm
  obtain rfl : k = x.moves.length := by omega
  repeat' (first
  | (refine zaf rfl ?_; simp [hm])
  | (refine And.intro (by omega) ?_)
  | fail)
  refine LoopW.next ⟨i, by omega⟩ (by simp) ?_
  exact (Wk.zdw (by simp [hn, zal, zai, f3, f4] <;> grind))
 have hmo := hmv m (List.mem_of_getElem? hm);have f8 := f7 m k hm;obtain ⟨t, g⟩ := m;unfold zmz at hmo;simp at hmo;obtain ⟨⟨⟨h1, h2⟩, h3⟩, h4⟩ := hmo;obtain ⟨T, rfl⟩ := Int.eq_ofNat_of_zero_le (show 0 <= t by omega);have hk2 := f5 k hk;have f9 := f6 T;have hiT : i < T := by omega
 have hTl : T < l.length := by omega
 have hneT : ¬ i = T := by omega
 simp only [zjp] at f8;generalize zhY x (fI i l) k = s at *;obtain ⟨v, c, k'⟩ := s;simp only at hk2 f8 ⊢;subst hk2;have g1 := fun h => zuY (v := v) (l := l) hiT h;have g2 := fun h => zsR i v l h;have g3 := zuX (v := v) hi;have g4 := zvh (v := c) hi;have g5 := fun w => zuW i v w l;have g6 := fun w => zvg i c w l;have hkl : k' < x.moves.length := (List.getElem?_eq_some_iff.1 hm).1;generalize fI i l (T : Int) = F at *;have hne : ¬ x.moves = [] := fun h => by simp [h] at hkl
 have hxe := (List.getElem?_eq_some_iff.1 hx).2;by_cases c0 : k' = 0
 ·subst c0;simp only [if_pos, true_or] at f8
  repeat' (first
  | (refine Cnd.of (fun hc => ?_) (fun hc => ?_) <;> (try (exfalso; omega)) <;> (try simp [hx, hxe, hm, hne, zag, zah, zap, g1, g2, g3, g4, g5, g6, hTl, hi, hneT]))
  | (refine zaf rfl ?_; simp [hx, hxe, hm, hne, zag, zah, zap, g1, g2, g3, g4, g5, g6, hTl, hi, hneT])
  | (refine And.intro (by omega) ?_)
  | (refine ⟨hC _ (by kernel_rfl), hk _ (zdH 8 _ _ _ ?_)⟩; clear hC hk C k; simp [hx, hxe, hm, hne, zag, zah, zap, g1, g2, g3, g4, g5, g6, hTl, hi, hneT])
  | (refine zdx rfl (by kernel_rfl) (by first | (simp [hn] <;> omega) | fail) fun C k hC hk => ?_; simp [hx, hxe, hm, hne, zag, zah, zap, g1, g2, g3, g4, g5, g6, hTl, hi, hneT])
  | fail)
  refine LoopW.next ⟨0 + 1, by omega⟩ (by simp; omega) ?_
  exact (Wk.zdw (by simp [hn, zal, zai, f8] <;> grind))
 cases hmi : x.mine with
 | true =>
  simp only [hmi] at f8;by_cases hlt : v < g + F
  ·rw [if_pos (by simp [hlt])] at f8
   repeat' (first
  | (refine Cnd.of (fun hc => ?_) (fun hc => ?_) <;> (try (exfalso; omega)) <;> (try simp [hx, hxe, hm, hne, hmi, c0, hlt, zag, zah, zap, g1, g2, g3, g4, g5, g6, hTl, hi, hneT]))
  | (refine zaf rfl ?_; simp [hx, hxe, hm, hne, hmi, c0, hlt, zag, zah, zap, g1, g2, g3, g4, g5, g6, hTl, hi, hneT])
  | (refine And.intro (by omega) ?_)
  | (refine ⟨hC _ (by kernel_rfl), hk _ (zdH 8 _ _ _ ?_)⟩; clear hC hk C k; simp [hx, hxe, hm, hne, hmi, c0, hlt, zag, zah, zap, g1, g2, g3, g4, g5, g6, hTl, hi, hneT])
  | (refine zdx rfl (by kernel_rfl) (by first | (simp [hn] <;> omega) | fail) fun C k hC hk => ?_; simp [hx, hxe, hm, hne, hmi, c0, hlt, zag, zah, zap, g1, g2, g3, g4, g5, g6, hTl, hi, hneT])
  | fail)
   refine LoopW.next ⟨k' + 1, by omega⟩ (by simp; omega) ?_
   exact (Wk.zdw (by simp [hn, zal, zai, f8] <;> grind))
  ·rw [if_neg (by simp [c0, hlt])] at f8
   repeat' (first
  | (refine Cnd.of (fun hc => ?_) (fun hc => ?_) <;> (try (exfalso; omega)) <;> (try simp [hx, hxe, hm, hne, hmi, c0, hlt, zag, zah, zap, g1, g2, g3, g4, g5, g6, hTl, hi, hneT]))
  | (refine zaf rfl ?_; simp [hx, hxe, hm, hne, hmi, c0, hlt, zag, zah, zap, g1, g2, g3, g4, g5, g6, hTl, hi, hneT])
  | (refine And.intro (by omega) ?_)
  | (refine ⟨hC _ (by kernel_rfl), hk _ (zdH 8 _ _ _ ?_)⟩; clear hC hk C k; simp [hx, hxe, hm, hne, hmi, c0, hlt, zag, zah, zap, g1, g2, g3, g4, g5, g6, hTl, hi, hneT])
  | (refine zdx rfl (by kernel_rfl) (by first | (simp [hn] <;> omega) | fail) fun C k hC hk => ?_; simp [hx, hxe, hm, hne, hmi, c0, hlt, zag, zah, zap, g1, g2, g3, g4, g5, g6, hTl, hi, hneT])
  | fail)
   refine LoopW.next ⟨k' + 1, by omega⟩ (by simp; omega) ?_
   exact (Wk.zdw (by simp [hn, zal, zai, f8] <;> grind))
 | false =>
  simp only [hmi] at f8;by_cases hlt : g + F < v
  ·rw [if_pos (by simp [hlt])] at f8
   repeat' (first
  | (refine Cnd.of (fun hc => ?_) (fun hc => ?_) <;> (try (exfalso; omega)) <;> (try simp [hx, hxe, hm, hne, hmi, c0, hlt, zag, zah, zap, g1, g2, g3, g4, g5, g6, hTl, hi, hneT]))
  | (refine zaf rfl ?_; simp [hx, hxe, hm, hne, hmi, c0, hlt, zag, zah, zap, g1, g2, g3, g4, g5, g6, hTl, hi, hneT])
  | (refine And.intro (by omega) ?_)
  | (refine ⟨hC _ (by kernel_rfl), hk _ (zdH 8 _ _ _ ?_)⟩; clear hC hk C k; simp [hx, hxe, hm, hne, hmi, c0, hlt, zag, zah, zap, g1, g2, g3, g4, g5, g6, hTl, hi, hneT])
  | (refine zdx rfl (by kernel_rfl) (by first | (simp [hn] <;> omega) | fail) fun C k hC hk => ?_; simp [hx, hxe, hm, hne, hmi, c0, hlt, zag, zah, zap, g1, g2, g3, g4, g5, g6, hTl, hi, hneT])
  | fail)
   refine LoopW.next ⟨k' + 1, by omega⟩ (by simp; omega) ?_
   exact (Wk.zdw (by simp [hn, zal, zai, f8] <;> grind))
  ·rw [if_neg (by simp [c0, hlt])] at f8
   repeat' (first
  | (refine Cnd.of (fun hc => ?_) (fun hc => ?_) <;> (try (exfalso; omega)) <;> (try simp [hx, hxe, hm, hne, hmi, c0, hlt, zag, zah, zap, g1, g2, g3, g4, g5, g6, hTl, hi, hneT]))
  | (refine zaf rfl ?_; simp [hx, hxe, hm, hne, hmi, c0, hlt, zag, zah, zap, g1, g2, g3, g4, g5, g6, hTl, hi, hneT])
  | (refine And.intro (by omega) ?_)
  | (refine ⟨hC _ (by kernel_rfl), hk _ (zdH 8 _ _ _ ?_)⟩; clear hC hk C k; simp [hx, hxe, hm, hne, hmi, c0, hlt, zag, zah, zap, g1, g2, g3, g4, g5, g6, hTl, hi, hneT])
  | (refine zdx rfl (by kernel_rfl) (by first | (simp [hn] <;> omega) | fail) fun C k hC hk => ?_; simp [hx, hxe, hm, hne, hmi, c0, hlt, zag, zah, zap, g1, g2, g3, g4, g5, g6, hTl, hi, hneT])
  | fail)
   refine LoopW.next ⟨k' + 1, by omega⟩ (by simp; omega) ?_
   exact (Wk.zdw (by simp [hn, zal, zai, f8] <;> grind))
end Go.Proofs.YtmlpcgkaonifcaaGreatDoor
namespace Go.Proofs.YtmlpcgkaonifcaaGreatDoor
open Go Go.VL
attribute [local simp] HS zbw zc2 zcq evPure opd uOf zay St.put St.at getK binD binI binS binB nilD aggD zfJ zge lookD lookR zcn rangeS Go.VL.nextD Go.VL.nextS zcr zgk zgh zfs zcv mkV zbi zaT zaS zaR zc0 zaP zba zbs mapEff zdE zfp Key.kk shiftI arith unD convD zdu loadD cellsAt fieldAddrD fieldD indexAddrD indexSlD arrAddr indexD sliceD cutD lenD minmaxD nilCheckD buildD fillD zb0 zc7 zeD setAll zcW zef zck zfv zcj St.add zaw zbB rowsOf zdg zcw zad zac zaa zbz zda za3 entry zbO zbT valD zcm zcB zfw zdb zdc zb4 zbP zam zaW zbj delAll effD St.effS zcF zaU zaH zcG zaV zaJ zbY zaI zaA zbZ zcD zbv zbX za9 zbV zbW zar mkD zcl zbG zbK zam zcu D.ids Op.operands Call.operands zbH makeIfD makeFuncD typeAssertD zgd zdm zdn zf8 zco IntKind.bits zct zaz List.take_of_length_le List.range_succ zcO zcf zcP zcK zbD zb6 zb8 zcL zca zbe zb9 zb7 zhc zce zcM zaZ zaL zcN za0 zaN zcd zaM zaF zcS zcT zha zab frzN frz1 zav zau St.frz St.frzS frzS fv za1 zbm zbn frzObS zat zan frz zbL zbq zbr zbN zb5 zcc za7 St.norm St.lp St.only zax wkE wkO wkU Ob.under D.under zaj zak zcQ zcg zcR h4s zea zaC zbC List.zipIdx_cons List.zipIdx_nil zzC zzD Nat.zero_add
attribute [local irreducible] V G H HD HD2 HD4 zhd RetX zbf Eff CallP CallV EndOK Fun Ret FinOK LoopI LoopW EndW HR vs2 RN Cnd H4
open Df in
theorem zvq (l : List Nd) (ms : List Int) (mine : Bool) (hm : ms.length = l.length) (hl : l.length <= 3000) : RetX Tryz.prog 46 [.u (zcE l), .vec 3 l.length, .u (.bool mine)] [(3, .vec 3 1 (intR ms))] 4 fun r o n => r = .val (.vec 3 l.length) /\ o = [(3, .vec 3 1 (intR (ofP l ms mine)))] /\ n = 4 := by
 simp only [zcE];have k0 := zqJ mine;refine RetX.runW Tryz.func46 Tryz.ntmps46 rfl (by simp) fun Γ hn hpan => ?_
 repeat' (first
  | (refine zaf rfl ?_; simp [zag, hm])
  | fail)
 refine zbS (α := { k : Nat // k <= l.length }) [1, 2, 9, 10] (fun k => [(11, .u (.int .i64 k.1))]) (fun k => [(3, .vec 3 1 (intR (ofK mine k.1 l ms)))]) 4 (fun k => l.length - k.1) ⟨0, by omega⟩ ?_ ?_
 ·exact (Wk.zdw (by simp [hn, zal, zai, ofK] <;> grind))
 rintro ⟨k, hk⟩;simp;rcases hx : l[k]? with _ | x
 ·have hge : l.length <= k := by simpa using hx
  obtain rfl : k = l.length := by omega
  have k1 := zqK mine l ms hm
  repeat' (first
  | (refine zaf rfl ?_; simp [hx])
  | fail)
  (refine EndW.h Tryz.results46 ?_; simp)
  all_goals simp [k1]
 ·have hlt : k < l.length := (List.getElem?_eq_some_iff.1 hx).1;have k1 := znR mine k l ms x hx hm;have k2 := k0 k l ms;have hxe := (List.getElem?_eq_some_iff.1 hx).2;by_cases he : x.mine = mine
  ·rw [if_pos he] at k1
   repeat' (first
  | (refine zaf rfl ?_; simp [hx, hxe, he, zag, zah, zap, k2, hm, hlt])
  | (refine And.intro (by omega) ?_)
  | fail)
   refine LoopW.next ⟨k + 1, by omega⟩ (by simp; omega) ?_
   exact (Wk.zdw (by simp [hn, zal, zai, k1] <;> grind))
  ·rw [if_neg he] at k1
   repeat' (first
  | (refine zaf rfl ?_; simp [hx, hxe, he, zag, zah, zap, k2, hm, hlt])
  | (refine And.intro (by omega) ?_)
  | fail)
   refine LoopW.next ⟨k + 1, by omega⟩ (by simp; omega) ?_
   exact (Wk.zdw (by simp [hn, zal, zai, k1] <;> grind))
theorem zh7 (S : D -> Option U) (l : List Int) : (intR l).map (fun r => r.map (frzS S)) = intR l := by simp [intR, frzS]
open Df in
theorem zpj (l : List Nd) (hg : zft l = true) : Fun Tryz.prog 23 [.u (zcE l)] (· = .tup [.u (.agg [ints (zfy l), ints (ofP l (zgj l) false)]), .u (.int .i64 0)]) := by
 have h0 := zjX l;rw [hg] at h0;have h1 := zqj l hg;have hl3 := ((zdL l).1 hg).2.1;have h2 := zvq l (zgj l) false (zjO l) hl3;have e1 := zk3 l;have e2 := zva (zjO l) false;simp only [zcE] at h0 h1 h2 ⊢;refine Fun.runW Tryz.func23 Tryz.ntmps23 rfl (by simp) fun Γ hn => ?_
 repeat' (first
  | (refine zaf rfl ?_; simp [e1, e2])
  | (refine CallP.f2 rfl (h0) (by first | simp [e1, e2] <;> rfl | fail) ?_; simp [e1, e2])
  | (refine CallP.okL (h1) (by first | (simp [e1, e2, zaa, getK, zab, zac, zad, zar, del]; done) | fail) (by rfl) (by first | assumption | (simp; done) | fail) (by rfl) (by simp) ?_; (try simp [e1, e2, zcZ, del]))
  | (refine CallP.okL (h2) (by first | (simp [e1, e2, zaa, getK, zab, zac, zad, zar, del]; done) | fail) (by rfl) (by first | assumption | (simp; done) | fail) (by rfl) (by simp) ?_; (try simp [e1, e2, zcZ, del]))
  | fail)
 (refine EndW.frzN 4 ?_; simp [del, zh7, zbF, zag, e1, e2])
 refine EndW.norm (EndW.here ?_)
 (refine EndOK.val (.inr rfl) ?_; simp [Tryz.results23, zbF, zag, e1, e2])
 all_goals simp [ints, Go.VL.intR]
end Go.Proofs.YtmlpcgkaonifcaaGreatDoor
namespace Go.Proofs.YtmlpcgkaonifcaaGreatDoor
open Go Go.VL
attribute [local simp] HS zbw zc2 zcq evPure opd uOf zay St.put St.at getK binD binI binS binB nilD aggD zfJ zge lookD lookR zcn rangeS Go.VL.nextD Go.VL.nextS zcr zgk zgh zfs zcv mkV zbi zaT zaS zaR zc0 zaP zba zbs mapEff zdE zfp Key.kk shiftI arith unD convD zdu loadD cellsAt fieldAddrD fieldD indexAddrD indexSlD arrAddr indexD sliceD cutD lenD minmaxD nilCheckD buildD fillD zb0 zc7 zeD setAll zcW zef zck zfv zcj St.add zaw zbB rowsOf zdg zcw zad zac zaa zbz zda za3 entry zbO zbT valD zcm zcB zfw zdb zdc zb4 zbP zam zaW zbj delAll effD St.effS zcF zaU zaH zcG zaV zaJ zbY zaI zaA zbZ zcD zbv zbX za9 zbV zbW zar mkD zcl zbG zbK zam zcu D.ids Op.operands Call.operands zbH makeIfD makeFuncD typeAssertD zgd zdm zdn zf8 zco IntKind.bits zct zaz List.take_of_length_le List.range_succ zcO zcf zcP zcK zbD zb6 zb8 zcL zca zbe zb9 zb7 zhc zce zcM zaZ zaL zcN za0 zaN zcd zaM zaF zcS zcT zha zab frzN frz1 zav zau St.frz St.frzS frzS fv za1 zbm zbn frzObS zat zan frz zbL zbq zbr zbN zb5 zcc za7 St.norm St.lp St.only zax wkE wkO wkU Ob.under D.under zaj zak zcQ zcg zcR h4s zea zaC zbC List.zipIdx_cons List.zipIdx_nil zzC zzD Nat.zero_add
attribute [local irreducible] V G H HD HD2 HD4 zhd RetX zbf Eff CallP CallV EndOK Fun Ret FinOK LoopI LoopW EndW HR vs2 RN Cnd H4
open Df in
theorem zrC (b : By) (n : Int) (k p : Nat) (hr : zdh b = true) (hn : 1 <= n /\ n <= 60) (hk : k <= 7 /\ (k : Int) <= n) (hp : p < 1000) : Fun Tryz.prog 67 [.u (zgf b n k), .u (.int .i64 p)] (· = .tup [.u (ints (zes b n k p).1), .u (.int .i64 (zes b n k p).2)]) := by
 obtain ⟨hlast, hper, hfund, _⟩ := zdF hr;have hc1 := zg1 zlH n;have hc2 := zg1 zsA p;have hc3 := zg1 zxd b.last;have hd1 : Fun Tryz.prog 19 [.u (zgf b n k), .u (.str zqp), .u (zdS [⟨zlH, 1, n⟩, ⟨zsA, 1, p⟩, ⟨zxd, 1, b.last⟩, ⟨zve, 2, p * b.period⟩])] (· = .tup [.u (.int .i64 (ztO b n p).1), .u (.int .i64 (ztO b n p).2)]) := zh1 b n k zqp _;have hd2 : 0 <= (ztO b n p).1 /\ (ztO b n p).1 <= 1099511627776 := zk4 b zqp _;have hpp := zen (x := (p : Int)) (y := b.period) (B := 1000) (C := 1000) (by omega) (by omega) (by omega);unfold zes;generalize ztO b n p = DU at *;obtain ⟨due, e⟩ := DU;simp only at hd2 hd1 ⊢;simp only [zgf, zut, zdS, zaE, zlH, zsA, zxd, zve, zqp, List.cons_append, List.nil_append, zzC, zzD] at hc1 hc2 hc3 hd1 ⊢;have q3 := zkC (k + 1) 0;by_cases hki : b.kind = 2
 ·rw [if_pos hki];refine Fun.runW Tryz.func67 Tryz.ntmps67 rfl (by simp) fun Γ hn => ?_
  repeat' (first
  | (refine zaf rfl ?_; simp [hki, hk, q3])
  | (refine And.intro (by omega) ?_)
  | fail)
  (refine EndW.frzN 1 ?_; simp [del, zh7, zbF, zag, q3])
  refine EndW.norm (EndW.here ?_)
  (refine EndOK.val (.inr rfl) ?_; simp [Tryz.results67, zbF, zag])
  all_goals simp [ints, Go.VL.intR]
 rw [if_neg hki];by_cases he : e = 0
 rotate_left
 ·rw [if_pos he];refine Fun.runW Tryz.func67 Tryz.ntmps67 rfl (by simp) fun Γ hn => ?_
  repeat' (first
  | (refine zaf rfl ?_; simp [hki, hk, he, q3])
  | (refine And.intro (by omega) ?_)
  | (refine ⟨hC _ (by kernel_rfl), hk _ (zdH 8 _ _ _ ?_)⟩; clear hC hk C k; simp [hki, hk, he, q3])
  | (refine zdx rfl (by kernel_rfl) (by first | (simp [hn] <;> omega) | fail) fun C k hC hk => ?_; simp [hki, hk, he, q3])
  | (refine zcA rfl ?_; simp [hki, hk, he, q3])
  | (refine zbQ rfl ?_; simp [hki, hk, he, q3])
  | ((first | refine CallV.f2 rfl (hc1) (by first | simp [hki, hk, he, q3] <;> rfl | fail) ?_ | refine CallV.f2 rfl (hc2) (by first | simp [hki, hk, he, q3] <;> rfl | fail) ?_ | refine CallV.f2 rfl (hc3) (by first | simp [hki, hk, he, q3] <;> rfl | fail) ?_ | refine CallV.f2 rfl (hd1) (by first | simp [hki, hk, he, q3] <;> rfl | fail) ?_ | fail); simp [hki, hk, he, q3])
  | fail)
  refine EndW.norm (EndW.here ?_)
  (refine EndOK.val (.inr rfl) ?_; simp [Tryz.results67, zbF, zag])
  all_goals simp [ints]
 rw [if_neg (by simp [he])];have hnd := zen (x := n) (y := due) (B := 1099511627776) (C := 60) (by omega) (by omega) (by omega);by_cases hr3 : 1099511627776 < n * due
 ·rw [if_pos hr3];refine Fun.runW Tryz.func67 Tryz.ntmps67 rfl (by simp) fun Γ hn => ?_
  repeat' (first
  | (refine zaf rfl ?_; simp [hki, hk, he, q3, hr3])
  | (refine And.intro (by omega) ?_)
  | (refine ⟨hC _ (by kernel_rfl), hk _ (zdH 8 _ _ _ ?_)⟩; clear hC hk C k; simp [hki, hk, he, q3, hr3])
  | (refine zdx rfl (by kernel_rfl) (by first | (simp [hn] <;> omega) | fail) fun C k hC hk => ?_; simp [hki, hk, he, q3, hr3])
  | (refine zcA rfl ?_; simp [hki, hk, he, q3, hr3])
  | (refine zbQ rfl ?_; simp [hki, hk, he, q3, hr3])
  | ((first | refine CallV.f2 rfl (hc1) (by first | simp [hki, hk, he, q3, hr3] <;> rfl | fail) ?_ | refine CallV.f2 rfl (hc2) (by first | simp [hki, hk, he, q3, hr3] <;> rfl | fail) ?_ | refine CallV.f2 rfl (hc3) (by first | simp [hki, hk, he, q3, hr3] <;> rfl | fail) ?_ | refine CallV.f2 rfl (hd1) (by first | simp [hki, hk, he, q3, hr3] <;> rfl | fail) ?_ | fail); simp [hki, hk, he, q3, hr3])
  | fail)
  refine EndW.norm (EndW.here ?_)
  (refine EndOK.val (.inr rfl) ?_; simp [Tryz.results67, zbF, zag])
  all_goals simp [ints]
 rw [if_neg hr3];generalize hG : zgU b n k p due (k + 1) [] = G;have hD := zen (x := b.fund) (y := due) (B := 1099511627776) (C := 1000) (by omega) (by omega) (by omega);rw [Int.mul_comm b.fund due] at hD;have hD0 : 0 <= due * b.fund := Int.mul_nonneg hd2.1 hfund.1;have hQ := zu3 hD0;refine Fun.runW Tryz.func67 Tryz.ntmps67 rfl (by simp) fun Γ hn => ?_
 repeat' (first
  | (refine zaf rfl ?_; simp [hki, hk, he, q3, hr3])
  | (refine And.intro (by omega) ?_)
  | (refine ⟨hC _ (by kernel_rfl), hk _ (zdH 8 _ _ _ ?_)⟩; clear hC hk C k; simp [hki, hk, he, q3, hr3])
  | (refine zdx rfl (by kernel_rfl) (by first | (simp [hn] <;> omega) | fail) fun C k hC hk => ?_; simp [hki, hk, he, q3, hr3])
  | (refine zcA rfl ?_; simp [hki, hk, he, q3, hr3])
  | (refine zbQ rfl ?_; simp [hki, hk, he, q3, hr3])
  | ((first | refine CallV.f2 rfl (hc1) (by first | simp [hki, hk, he, q3, hr3] <;> rfl | fail) ?_ | refine CallV.f2 rfl (hc2) (by first | simp [hki, hk, he, q3, hr3] <;> rfl | fail) ?_ | refine CallV.f2 rfl (hc3) (by first | simp [hki, hk, he, q3, hr3] <;> rfl | fail) ?_ | refine CallV.f2 rfl (hd1) (by first | simp [hki, hk, he, q3, hr3] <;> rfl | fail) ?_ | fail); simp [hki, hk, he, q3, hr3])
  | fail)
 refine zhP 0 ?_;simp [frzB, zav, zau, St.frzS, frzS, fv, za1, zbm, zbn, frzObS, zat, zan, del, zh7, q3];refine zbS (α := { s : Nat × List Int // s.1 + s.2.length = k + 1 /\ zgU b n k p due s.1 s.2 = G }) [1, 2, 6, 7] (fun s => [(9, .u (.int .i64 ((s.1.1 : Int) - 1)))]) (fun s => [(1, .vec 3 1 (intR (gaA s.1.1 s.1.2)))]) 2 (fun s => s.1.1) ⟨(k + 1, []), by simp, hG⟩ ?_ ?_
 ·have q4 := zrD (k + 1);exact (Wk.zdw (by simp [hn, zal, zai, q3, q4] <;> grind))
 rintro ⟨⟨j, out⟩, hjl, hgG⟩;simp;simp only at hjl hgG;rcases j with _ | i
 ·have q5 := ztA out;have hgG' : G = (out, 0) := hgG.symm;have hol : k + 1 = out.length := by omega
  repeat' (first
  | (refine zaf rfl ?_; simp [q5])
  | fail)
  (refine EndW.frzN 1 ?_; simp [del, zh7, zbF, zag, q5, hol])
  refine EndW.norm (EndW.here ?_)
  (refine EndOK.val (.inr rfl) ?_; simp [Tryz.results67, zbF, zag])
  all_goals simp [ints, hgG']
 rw [znc] at hgG;have q5 := ztB i out;have e1 : (((i + 1 : Nat) : Int)) - 1 = i := by omega
 have g1 := fun v => zvu i v out;have g2 := fun v h => zvv i v out h;have g3 := fun v w => zvt i v w out;have g4 := fun v => zvw i v out;have hik : i < i + 1 + out.length := by omega
 have hid := zen (x := (i : Int)) (y := due) (B := 1099511627776) (C := 7) (by omega) (by omega) (by omega);have hid0 : 0 <= (i : Int) * due := Int.mul_nonneg (by omega) hd2.1;unfold zhX at hgG;by_cases hpk : (p : Int) < k
 ·by_cases hi0 : 0 < i
  ·simp only [if_pos (And.intro hpk hi0)] at hgG;unfold zs5 at hgG;by_cases hbk : b.backs = 0
   ·simp only [if_pos hbk] at hgG;have hP := zen (x := n - k + i) (y := due - (due * b.fund).tdiv 1000) (B := 1099511627776000) (C := 60) (by omega) (by omega) (by omega);generalize hPG : (n - k + i) * (due - (due * b.fund).tdiv 1000) = P at *;have hp1 := zfO zuz P;have hp2 := zfO zuA 0;have hp3 : Fun Tryz.prog 19 [.u (zgf b n k), .u (.str zlk), .u (zdS [⟨zuz, 3, P⟩, ⟨zuA, 3, 0⟩, ⟨zlH, 1, n⟩, ⟨zsA, 1, p⟩])] (· = .tup [.u (.int .i64 (znN b n p P).1), .u (.int .i64 (znN b n p P).2)]) := zh1 b n k zlk _;have hp4 : 0 <= (znN b n p P).1 /\ (znN b n p P).1 <= 1099511627776 := zk4 b zlk _;generalize znN b n p P = PY at *;obtain ⟨pay, f⟩ := PY;simp only [zgf, zut, zdS, zaE, zlH, zsA, zuz, zuA, zlk, List.cons_append, List.nil_append, zzC, zzD] at hp1 hp2 hp3 hp4 hgG;by_cases hf : f = 0
    ·simp only [if_pos hf] at hgG
     repeat' (first
  | (refine zaf rfl ?_; simp [q5, e1, hpk, hi0, hbk, hPG, hf, hik, g1, g2, g3, zag, zah, zap])
  | (refine And.intro (by omega) ?_)
  | (refine ⟨hC _ (by kernel_rfl), hk _ (zdH 8 _ _ _ ?_)⟩; clear hC hk C k; simp [q5, e1, hpk, hi0, hbk, hPG, hf, hik, g1, g2, g3, zag, zah, zap])
  | (refine zdx rfl (by kernel_rfl) (by first | (simp [hn] <;> omega) | fail) fun C k hC hk => ?_; simp [q5, e1, hpk, hi0, hbk, hPG, hf, hik, g1, g2, g3, zag, zah, zap])
  | (refine zcA rfl ?_; simp [q5, e1, hpk, hi0, hbk, hPG, hf, hik, g1, g2, g3, zag, zah, zap])
  | (refine zbQ rfl ?_; simp [q5, e1, hpk, hi0, hbk, hPG, hf, hik, g1, g2, g3, zag, zah, zap])
  | (refine And.intro ?_ (by omega))
  | ((first | refine CallV.f2 rfl (hc1) (by first | simp [q5, e1, hpk, hi0, hbk, hPG, hf, hik, g1, g2, g3, zag, zah, zap] <;> rfl | fail) ?_ | refine CallV.f2 rfl (hc2) (by first | simp [q5, e1, hpk, hi0, hbk, hPG, hf, hik, g1, g2, g3, zag, zah, zap] <;> rfl | fail) ?_ | refine CallV.f2 rfl (hp1) (by first | simp [q5, e1, hpk, hi0, hbk, hPG, hf, hik, g1, g2, g3, zag, zah, zap] <;> rfl | fail) ?_ | refine CallV.f2 rfl (hp2) (by first | simp [q5, e1, hpk, hi0, hbk, hPG, hf, hik, g1, g2, g3, zag, zah, zap] <;> rfl | fail) ?_ | refine CallV.f2 rfl (hp3) (by first | simp [q5, e1, hpk, hi0, hbk, hPG, hf, hik, g1, g2, g3, zag, zah, zap] <;> rfl | fail) ?_ | fail); simp [q5, e1, hpk, hi0, hbk, hPG, hf, hik, g1, g2, g3, zag, zah, zap])
  | fail)
     refine LoopW.next ⟨(i, (min pay P - i * due) :: out), by simp; omega, hgG⟩ (by simp) ?_
     exact (Wk.zdw (by simp [hn, zal, zai, g4] <;> grind))
    ·simp only [if_neg hf] at hgG
     repeat' (first
  | (refine zaf rfl ?_; simp [q5, e1, hpk, hi0, hbk, hPG, hf, hik, g1, g2, g3, zag, zah, zap])
  | (refine And.intro (by omega) ?_)
  | (refine ⟨hC _ (by kernel_rfl), hk _ (zdH 8 _ _ _ ?_)⟩; clear hC hk C k; simp [q5, e1, hpk, hi0, hbk, hPG, hf, hik, g1, g2, g3, zag, zah, zap])
  | (refine zdx rfl (by kernel_rfl) (by first | (simp [hn] <;> omega) | fail) fun C k hC hk => ?_; simp [q5, e1, hpk, hi0, hbk, hPG, hf, hik, g1, g2, g3, zag, zah, zap])
  | (refine zcA rfl ?_; simp [q5, e1, hpk, hi0, hbk, hPG, hf, hik, g1, g2, g3, zag, zah, zap])
  | (refine zbQ rfl ?_; simp [q5, e1, hpk, hi0, hbk, hPG, hf, hik, g1, g2, g3, zag, zah, zap])
  | ((first | refine CallV.f2 rfl (hc1) (by first | simp [q5, e1, hpk, hi0, hbk, hPG, hf, hik, g1, g2, g3, zag, zah, zap] <;> rfl | fail) ?_ | refine CallV.f2 rfl (hc2) (by first | simp [q5, e1, hpk, hi0, hbk, hPG, hf, hik, g1, g2, g3, zag, zah, zap] <;> rfl | fail) ?_ | refine CallV.f2 rfl (hp1) (by first | simp [q5, e1, hpk, hi0, hbk, hPG, hf, hik, g1, g2, g3, zag, zah, zap] <;> rfl | fail) ?_ | refine CallV.f2 rfl (hp2) (by first | simp [q5, e1, hpk, hi0, hbk, hPG, hf, hik, g1, g2, g3, zag, zah, zap] <;> rfl | fail) ?_ | refine CallV.f2 rfl (hp3) (by first | simp [q5, e1, hpk, hi0, hbk, hPG, hf, hik, g1, g2, g3, zag, zah, zap] <;> rfl | fail) ?_ | fail); simp [q5, e1, hpk, hi0, hbk, hPG, hf, hik, g1, g2, g3, zag, zah, zap])
  | fail)
     refine EndW.norm (EndW.here ?_)
     (refine EndOK.val (.inr rfl) ?_; simp [Tryz.results67, zbF, zag])
     all_goals simp [ints, <- hgG]
   ·simp only [if_neg hbk] at hgG;have hP := zen (x := n) (y := due - (due * b.fund).tdiv 1000) (B := 1099511627776000) (C := 60) (by omega) (by omega) (by omega);generalize hPG : (n) * (due - (due * b.fund).tdiv 1000) = P at *;have hp1 := zfO zuz P;have hp2 := zfO zuA 0;have hp3 : Fun Tryz.prog 19 [.u (zgf b n k), .u (.str zlk), .u (zdS [⟨zuz, 3, P⟩, ⟨zuA, 3, 0⟩, ⟨zlH, 1, n⟩, ⟨zsA, 1, p⟩])] (· = .tup [.u (.int .i64 (znN b n p P).1), .u (.int .i64 (znN b n p P).2)]) := zh1 b n k zlk _;have hp4 : 0 <= (znN b n p P).1 /\ (znN b n p P).1 <= 1099511627776 := zk4 b zlk _;generalize znN b n p P = PY at *;obtain ⟨pay, f⟩ := PY;simp only [zgf, zut, zdS, zaE, zlH, zsA, zuz, zuA, zlk, List.cons_append, List.nil_append, zzC, zzD] at hp1 hp2 hp3 hp4 hgG;by_cases hf : f = 0
    ·simp only [if_pos hf] at hgG
     repeat' (first
  | (refine zaf rfl ?_; simp [q5, e1, hpk, hi0, hbk, hPG, hf, hik, g1, g2, g3, zag, zah, zap])
  | (refine And.intro (by omega) ?_)
  | (refine ⟨hC _ (by kernel_rfl), hk _ (zdH 8 _ _ _ ?_)⟩; clear hC hk C k; simp [q5, e1, hpk, hi0, hbk, hPG, hf, hik, g1, g2, g3, zag, zah, zap])
  | (refine zdx rfl (by kernel_rfl) (by first | (simp [hn] <;> omega) | fail) fun C k hC hk => ?_; simp [q5, e1, hpk, hi0, hbk, hPG, hf, hik, g1, g2, g3, zag, zah, zap])
  | (refine zcA rfl ?_; simp [q5, e1, hpk, hi0, hbk, hPG, hf, hik, g1, g2, g3, zag, zah, zap])
  | (refine zbQ rfl ?_; simp [q5, e1, hpk, hi0, hbk, hPG, hf, hik, g1, g2, g3, zag, zah, zap])
  | (refine And.intro ?_ (by omega))
  | ((first | refine CallV.f2 rfl (hc1) (by first | simp [q5, e1, hpk, hi0, hbk, hPG, hf, hik, g1, g2, g3, zag, zah, zap] <;> rfl | fail) ?_ | refine CallV.f2 rfl (hc2) (by first | simp [q5, e1, hpk, hi0, hbk, hPG, hf, hik, g1, g2, g3, zag, zah, zap] <;> rfl | fail) ?_ | refine CallV.f2 rfl (hp1) (by first | simp [q5, e1, hpk, hi0, hbk, hPG, hf, hik, g1, g2, g3, zag, zah, zap] <;> rfl | fail) ?_ | refine CallV.f2 rfl (hp2) (by first | simp [q5, e1, hpk, hi0, hbk, hPG, hf, hik, g1, g2, g3, zag, zah, zap] <;> rfl | fail) ?_ | refine CallV.f2 rfl (hp3) (by first | simp [q5, e1, hpk, hi0, hbk, hPG, hf, hik, g1, g2, g3, zag, zah, zap] <;> rfl | fail) ?_ | fail); simp [q5, e1, hpk, hi0, hbk, hPG, hf, hik, g1, g2, g3, zag, zah, zap])
  | fail)
     refine LoopW.next ⟨(i, (min pay P - i * due) :: out), by simp; omega, hgG⟩ (by simp) ?_
     exact (Wk.zdw (by simp [hn, zal, zai, g4] <;> grind))
    ·simp only [if_neg hf] at hgG
     repeat' (first
  | (refine zaf rfl ?_; simp [q5, e1, hpk, hi0, hbk, hPG, hf, hik, g1, g2, g3, zag, zah, zap])
  | (refine And.intro (by omega) ?_)
  | (refine ⟨hC _ (by kernel_rfl), hk _ (zdH 8 _ _ _ ?_)⟩; clear hC hk C k; simp [q5, e1, hpk, hi0, hbk, hPG, hf, hik, g1, g2, g3, zag, zah, zap])
  | (refine zdx rfl (by kernel_rfl) (by first | (simp [hn] <;> omega) | fail) fun C k hC hk => ?_; simp [q5, e1, hpk, hi0, hbk, hPG, hf, hik, g1, g2, g3, zag, zah, zap])
  | (refine zcA rfl ?_; simp [q5, e1, hpk, hi0, hbk, hPG, hf, hik, g1, g2, g3, zag, zah, zap])
  | (refine zbQ rfl ?_; simp [q5, e1, hpk, hi0, hbk, hPG, hf, hik, g1, g2, g3, zag, zah, zap])
  | ((first | refine CallV.f2 rfl (hc1) (by first | simp [q5, e1, hpk, hi0, hbk, hPG, hf, hik, g1, g2, g3, zag, zah, zap] <;> rfl | fail) ?_ | refine CallV.f2 rfl (hc2) (by first | simp [q5, e1, hpk, hi0, hbk, hPG, hf, hik, g1, g2, g3, zag, zah, zap] <;> rfl | fail) ?_ | refine CallV.f2 rfl (hp1) (by first | simp [q5, e1, hpk, hi0, hbk, hPG, hf, hik, g1, g2, g3, zag, zah, zap] <;> rfl | fail) ?_ | refine CallV.f2 rfl (hp2) (by first | simp [q5, e1, hpk, hi0, hbk, hPG, hf, hik, g1, g2, g3, zag, zah, zap] <;> rfl | fail) ?_ | refine CallV.f2 rfl (hp3) (by first | simp [q5, e1, hpk, hi0, hbk, hPG, hf, hik, g1, g2, g3, zag, zah, zap] <;> rfl | fail) ?_ | fail); simp [q5, e1, hpk, hi0, hbk, hPG, hf, hik, g1, g2, g3, zag, zah, zap])
  | fail)
     refine EndW.norm (EndW.here ?_)
     (refine EndOK.val (.inr rfl) ?_; simp [Tryz.results67, zbF, zag])
     all_goals simp [ints, <- hgG]
  ·simp only [if_neg (fun h : (p : Int) < k /\ 0 < i => hi0 h.2)] at hgG;obtain rfl : i = 0 := by omega
   repeat' (first
  | (refine zaf rfl ?_; simp [q5, e1, hpk, hik, g1, g2, g3, zag, zah, zap])
  | (refine And.intro ?_ (by omega))
  | fail)
   refine LoopW.next ⟨(0, (-(((0 : Nat) : Int) * due)) :: out), by simp; omega, hgG⟩ (by simp) ?_
   exact (Wk.zdw (by simp [hn, zal, zai, g4] <;> grind))
 ·simp only [if_neg (fun h : (p : Int) < k /\ 0 < i => hpk h.1)] at hgG
  repeat' (first
  | (refine zaf rfl ?_; simp [q5, e1, hpk, hik, g1, g2, g3, zag, zah, zap])
  | (refine And.intro (by omega) ?_)
  | (refine And.intro ?_ (by omega))
  | fail)
  refine LoopW.next ⟨(i, (-((i : Int) * due)) :: out), by simp; omega, hgG⟩ (by simp) ?_
  exact (Wk.zdw (by simp [hn, zal, zai, g4] <;> grind))
end Go.Proofs.YtmlpcgkaonifcaaGreatDoor
namespace Go.Proofs.YtmlpcgkaonifcaaGreatDoor
open Go Go.VL
attribute [local simp] HS zbw zc2 zcq evPure opd uOf zay St.put St.at getK binD binI binS binB nilD aggD zfJ zge lookD lookR zcn rangeS Go.VL.nextD Go.VL.nextS zcr zgk zgh zfs zcv mkV zbi zaT zaS zaR zc0 zaP zba zbs mapEff zdE zfp Key.kk shiftI arith unD convD zdu loadD cellsAt fieldAddrD fieldD indexAddrD indexSlD arrAddr indexD sliceD cutD lenD minmaxD nilCheckD buildD fillD zb0 zc7 zeD setAll zcW zef zck zfv zcj St.add zaw zbB rowsOf zdg zcw zad zac zaa zbz zda za3 entry zbO zbT valD zcm zcB zfw zdb zdc zb4 zbP zam zaW zbj delAll effD St.effS zcF zaU zaH zcG zaV zaJ zbY zaI zaA zbZ zcD zbv zbX za9 zbV zbW zar mkD zcl zbG zbK zam zcu D.ids Op.operands Call.operands zbH makeIfD makeFuncD typeAssertD zgd zdm zdn zf8 zco IntKind.bits zct zaz List.take_of_length_le List.range_succ zcO zcf zcP zcK zbD zb6 zb8 zcL zca zbe zb9 zb7 zhc zce zcM zaZ zaL zcN za0 zaN zcd zaM zaF zcS zcT zha zab frzN frz1 zav zau St.frz St.frzS frzS fv za1 zbm zbn frzObS zat zan frz zbL zbq zbr zbN zb5 zcc za7 St.norm St.lp St.only zax wkE wkO wkU Ob.under D.under zaj zak zcQ zcg zcR h4s zea zaC zbC List.zipIdx_cons List.zipIdx_nil zzC zzD Nat.zero_add
attribute [local irreducible] V G H HD HD2 HD4 zhd RetX zbf Eff CallP CallV EndOK Fun Ret FinOK LoopI LoopW EndW HR vs2 RN Cnd H4
theorem ztx (b : By) (m : Int) (c : List Int) (hl : c.length <= 1000000) : Fun Tryz.prog 43 [.u (.agg (zaE b)), .u (.int .i64 m), .u (ints c)] (· = .tup [.u (zcE (zdO b m c).1), .u (.int .i64 (zdO b m c).2)]) := by
 cases hR : zdJ b m c with
 | false => exact zty b m c hl hR
 | true =>
 by_cases h78 : 7 < c.length \/ 3000 <= 2 * ((c.length : Int) + 1) * b.last
 ·exact zrB b m c hl hR h78
 have h1 := zfb b m c hl;unfold zdO;rw [hR] at h1;rw [hR, if_pos rfl];obtain ⟨hk, hr, hn1, hn2⟩ := zd5 hR;have hn : 1 <= m /\ m <= 60 := ⟨hn1, hn2⟩;obtain ⟨hlast, _, hfund, _⟩ := zdF hr;obtain ⟨k, hkc⟩ : ∃ k, k = c.length := ⟨_, rfl⟩;rw [<- hkc] at hk ⊢;obtain ⟨L, hL⟩ := Int.eq_ofNat_of_zero_le (show 0 <= b.last by omega);have hE := zen (x := 2 * ((k : Int) + 1)) (y := (L : Int)) (B := 1000) (C := 200) (by omega) (by omega) (by omega);have hE0 : 0 <= 2 * ((k : Int) + 1) * L := Int.mul_nonneg (by omega) (by omega);have hgf := fun (hk7 : k <= 7) (p : Nat) (hp : p < 1000) => zrC b m k p hr hn ⟨hk7, hk⟩ hp;have hnf := fun (hk7 : k <= 7) (p : Nat) (hp : p < 1000) (a e : Int) (ha : 0 <= a /\ a <= 100000) (he : 0 <= e /\ e <= 100000) (g : List Int) (hg : g.length = k + 1) => zpA b m k p a e g hr hn ⟨hk7, hk⟩ hp ha he hg;unfold znb;rw [hL, Int.toNat_natCast];simp only [zgf, zaE, ints, zcE, hL, List.cons_append, List.nil_append] at h1 hgf hnf ⊢;have h7n : k <= 7 := by omega
 have h7 : ¬ 7 < k := by omega
 have hgf := hgf h7n;have hnf := hnf h7n;subst hkc;have h3 : ¬ 3000 <= 2 * ((c.length : Int) + 1) * L := by rw [hL] at h78; omega
 have h7' : ¬ (7 : Int) < c.length := by omega
 rw [if_neg (by omega)];obtain ⟨G, hG⟩ : ∃ G, G = ziO b m c.length (2 * ((c.length : Int) + 1) * L) 0 [] L := ⟨_, rfl⟩;rw [<- hG];refine Fun.runW Tryz.func43 Tryz.ntmps43 rfl (by simp) fun Γ hn => ?_
 repeat' (first
  | (refine CallP.f2 rfl (h1) (by first | simp <;> rfl | fail) ?_; simp (config := { maxSteps := 1000000 }) [h7, h7', h3])
  | (refine Cnd.of (fun hc => ?_) (fun hc => ?_) <;> (try (exfalso; omega)) <;> (try simp [h7, h7', h3]))
  | (refine zaf rfl ?_; simp [h7, h7', h3])
  | (refine And.intro (by omega) ?_)
  | fail)
 refine zhP 0 ?_;simp [frzB, zav, zau, St.frzS, frzS, fv, za1, zbm, zbn, frzObS, zat, zan, del];refine zhP 1 ?_;simp [frzB, zav, zau, St.frzS, frzS, fv, za1, zbm, zbn, frzObS, zat, zan, del];refine zkX _ (Wk.own 10 119 2 (by decide) rfl) ?_;simp [St.own];refine zbS (α := { s : Nat × List Nd // s.1 <= L /\ s.2.length = 2 * (c.length + 1) * s.1 /\ ziO b m c.length (2 * ((c.length : Int) + 1) * L) s.1 s.2 (L - s.1) = G }) [3, 8, 9, 39] (fun s => [(10, .vec 2 s.1.2.length), (40, .u (.int .i64 s.1.1))]) (fun s => [(2, .vec 119 2 (zdN s.1.2))]) 3 (fun s => L - s.1.1) ⟨(0, []), by omega, by simp, hG.symm⟩ ?_ ?_
 ·exact (Wk.zdw (by simp [hn, zdN] <;> grind))
 rintro ⟨⟨p, out⟩, hpL, hol, hoG⟩;simp;simp only at hpL hol hoG;have hln := zeV out;have hlr := zhq out;have hob : out.length <= 3000 := by
  have := Nat.mul_le_mul_left (2 * (c.length + 1)) hpL;have h4 : ((2 * (c.length + 1) * L : Nat) : Int) = 2 * ((c.length : Int) + 1) * L := by push_cast; rfl
  omega
 by_cases hp : p < L
 ·have hg := hgf p (by omega);have hL1 : L - p = (L - (p + 1)) + 1 := by omega
  rw [hL1, zpn] at hoG;rcases hgp : zes b m c.length p with ⟨g, e⟩
  rw [hgp] at hg hoG;simp only at hg hoG;have hpi : (p : Int) < L := by omega
  by_cases he : e = 0
  ·subst he;have hgl := (zn7 hgp hfund hn1 hk).1;have hno := hnf p (by omega) out.length (2 * ((c.length : Int) + 1) * L) ⟨by omega, by omega⟩ ⟨hE0, by omega⟩ g hgl;have hNl := zjN b m c.length p out.length (2 * ((c.length : Int) + 1) * L) g;rw [if_pos rfl] at hoG;generalize zgO b m c.length p out.length (2 * ((c.length : Int) + 1) * L) g = N at hno hNl hoG;have hap := zqO out N
   repeat' (first
  | (refine zaf rfl ?_; simp [hp, hpi, hln, hlr, hap])
  | (refine And.intro (by omega) ?_)
  | ((first | refine CallP.f2 rfl (hg) (by first | simp [hp, hpi, hln, hlr, hap] <;> rfl | fail) ?_ | refine CallP.f2 rfl (hno) (by first | simp [hp, hpi, hln, hlr, hap] <;> rfl | fail) ?_ | fail); simp [hp, hpi, hln, hlr, hap])
  | fail)
   refine LoopW.next ⟨(p + 1, out ++ N), by omega, by show (out ++ N).length = 2 * (c.length + 1) * (p + 1); rw [List.length_append, hol, hNl, Nat.mul_succ (2 * (c.length + 1)) p], hoG⟩ (by simp; omega) ?_
   exact (Wk.ren ((fun i => if i = 2 then 3 else i)) rfl (by first | (simp [hn]; done) | (intro i hi; rw [hn] at hi; constructor <;> (try simp) <;> (try (intro _)) <;> omega)) (by simp [zhQ, St.lp, zax, zaa, getK, zac, zad, D.under, D.le, D.ren, hap, zbo, zbb] <;> (try (intros; simp_all; done)) <;> (try omega)) (by simp [wkR, St.lp, zaa, getK, zac, zad, obR, leU, zch, za2, Ob.under, D.under, D.le, D.ren, hap, zbo, zbb] <;> (try (intros; simp_all; done)) <;> (try omega)) (by simp [hap, zbo, zbb]))
  ·rw [if_neg he] at hoG;subst hoG
   repeat' (first
  | (refine zaf rfl ?_; simp [hp, hpi, hln, hlr, he])
  | (refine CallP.f2 rfl (hg) (by first | simp [hp, hpi, hln, hlr, he] <;> rfl | fail) ?_; simp [hp, hpi, hln, hlr, he])
  | fail)
   refine EndW.norm (EndW.here ?_)
   (refine EndOK.val (.inr rfl) ?_; simp [Tryz.results43])
   all_goals simp
 ·obtain rfl : p = L := by omega
  rw [Nat.sub_self, ziO] at hoG;have hpi : ¬ (p : Int) < p := Int.lt_irrefl _
  repeat' (first
  | (refine zaf rfl ?_; simp [hp, hpi, hln, hlr])
  | (refine And.intro (by omega) ?_)
  | fail)
  refine EndW.wk _ (Wk.normV _) ?_;simp [St.normV, ziu, zbN, zb5, zcc, zoU];have hfr := zd7
  (refine EndW.frzN 4 ?_; simp [del, zd7, zlE, zeV])
  refine EndW.norm (EndW.here ?_)
  (refine EndOK.val (.inr rfl) ?_; simp [Tryz.results43])
  all_goals simp [zcE, <- hoG, zd8]
end Go.Proofs.YtmlpcgkaonifcaaGreatDoor
namespace Go.Proofs.YtmlpcgkaonifcaaGreatDoor
open Go Go.VL
open Df (SolveSpec)
attribute [local simp] HS zbw zc2 zcq evPure opd uOf zay St.put St.at getK binD binI binS binB nilD aggD zfJ zge lookD lookR zcn rangeS Go.VL.nextD Go.VL.nextS zcr zgk zgh zfs zcv mkV zbi zaT zaS zaR zc0 zaP zba zbs mapEff zdE zfp Key.kk shiftI arith unD convD zdu loadD cellsAt fieldAddrD fieldD indexAddrD indexSlD arrAddr indexD sliceD cutD lenD minmaxD nilCheckD buildD fillD zb0 zc7 zeD setAll zcW zef zck zfv zcj St.add zaw zbB rowsOf zdg zcw zad zac zaa zbz zda za3 entry zbO zbT valD zcm zcB zfw zdb zdc zb4 zbP zam zaW zbj delAll effD St.effS zcF zaU zaH zcG zaV zaJ zbY zaI zaA zbZ zcD zbv zbX za9 zbV zbW zar mkD zcl zbG zbK zam zcu D.ids Op.operands Call.operands zbH makeIfD makeFuncD typeAssertD zgd zdm zdn zf8 zco IntKind.bits zct zaz List.take_of_length_le List.range_succ zcO zcf zcP zcK zbD zb6 zb8 zcL zca zbe zb9 zb7 zhc zce zcM zaZ zaL zcN za0 zaN zcd zaM zaF zcS zcT zha zab frzN frz1 zav zau St.frz St.frzS frzS fv za1 zbm zbn frzObS zat zan frz zbL zbq zbr zbN zb5 zcc za7 St.norm St.lp St.only zax wkE wkO wkU Ob.under D.under zaj zak zcQ zcg zcR h4s zea zaC zbC List.zipIdx_cons List.zipIdx_nil zzC zzD Nat.zero_add
attribute [local irreducible] V G H HD HD2 HD4 zhd RetX zbf Eff CallP CallV EndOK Fun Ret FinOK LoopI LoopW EndW HR vs2 RN Cnd H4
theorem znQ (b : By) (m : Int) (c : List Int) (hl : c.length <= 1000000) : Fun Tryz.prog 22 [.u (.agg (zaE b)), .u (.int .i64 m), .u (ints c)] (· = .tup [.u (zcE (zdV b m c).1), .u (.int .i64 (zdV b m c).2)]) := by
 have h1 := ztx b m c hl;have h2 := @zjH b m c;unfold zdV;generalize zdO b m c = G at *;obtain ⟨l, e⟩ := G;simp only at h1 h2 ⊢;by_cases he : e = 0
 ·subst he;obtain ⟨_, hr, _⟩ := zd5 (h2 rfl);have h3 := zsc b;obtain ⟨V, C, E, hS, h4⟩ := Df.solve_ex (zpR b) 5 (by have := zsb b; show 6 * (5 * _) <= _; omega);have hE := zsa hr hS;have hcl := zsb b;rw [if_neg (by simp)];simp only [Df.consU, ints, Df.ints, zcE, zaE] at h1 h3 h4 ⊢;by_cases hB : zmM b = true
  ·rw [if_pos hB] at hE ⊢;subst hE;refine Fun.runW Tryz.func22 Tryz.ntmps22 rfl (by simp) fun Γ hn => ?_
   repeat' (first
  | (refine zaf rfl ?_; simp)
  | ((first | refine CallP.f2 rfl (h1) (by first | simp <;> rfl | fail) ?_ | refine CallP.f2 rfl (h3) (by first | simp <;> rfl | fail) ?_ | refine CallP.f2 rfl (h4) (by first | simp <;> rfl | fail) ?_ | fail); simp)
  | fail)
   refine EndW.norm (EndW.here ?_)
   (refine EndOK.val (.inr rfl) ?_; simp [Tryz.results22])
  ·rw [if_neg hB] at hE ⊢;subst hE;refine Fun.runW Tryz.func22 Tryz.ntmps22 rfl (by simp) fun Γ hn => ?_
   repeat' (first
  | (refine zaf rfl ?_; simp)
  | ((first | refine CallP.f2 rfl (h1) (by first | simp <;> rfl | fail) ?_ | refine CallP.f2 rfl (h3) (by first | simp <;> rfl | fail) ?_ | refine CallP.f2 rfl (h4) (by first | simp <;> rfl | fail) ?_ | fail); simp)
  | fail)
   refine EndW.norm (EndW.here ?_)
   (refine EndOK.val (.inr rfl) ?_; simp [Tryz.results22])
   all_goals simp
 ·rw [if_pos he];simp only [ints, zcE, zaE] at h1 ⊢;refine Fun.runW Tryz.func22 Tryz.ntmps22 rfl (by simp) fun Γ hn => ?_
  repeat' (first
  | (refine zaf rfl ?_; simp [he])
  | (refine CallP.f2 rfl (h1) (by first | simp [he] <;> rfl | fail) ?_; simp [he])
  | fail)
  refine EndW.norm (EndW.here ?_)
  (refine EndOK.val (.inr rfl) ?_; simp [Tryz.results22])
  all_goals simp
theorem zkt {b : By} {m : Int} {c : List Int} (h : (zdV b m c).2 = 0) : zft (zdV b m c).1 = true := by
 unfold zdV at h ⊢;split at h
 ·rename_i h1; exact absurd h h1
 ·rename_i h1;rw [if_neg h1];split at h
  ·rename_i h2;rw [if_pos h2];exact zpm (by simpa using h1)
  ·cases h
theorem zem (b : By) (m : Int) (c : List Int) (hl : c.length <= 1000000) : Fun Tryz.prog 8 [.u (.agg (zaE b)), .u (.int .i64 m), .u (ints c)] (· = .tup [.u (.agg [ints (za5 b m c).1, ints (za5 b m c).2.1]), .u (.int .i64 (za5 b m c).2.2.1), .u (.int .i64 (za5 b m c).2.2.2)]) := by
 have h1 := znQ b m c hl;have h2 := @zkt b m c;unfold za5;generalize zdV b m c = G at *;obtain ⟨l, e⟩ := G;simp only at h1 h2 ⊢;by_cases he : e = 0
 ·subst he;rw [if_neg (by simp)];have hg := h2 rfl;have h3 := zpj l hg;have h4 := zk3 l;have h5 := ((zdL l).1 hg).1;obtain ⟨v, hv⟩ : ∃ v, (zfy l)[0]? = some v := ⟨_, List.getElem?_eq_getElem (by omega)⟩;have hve := (List.getElem?_eq_some_iff.1 hv).2;have h6 : 0 < (zfy l).length := by omega
  simp only [List.getD_eq_getElem?_getD, hv, Option.getD_some];generalize zfy l = VS at *;generalize ofP l (zgj l) false = CS at *;simp only [ints, zcE, zaE] at h1 h3 ⊢;refine Fun.runW Tryz.func8 Tryz.ntmps8 rfl (by simp) fun Γ hn => ?_
  repeat' (first
  | (refine zaf rfl ?_; simp [hv, hve, h6])
  | (refine ⟨hC _ (by kernel_rfl), hk _ (zdH 8 _ _ _ ?_)⟩; clear hC hk C k; simp [hv, hve, h6])
  | (refine zdx rfl (by kernel_rfl) (by first | (simp [hn] <;> omega) | fail) fun C k hC hk => ?_; simp [hv, hve, h6])
  | ((first | refine CallP.f2 rfl (h1) (by first | simp [hv, hve, h6] <;> rfl | fail) ?_ | refine CallP.f2 rfl (h3) (by first | simp [hv, hve, h6] <;> rfl | fail) ?_ | fail); simp [hv, hve, h6])
  | fail)
  refine EndW.norm (EndW.here ?_)
  (refine EndOK.val (.inr rfl) ?_; simp [Tryz.results8])
 ·rw [if_pos he];simp only [ints, zcE, zaE] at h1 ⊢;refine Fun.runW Tryz.func8 Tryz.ntmps8 rfl (by simp) fun Γ hn => ?_
  repeat' (first
  | (refine zaf rfl ?_; simp [he])
  | (refine CallP.f2 rfl (h1) (by first | simp [he] <;> rfl | fail) ?_; simp [he])
  | fail)
  refine EndW.norm (EndW.here ?_)
  (refine EndOK.val (.inr rfl) ?_; simp [Tryz.results8])
  all_goals simp
theorem zi0 (b : By) (m : Int) (c vs cs : List Int) (bd : Int) (hl : c.length <= 1000000) (h0 : (zdV b m c).2 = 0) (h1 : vs.length = (zdV b m c).1.length) (h2 : cs.length = (zdV b m c).1.length) (hv : zjy vs) : Fun Tryz.prog 15 [.u (.agg (zaE b)), .u (.int .i64 m), .u (ints c), .u (.agg [ints vs, ints cs]), .u (.int .i64 bd)] (· = .u (.int .i64 (if zg4 (zdV b m c).1 vs cs ≠ 0 \/ bd < vs.getD 0 0 then 21 else 0))) := by
 have h3 := znQ b m c hl;have hg := zkt h0;generalize zdV b m c = G at *;obtain ⟨l, e⟩ := G;simp only at *;subst h0;have h4 := zpl l vs cs hg h1 h2 hv;have h5 := ((zdL l).1 hg).1;obtain ⟨v, hv⟩ : ∃ v, vs[0]? = some v := ⟨_, List.getElem?_eq_getElem (by omega)⟩;have hve := (List.getElem?_eq_some_iff.1 hv).2;have h6 : 0 < vs.length := by omega
 simp only [List.getD_eq_getElem?_getD, hv, Option.getD_some];generalize zg4 l vs cs = K at *;simp only [ints, zcE, zaE] at h3 h4 ⊢;by_cases hK : K = 0
 ·subst hK;by_cases hb : bd < v
  ·rw [if_pos (.inr hb)];refine Fun.runW Tryz.func15 Tryz.ntmps15 rfl (by simp) fun Γ hn => ?_
   repeat' (first
  | (refine zaf rfl ?_; simp [hv, hve, h6, hb])
  | ((first | refine CallP.f2 rfl (h3) (by first | simp [hv, hve, h6, hb] <;> rfl | fail) ?_ | refine CallP.f2 rfl (h4) (by first | simp [hv, hve, h6, hb] <;> rfl | fail) ?_ | fail); simp [hv, hve, h6, hb])
  | fail)
   refine EndW.norm (EndW.here ?_)
   (refine EndOK.val (.inr rfl) ?_; simp [Tryz.results15])
  ·rw [if_neg (by simp [hb])];refine Fun.runW Tryz.func15 Tryz.ntmps15 rfl (by simp) fun Γ hn => ?_
   repeat' (first
  | (refine zaf rfl ?_; simp [hv, hve, h6, hb])
  | ((first | refine CallP.f2 rfl (h3) (by first | simp [hv, hve, h6, hb] <;> rfl | fail) ?_ | refine CallP.f2 rfl (h4) (by first | simp [hv, hve, h6, hb] <;> rfl | fail) ?_ | fail); simp [hv, hve, h6, hb])
  | fail)
   refine EndW.norm (EndW.here ?_)
   (refine EndOK.val (.inr rfl) ?_; simp [Tryz.results15])
 ·rw [if_pos (.inl hK)];refine Fun.runW Tryz.func15 Tryz.ntmps15 rfl (by simp) fun Γ hn => ?_
  repeat' (first
  | (refine zaf rfl ?_; simp [hK])
  | ((first | refine CallP.f2 rfl (h3) (by first | simp [hK] <;> rfl | fail) ?_ | refine CallP.f2 rfl (h4) (by first | simp [hK] <;> rfl | fail) ?_ | fail); simp [hK])
  | fail)
  refine EndW.norm (EndW.here ?_)
  (refine EndOK.val (.inr rfl) ?_; simp [Tryz.results15])
end Go.Proofs.YtmlpcgkaonifcaaGreatDoor
