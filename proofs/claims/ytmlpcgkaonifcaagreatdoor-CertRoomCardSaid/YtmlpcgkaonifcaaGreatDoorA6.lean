import Derived.Test.YtmlpcgkaonifcaaGreatDoorA5
set_option linter.all false
set_option maxRecDepth 100000
set_option maxHeartbeats 8000000
namespace Go.Proofs.YtmlpcgkaonifcaaGreatDoor
open Go Go.VL
attribute [local simp] HS zbu zcZ zcp evPure opd uOf zaA St.put St.at getK binD binI binS binB nilD aggD zfv zf5 lookD lookR zcm rangeS Go.VL.nextD Go.VL.nextS zco zge zgb zfp zcv mkV zbf zaS zaR zaQ zcX zaO za8 zbt mapEff zdD ze5 Key.kk shiftI arith unD convD zdq loadD cellsAt fieldAddrD fieldD indexAddrD indexSlD arrAddr indexD sliceD cutD lenD minmaxD nilCheckD buildD fillD zbY zc2 zev setAll zcT zd9 zci zfs zch St.add zaw zbz rowsOf zdf zcx zad zac zaa zbx zc8 zaZ entry zbM zbQ valD zcl zcw zft zdb zdc zb0 zbK zal zaW zbh delAll effD St.effS zcE zaT zaG zcF zaU zaI zbV zaH zaz zbW zcC zbs zbU za5 zbS zbT zar mkD zcj zbD zbI zal zcr D.ids Op.operands Call.operands zbF makeIfD makeFuncD typeAssertD zf4 zdi zdj zfR zcn IntKind.bits zct zay List.take_of_length_le List.range_succ zcN zcc zcO zcI zbB zb1 zb3 zcJ zb5 zbc zb4 zb2 zg4 zcb zcL zaX zaK zcM zaY zaM zca zaL zaD zcR zcS zgB zab frzN frz1 zav zau St.frz St.frzS frzS fv za2 zbn zbo frzObS zat zan frz zbL zbk zbl zbN zb7 zce za6 St.norm St.lp St.only zax wkE wkO wkU Ob.under D.under zaj zak zcP zcd zcQ h4s zd1 zaC zbC List.zipIdx_cons List.zipIdx_nil zzC zzD Nat.zero_add
attribute [local irreducible] V G H HD HD2 HD4 zg6 RetX zbg Eff CallP CallV EndOK Fun Ret FinOK LoopI LoopW EndW HR vs2 RN Cnd H4
theorem zeo {l : List Tok} {F : FuncId} {r : PR Exp} {e : Exp} {q i nx : Nat} {ds : List D} {obs : List (Nat × Ob)} (h : RetX Tryz.prog F ds obs nx (PPost l i nx ziN r)) (hr : r = .ok e q) :
  RetX Tryz.prog F ds obs nx fun r o n => r = .val (.u (.agg [.int .i64 e.op, .int .i64 e.n, .int .i64 e.unit, .str e.s, .sl (e.args.map Exp.row)])) /\ o = [(i, pOb l q)] /\ n = nx := by
 subst hr;rw [<- Exp.row_eq];exact h
theorem zki {l : List Tok} (hl : TokOK l) {f p : Nat} (hE : zhS l f) (hf : 4 * (l.length - p) <= f) {t : Tok} (ht : l[p]? = some t) (hk : ¬ t.kind = 2) (h1 : isB l p [116, 114, 117, 101] = false) (h2 : isB l p [102, 97, 108, 115, 101] = false)
  (h3 : isB l p [109, 105, 110] = false) (h4 : isB l p [109, 97, 120] = false) (h5 : isB l p [40] = true) {i nx : Nat} (hi : i < nx) :
  RetX Tryz.prog 145 [.ptr i 0] [(i, pOb l p)] nx (PPost l i nx ziN (zbG l (f + 1) p)) := by
 have hne := zbm hi;have hp := (List.getElem?_eq_some_iff.1 ht).1;have hnx := zdk l p t ht hl.len;have hll := hl.len;have hp2 := zbR hl h5;rw [zbG, ht];have hh1 := fun nx' (h : nx <= nx') => zb9 l p [116, 114, 117, 101] i nx' (by omega) hp hl.len;have hh2 := fun nx' (h : nx <= nx') => zb9 l p [102, 97, 108, 115, 101] i nx' (by omega) hp hl.len;have hm1 := zfq l p [109, 105, 110] hp hl.len;have hm2 := zfq l p [109, 97, 120] hp hl.len;have hh3 := fun nx' (h : nx <= nx') => zb9 l p [40] i nx' (by omega) hp hl.len;simp only [hk, h1, h2, h3, h4, h5, if_false, if_true, Bool.false_eq_true, or_self] at hh1 hh2 hm1 hm2 hh3 ⊢;have he := fun nx' (h : nx <= nx') => hE (p + 1) 0 i nx' (by omega) hp2 (by omega) (by omega) (by omega);cases hr : zfu l f (p + 1) 0 with
 | stop pos e =>
  simp only [hr] at he;refine RetX.runW Tryz.func145 Tryz.ntmps145 rfl (by simp) fun Γ hn hpan => ?_
  repeat' (first
  | (refine zaf rfl ?_; simp [hne, hk, del, zzA])
  | ((first | refine CallP.f2 rfl (hnx) (by first | simp [hne, hk, del, zzA] <;> rfl | fail) ?_ | refine CallP.f2 rfl (hm1) (by first | simp [hne, hk, del, zzA] <;> rfl | fail) ?_ | refine CallP.f2 rfl (hm2) (by first | simp [hne, hk, del, zzA] <;> rfl | fail) ?_ | fail); simp [hne, hk, del, zzA])
  | (refine CallP.ok1 (hh1 _ (by first | omega | (simp <;> omega) | fail)) (by first | (simp [hne, hk, del, zzA, zaa, getK, zab, zac]; done) | fail) (by rfl) (by first | assumption | (simp; done) | fail) (by rfl) (by simp) ?_; (try simp [hne, hk, del, zzA]))
  | (refine CallP.ok1 (hh2 _ (by first | omega | (simp <;> omega) | fail)) (by first | (simp [hne, hk, del, zzA, zaa, getK, zab, zac]; done) | fail) (by rfl) (by first | assumption | (simp; done) | fail) (by rfl) (by simp) ?_; (try simp [hne, hk, del, zzA]))
  | (refine CallP.ok1 (hh3 _ (by first | omega | (simp <;> omega) | fail)) (by first | (simp [hne, hk, del, zzA, zaa, getK, zab, zac]; done) | fail) (by rfl) (by first | assumption | (simp; done) | fail) (by rfl) (by simp) ?_; (try simp [hne, hk, del, zzA]))
  | (refine CallP.zgg (he _ (by first | omega | (simp <;> omega) | fail)) (by first | (simp [hne, hk, del, zzA, zaa, getK, zab, zac]; done) | fail) (by rfl) (by first | assumption | (simp; done) | fail) (by rfl) (by simp) ?_; rintro ob' ⟨q', rfl⟩; refine ⟨_, Wk.refl _, ?_⟩)
  | fail)
  (refine hpan _ _ (PanG.k ([(i, pOb l q')]) (nx) (by simp [hn, hi, hne, zab, zac, zaa, getK] <;> omega) ?_); try simp)
  exact PPost.zbe (by simp [PR.bind, *])
 | ok e1 q1 =>
  have he := fun nx' h => zeo (he nx' h) hr;obtain ⟨g1, g2⟩ := (zdB hl f).1 _ _ _ _ hr hp2;have hw := fun nx' (h : nx <= nx') => zgl hl [41] (q := q1) (i := i) (nx := nx') (by omega) g2;cases hr2 : zcV l q1 [[41]] with
  | stop pos e =>
   simp only [hr2] at hw;refine RetX.runW Tryz.func145 Tryz.ntmps145 rfl (by simp) fun Γ hn hpan => ?_
   repeat' (first
  | (refine zaf rfl ?_; simp [hne, hk, del, zzA])
  | ((first | refine CallP.f2 rfl (hnx) (by first | simp [hne, hk, del, zzA] <;> rfl | fail) ?_ | refine CallP.f2 rfl (hm1) (by first | simp [hne, hk, del, zzA] <;> rfl | fail) ?_ | refine CallP.f2 rfl (hm2) (by first | simp [hne, hk, del, zzA] <;> rfl | fail) ?_ | fail); simp [hne, hk, del, zzA])
  | (refine CallP.ok1 (hh1 _ (by first | omega | (simp <;> omega) | fail)) (by first | (simp [hne, hk, del, zzA, zaa, getK, zab, zac]; done) | fail) (by rfl) (by first | assumption | (simp; done) | fail) (by rfl) (by simp) ?_; (try simp [hne, hk, del, zzA]))
  | (refine CallP.ok1 (hh2 _ (by first | omega | (simp <;> omega) | fail)) (by first | (simp [hne, hk, del, zzA, zaa, getK, zab, zac]; done) | fail) (by rfl) (by first | assumption | (simp; done) | fail) (by rfl) (by simp) ?_; (try simp [hne, hk, del, zzA]))
  | (refine CallP.ok1 (hh3 _ (by first | omega | (simp <;> omega) | fail)) (by first | (simp [hne, hk, del, zzA, zaa, getK, zab, zac]; done) | fail) (by rfl) (by first | assumption | (simp; done) | fail) (by rfl) (by simp) ?_; (try simp [hne, hk, del, zzA]))
  | (refine CallP.ok1 (he _ (by first | omega | (simp <;> omega) | fail)) (by first | (simp [hne, hk, del, zzA, zaa, getK, zab, zac]; done) | fail) (by rfl) (by first | assumption | (simp; done) | fail) (by rfl) (by simp) ?_; (try simp [hne, hk, del, zzA]))
  | (refine CallP.zgg (hw _ (by first | omega | (simp <;> omega) | fail)) (by first | (simp [hne, hk, del, zzA, zaa, getK, zab, zac]; done) | fail) (by rfl) (by first | assumption | (simp; done) | fail) (by rfl) (by simp) ?_; rintro ob' ⟨q', rfl⟩; refine ⟨_, Wk.refl _, ?_⟩)
  | (refine zbr (by first | rfl | fail) (by first | simp [hne, hk, del, zzA, frzN, frz1, zav, zau, St.frz, St.frzS, frzS, fv, za2, zbn, zbo, frzObS, zat, zan, del, frz, zbL] <;> rfl | fail) ?_)
  | fail)
   (refine hpan _ _ (PanG.k ([(i, pOb l q')]) (nx) (by simp [hn, hi, hne, zab, zac, zaa, getK] <;> omega) ?_); try simp)
   exact PPost.zbe (by simp [PR.bind, *])
  | ok u2 q =>
   simp only [hr2] at hw;refine RetX.runW Tryz.func145 Tryz.ntmps145 rfl (by simp) fun Γ hn hpan => ?_
   repeat' (first
  | (refine zaf rfl ?_; simp [hne, hk, del, zzA])
  | ((first | refine CallP.f2 rfl (hnx) (by first | simp [hne, hk, del, zzA] <;> rfl | fail) ?_ | refine CallP.f2 rfl (hm1) (by first | simp [hne, hk, del, zzA] <;> rfl | fail) ?_ | refine CallP.f2 rfl (hm2) (by first | simp [hne, hk, del, zzA] <;> rfl | fail) ?_ | fail); simp [hne, hk, del, zzA])
  | (refine CallP.ok1 (hh1 _ (by first | omega | (simp <;> omega) | fail)) (by first | (simp [hne, hk, del, zzA, zaa, getK, zab, zac]; done) | fail) (by rfl) (by first | assumption | (simp; done) | fail) (by rfl) (by simp) ?_; (try simp [hne, hk, del, zzA]))
  | (refine CallP.ok1 (hh2 _ (by first | omega | (simp <;> omega) | fail)) (by first | (simp [hne, hk, del, zzA, zaa, getK, zab, zac]; done) | fail) (by rfl) (by first | assumption | (simp; done) | fail) (by rfl) (by simp) ?_; (try simp [hne, hk, del, zzA]))
  | (refine CallP.ok1 (hh3 _ (by first | omega | (simp <;> omega) | fail)) (by first | (simp [hne, hk, del, zzA, zaa, getK, zab, zac]; done) | fail) (by rfl) (by first | assumption | (simp; done) | fail) (by rfl) (by simp) ?_; (try simp [hne, hk, del, zzA]))
  | (refine CallP.ok1 (he _ (by first | omega | (simp <;> omega) | fail)) (by first | (simp [hne, hk, del, zzA, zaa, getK, zab, zac]; done) | fail) (by rfl) (by first | assumption | (simp; done) | fail) (by rfl) (by simp) ?_; (try simp [hne, hk, del, zzA]))
  | (refine CallP.ok1 (hw _ (by first | omega | (simp <;> omega) | fail)) (by first | (simp [hne, hk, del, zzA, zaa, getK, zab, zac]; done) | fail) (by rfl) (by first | assumption | (simp; done) | fail) (by rfl) (by simp) ?_; (try simp [hne, hk, del, zzA]))
  | (refine zbr (by first | rfl | fail) (by first | simp [hne, hk, del, zzA, frzN, frz1, zav, zau, St.frz, St.frzS, frzS, fv, za2, zbn, zbo, frzObS, zat, zan, del, frz, zbL] <;> rfl | fail) ?_)
  | fail)
   refine EndW.norm ?_;simp [St.norm, za6, zbN, zb7, zce, hne]
   (refine EndW.z ([(i, pOb l q)]) (N := nx) Tryz.results145 (by simp [hne, hi] <;> omega) ?_; simp [hne, hi])
   exact PPost.zdw (by simp [PR.bind, *]; rfl) (by simp [Exp.row_eq]) rfl
theorem zjF {l : List Tok} (hl : TokOK l) {f p : Nat} (hE : zhS l f) (hf : 4 * (l.length - p) <= f) {t : Tok} (ht : l[p]? = some t) (hk : ¬ t.kind = 2) (h1 : isB l p [116, 114, 117, 101] = false) (h2 : isB l p [102, 97, 108, 115, 101] = false)
  (hm : isB l p [109, 105, 110] = false /\ isB l p [109, 97, 120] = true \/ isB l p [109, 105, 110] = true /\ isB l p [109, 97, 120] = false) {i nx : Nat} (hi : i < nx) :
  RetX Tryz.prog 145 [.ptr i 0] [(i, pOb l p)] nx (PPost l i nx ziN (zbG l (f + 1) p)) := by
 have hne := zbm hi;have hp := (List.getElem?_eq_some_iff.1 ht).1;have hnx := zdk l p t ht hl.len;have hll := hl.len;have hp2 : p + 1 < l.length := hm.elim (fun h => zbR hl h.2) (fun h => zbR hl h.1);rw [zbG, ht];have hh1 := fun nx' (h : nx <= nx') => zb9 l p [116, 114, 117, 101] i nx' (by omega) hp hl.len;have hh2 := fun nx' (h : nx <= nx') => zb9 l p [102, 97, 108, 115, 101] i nx' (by omega) hp hl.len;have hm1 := zfq l p [109, 105, 110] hp hl.len;have hm2 := zfq l p [109, 97, 120] hp hl.len;rcases hm with ⟨h3, h4⟩ | ⟨h3, h4⟩
 all_goals
  simp only [hk, h1, h2, h3, h4, if_false, if_true, Bool.false_eq_true, or_true, true_or] at hh1 hh2 hm1 hm2 ⊢;have hw1 := fun nx' (h : nx <= nx') => zgl hl [40] (q := (p + 1)) (i := i) (nx := nx') (by omega) hp2;cases hr0 : zcV l (p + 1) [[40]] with
  | stop pos e =>
   simp only [hr0] at hw1;refine RetX.runW Tryz.func145 Tryz.ntmps145 rfl (by simp) fun Γ hn hpan => ?_
   repeat' (first
  | (refine zaf rfl ?_; simp [hne, hk, del, zzA])
  | (refine And.intro (by omega) ?_)
  | ((first | refine CallP.f2 rfl (hnx) (by first | simp [hne, hk, del, zzA] <;> rfl | fail) ?_ | refine CallP.f2 rfl (hm1) (by first | simp [hne, hk, del, zzA] <;> rfl | fail) ?_ | refine CallP.f2 rfl (hm2) (by first | simp [hne, hk, del, zzA] <;> rfl | fail) ?_ | fail); simp [hne, hk, del, zzA])
  | (refine CallP.ok1 (hh1 _ (by first | omega | (simp <;> omega) | fail)) (by first | (simp [hne, hk, del, zzA, zaa, getK, zab, zac]; done) | fail) (by rfl) (by first | assumption | (simp; done) | fail) (by rfl) (by simp) ?_; (try simp [hne, hk, del, zzA]))
  | (refine CallP.ok1 (hh2 _ (by first | omega | (simp <;> omega) | fail)) (by first | (simp [hne, hk, del, zzA, zaa, getK, zab, zac]; done) | fail) (by rfl) (by first | assumption | (simp; done) | fail) (by rfl) (by simp) ?_; (try simp [hne, hk, del, zzA]))
  | (refine CallP.zgg (hw1 _ (by first | omega | (simp <;> omega) | fail)) (by first | (simp [hne, hk, del, zzA, zaa, getK, zab, zac]; done) | fail) (by rfl) (by first | assumption | (simp; done) | fail) (by rfl) (by simp) ?_; rintro ob' ⟨q', rfl⟩; refine ⟨_, Wk.refl _, ?_⟩)
  | (refine zbr (by first | rfl | fail) (by first | simp [hne, hk, del, zzA, frzN, frz1, zav, zau, St.frz, St.frzS, frzS, fv, za2, zbn, zbo, frzObS, zat, zan, del, frz, zbL] <;> rfl | fail) ?_)
  | fail)
   (refine hpan _ _ (PanG.k ([(i, pOb l q')]) (nx) (by simp [hn, hi, hne, zab, zac, zaa, getK] <;> omega) ?_); try simp)
   exact PPost.zbe (by simp [PR.bind, *])
  | ok v0 q0 =>
   simp only [hr0] at hw1;obtain ⟨g0a, g0b⟩ := zbA hl _ hr0 hp2;have ha := fun nx' (h : nx <= nx') => hE q0 0 i nx' (by omega) g0b (by omega) (by omega) (by omega);cases hr1 : zfu l f q0 0 with
   | stop pos e =>
    simp only [hr1] at ha;refine RetX.runW Tryz.func145 Tryz.ntmps145 rfl (by simp) fun Γ hn hpan => ?_
    repeat' (first
  | (refine zaf rfl ?_; simp [hne, hk, del, zzA])
  | (refine And.intro (by omega) ?_)
  | ((first | refine CallP.f2 rfl (hnx) (by first | simp [hne, hk, del, zzA] <;> rfl | fail) ?_ | refine CallP.f2 rfl (hm1) (by first | simp [hne, hk, del, zzA] <;> rfl | fail) ?_ | refine CallP.f2 rfl (hm2) (by first | simp [hne, hk, del, zzA] <;> rfl | fail) ?_ | fail); simp [hne, hk, del, zzA])
  | (refine CallP.ok1 (hh1 _ (by first | omega | (simp <;> omega) | fail)) (by first | (simp [hne, hk, del, zzA, zaa, getK, zab, zac]; done) | fail) (by rfl) (by first | assumption | (simp; done) | fail) (by rfl) (by simp) ?_; (try simp [hne, hk, del, zzA]))
  | (refine CallP.ok1 (hh2 _ (by first | omega | (simp <;> omega) | fail)) (by first | (simp [hne, hk, del, zzA, zaa, getK, zab, zac]; done) | fail) (by rfl) (by first | assumption | (simp; done) | fail) (by rfl) (by simp) ?_; (try simp [hne, hk, del, zzA]))
  | (refine CallP.ok1 (hw1 _ (by first | omega | (simp <;> omega) | fail)) (by first | (simp [hne, hk, del, zzA, zaa, getK, zab, zac]; done) | fail) (by rfl) (by first | assumption | (simp; done) | fail) (by rfl) (by simp) ?_; (try simp [hne, hk, del, zzA]))
  | (refine CallP.zgg (ha _ (by first | omega | (simp <;> omega) | fail)) (by first | (simp [hne, hk, del, zzA, zaa, getK, zab, zac]; done) | fail) (by rfl) (by first | assumption | (simp; done) | fail) (by rfl) (by simp) ?_; rintro ob' ⟨q', rfl⟩; refine ⟨_, Wk.refl _, ?_⟩)
  | (refine zbr (by first | rfl | fail) (by first | simp [hne, hk, del, zzA, frzN, frz1, zav, zau, St.frz, St.frzS, frzS, fv, za2, zbn, zbo, frzObS, zat, zan, del, frz, zbL] <;> rfl | fail) ?_)
  | fail)
    (refine hpan _ _ (PanG.k ([(i, pOb l q')]) (nx) (by simp [hn, hi, hne, zab, zac, zaa, getK] <;> omega) ?_); try simp)
    exact PPost.zbe (by simp [PR.bind, *])
   | ok v1 q1 =>
    have ha := fun nx' h => zeo (ha nx' h) hr1;obtain ⟨g1a, g1b⟩ := (zdB hl f).1 _ _ _ _ hr1 g0b;have hw2 := fun nx' (h : nx <= nx') => zgl hl [44] (q := q1) (i := i) (nx := nx') (by omega) g1b;cases hr2 : zcV l q1 [[44]] with
    | stop pos e =>
     simp only [hr2] at hw2;refine RetX.runW Tryz.func145 Tryz.ntmps145 rfl (by simp) fun Γ hn hpan => ?_
     repeat' (first
  | (refine zaf rfl ?_; simp [hne, hk, del, zzA])
  | (refine And.intro (by omega) ?_)
  | ((first | refine CallP.f2 rfl (hnx) (by first | simp [hne, hk, del, zzA] <;> rfl | fail) ?_ | refine CallP.f2 rfl (hm1) (by first | simp [hne, hk, del, zzA] <;> rfl | fail) ?_ | refine CallP.f2 rfl (hm2) (by first | simp [hne, hk, del, zzA] <;> rfl | fail) ?_ | fail); simp [hne, hk, del, zzA])
  | (refine CallP.ok1 (hh1 _ (by first | omega | (simp <;> omega) | fail)) (by first | (simp [hne, hk, del, zzA, zaa, getK, zab, zac]; done) | fail) (by rfl) (by first | assumption | (simp; done) | fail) (by rfl) (by simp) ?_; (try simp [hne, hk, del, zzA]))
  | (refine CallP.ok1 (hh2 _ (by first | omega | (simp <;> omega) | fail)) (by first | (simp [hne, hk, del, zzA, zaa, getK, zab, zac]; done) | fail) (by rfl) (by first | assumption | (simp; done) | fail) (by rfl) (by simp) ?_; (try simp [hne, hk, del, zzA]))
  | (refine CallP.ok1 (hw1 _ (by first | omega | (simp <;> omega) | fail)) (by first | (simp [hne, hk, del, zzA, zaa, getK, zab, zac]; done) | fail) (by rfl) (by first | assumption | (simp; done) | fail) (by rfl) (by simp) ?_; (try simp [hne, hk, del, zzA]))
  | (refine CallP.ok1 (ha _ (by first | omega | (simp <;> omega) | fail)) (by first | (simp [hne, hk, del, zzA, zaa, getK, zab, zac]; done) | fail) (by rfl) (by first | assumption | (simp; done) | fail) (by rfl) (by simp) ?_; (try simp [hne, hk, del, zzA]))
  | (refine CallP.zgg (hw2 _ (by first | omega | (simp <;> omega) | fail)) (by first | (simp [hne, hk, del, zzA, zaa, getK, zab, zac]; done) | fail) (by rfl) (by first | assumption | (simp; done) | fail) (by rfl) (by simp) ?_; rintro ob' ⟨q', rfl⟩; refine ⟨_, Wk.refl _, ?_⟩)
  | (refine zbr (by first | rfl | fail) (by first | simp [hne, hk, del, zzA, frzN, frz1, zav, zau, St.frz, St.frzS, frzS, fv, za2, zbn, zbo, frzObS, zat, zan, del, frz, zbL] <;> rfl | fail) ?_)
  | fail)
     (refine hpan _ _ (PanG.k ([(i, pOb l q')]) (nx) (by simp [hn, hi, hne, zab, zac, zaa, getK] <;> omega) ?_); try simp)
     exact PPost.zbe (by simp [PR.bind, *])
    | ok v2 q2 =>
     simp only [hr2] at hw2;obtain ⟨g2a, g2b⟩ := zbA hl _ hr2 g1b;have hb := fun nx' (h : nx <= nx') => hE q2 0 i nx' (by omega) g2b (by omega) (by omega) (by omega);cases hr3 : zfu l f q2 0 with
     | stop pos e =>
      simp only [hr3] at hb;refine RetX.runW Tryz.func145 Tryz.ntmps145 rfl (by simp) fun Γ hn hpan => ?_
      repeat' (first
  | (refine zaf rfl ?_; simp [hne, hk, del, zzA])
  | (refine And.intro (by omega) ?_)
  | ((first | refine CallP.f2 rfl (hnx) (by first | simp [hne, hk, del, zzA] <;> rfl | fail) ?_ | refine CallP.f2 rfl (hm1) (by first | simp [hne, hk, del, zzA] <;> rfl | fail) ?_ | refine CallP.f2 rfl (hm2) (by first | simp [hne, hk, del, zzA] <;> rfl | fail) ?_ | fail); simp [hne, hk, del, zzA])
  | (refine CallP.ok1 (hh1 _ (by first | omega | (simp <;> omega) | fail)) (by first | (simp [hne, hk, del, zzA, zaa, getK, zab, zac]; done) | fail) (by rfl) (by first | assumption | (simp; done) | fail) (by rfl) (by simp) ?_; (try simp [hne, hk, del, zzA]))
  | (refine CallP.ok1 (hh2 _ (by first | omega | (simp <;> omega) | fail)) (by first | (simp [hne, hk, del, zzA, zaa, getK, zab, zac]; done) | fail) (by rfl) (by first | assumption | (simp; done) | fail) (by rfl) (by simp) ?_; (try simp [hne, hk, del, zzA]))
  | (refine CallP.ok1 (hw1 _ (by first | omega | (simp <;> omega) | fail)) (by first | (simp [hne, hk, del, zzA, zaa, getK, zab, zac]; done) | fail) (by rfl) (by first | assumption | (simp; done) | fail) (by rfl) (by simp) ?_; (try simp [hne, hk, del, zzA]))
  | (refine CallP.ok1 (ha _ (by first | omega | (simp <;> omega) | fail)) (by first | (simp [hne, hk, del, zzA, zaa, getK, zab, zac]; done) | fail) (by rfl) (by first | assumption | (simp; done) | fail) (by rfl) (by simp) ?_; (try simp [hne, hk, del, zzA]))
  | (refine CallP.ok1 (hw2 _ (by first | omega | (simp <;> omega) | fail)) (by first | (simp [hne, hk, del, zzA, zaa, getK, zab, zac]; done) | fail) (by rfl) (by first | assumption | (simp; done) | fail) (by rfl) (by simp) ?_; (try simp [hne, hk, del, zzA]))
  | (refine CallP.zgg (hb _ (by first | omega | (simp <;> omega) | fail)) (by first | (simp [hne, hk, del, zzA, zaa, getK, zab, zac]; done) | fail) (by rfl) (by first | assumption | (simp; done) | fail) (by rfl) (by simp) ?_; rintro ob' ⟨q', rfl⟩; refine ⟨_, Wk.refl _, ?_⟩)
  | (refine zbr (by first | rfl | fail) (by first | simp [hne, hk, del, zzA, frzN, frz1, zav, zau, St.frz, St.frzS, frzS, fv, za2, zbn, zbo, frzObS, zat, zan, del, frz, zbL] <;> rfl | fail) ?_)
  | fail)
      (refine hpan _ _ (PanG.k ([(i, pOb l q')]) (nx) (by simp [hn, hi, hne, zab, zac, zaa, getK] <;> omega) ?_); try simp)
      exact PPost.zbe (by simp [PR.bind, *])
     | ok v3 q3 =>
      have hb := fun nx' h => zeo (hb nx' h) hr3;obtain ⟨g3a, g3b⟩ := (zdB hl f).1 _ _ _ _ hr3 g2b;have hw3 := fun nx' (h : nx <= nx') => zgl hl [41] (q := q3) (i := i) (nx := nx') (by omega) g3b;cases hr4 : zcV l q3 [[41]] with
      | stop pos e =>
       simp only [hr4] at hw3;refine RetX.runW Tryz.func145 Tryz.ntmps145 rfl (by simp) fun Γ hn hpan => ?_
       repeat' (first
  | (refine zaf rfl ?_; simp [hne, hk, del, zzA])
  | (refine And.intro (by omega) ?_)
  | ((first | refine CallP.f2 rfl (hnx) (by first | simp [hne, hk, del, zzA] <;> rfl | fail) ?_ | refine CallP.f2 rfl (hm1) (by first | simp [hne, hk, del, zzA] <;> rfl | fail) ?_ | refine CallP.f2 rfl (hm2) (by first | simp [hne, hk, del, zzA] <;> rfl | fail) ?_ | fail); simp [hne, hk, del, zzA])
  | (refine CallP.ok1 (hh1 _ (by first | omega | (simp <;> omega) | fail)) (by first | (simp [hne, hk, del, zzA, zaa, getK, zab, zac]; done) | fail) (by rfl) (by first | assumption | (simp; done) | fail) (by rfl) (by simp) ?_; (try simp [hne, hk, del, zzA]))
  | (refine CallP.ok1 (hh2 _ (by first | omega | (simp <;> omega) | fail)) (by first | (simp [hne, hk, del, zzA, zaa, getK, zab, zac]; done) | fail) (by rfl) (by first | assumption | (simp; done) | fail) (by rfl) (by simp) ?_; (try simp [hne, hk, del, zzA]))
  | (refine CallP.ok1 (hw1 _ (by first | omega | (simp <;> omega) | fail)) (by first | (simp [hne, hk, del, zzA, zaa, getK, zab, zac]; done) | fail) (by rfl) (by first | assumption | (simp; done) | fail) (by rfl) (by simp) ?_; (try simp [hne, hk, del, zzA]))
  | (refine CallP.ok1 (ha _ (by first | omega | (simp <;> omega) | fail)) (by first | (simp [hne, hk, del, zzA, zaa, getK, zab, zac]; done) | fail) (by rfl) (by first | assumption | (simp; done) | fail) (by rfl) (by simp) ?_; (try simp [hne, hk, del, zzA]))
  | (refine CallP.ok1 (hw2 _ (by first | omega | (simp <;> omega) | fail)) (by first | (simp [hne, hk, del, zzA, zaa, getK, zab, zac]; done) | fail) (by rfl) (by first | assumption | (simp; done) | fail) (by rfl) (by simp) ?_; (try simp [hne, hk, del, zzA]))
  | (refine CallP.ok1 (hb _ (by first | omega | (simp <;> omega) | fail)) (by first | (simp [hne, hk, del, zzA, zaa, getK, zab, zac]; done) | fail) (by rfl) (by first | assumption | (simp; done) | fail) (by rfl) (by simp) ?_; (try simp [hne, hk, del, zzA]))
  | (refine CallP.zgg (hw3 _ (by first | omega | (simp <;> omega) | fail)) (by first | (simp [hne, hk, del, zzA, zaa, getK, zab, zac]; done) | fail) (by rfl) (by first | assumption | (simp; done) | fail) (by rfl) (by simp) ?_; rintro ob' ⟨q', rfl⟩; refine ⟨_, Wk.refl _, ?_⟩)
  | (refine zbr (by first | rfl | fail) (by first | simp [hne, hk, del, zzA, frzN, frz1, zav, zau, St.frz, St.frzS, frzS, fv, za2, zbn, zbo, frzObS, zat, zan, del, frz, zbL] <;> rfl | fail) ?_)
  | fail)
       (refine hpan _ _ (PanG.k ([(i, pOb l q')]) (nx) (by simp [hn, hi, hne, zab, zac, zaa, getK] <;> omega) ?_); try simp)
       exact PPost.zbe (by simp [PR.bind, *])
      | ok v4 q4 =>
       simp only [hr4] at hw3;obtain ⟨g4a, g4b⟩ := zbA hl _ hr4 g3b;refine RetX.runW Tryz.func145 Tryz.ntmps145 rfl (by simp) fun Γ hn hpan => ?_
       repeat' (first
  | (refine zaf rfl ?_; simp [hne, hk, del, zzA])
  | (refine And.intro (by omega) ?_)
  | ((first | refine CallP.f2 rfl (hnx) (by first | simp [hne, hk, del, zzA] <;> rfl | fail) ?_ | refine CallP.f2 rfl (hm1) (by first | simp [hne, hk, del, zzA] <;> rfl | fail) ?_ | refine CallP.f2 rfl (hm2) (by first | simp [hne, hk, del, zzA] <;> rfl | fail) ?_ | fail); simp [hne, hk, del, zzA])
  | (refine CallP.ok1 (hh1 _ (by first | omega | (simp <;> omega) | fail)) (by first | (simp [hne, hk, del, zzA, zaa, getK, zab, zac]; done) | fail) (by rfl) (by first | assumption | (simp; done) | fail) (by rfl) (by simp) ?_; (try simp [hne, hk, del, zzA]))
  | (refine CallP.ok1 (hh2 _ (by first | omega | (simp <;> omega) | fail)) (by first | (simp [hne, hk, del, zzA, zaa, getK, zab, zac]; done) | fail) (by rfl) (by first | assumption | (simp; done) | fail) (by rfl) (by simp) ?_; (try simp [hne, hk, del, zzA]))
  | (refine CallP.ok1 (hw1 _ (by first | omega | (simp <;> omega) | fail)) (by first | (simp [hne, hk, del, zzA, zaa, getK, zab, zac]; done) | fail) (by rfl) (by first | assumption | (simp; done) | fail) (by rfl) (by simp) ?_; (try simp [hne, hk, del, zzA]))
  | (refine CallP.ok1 (ha _ (by first | omega | (simp <;> omega) | fail)) (by first | (simp [hne, hk, del, zzA, zaa, getK, zab, zac]; done) | fail) (by rfl) (by first | assumption | (simp; done) | fail) (by rfl) (by simp) ?_; (try simp [hne, hk, del, zzA]))
  | (refine CallP.ok1 (hw2 _ (by first | omega | (simp <;> omega) | fail)) (by first | (simp [hne, hk, del, zzA, zaa, getK, zab, zac]; done) | fail) (by rfl) (by first | assumption | (simp; done) | fail) (by rfl) (by simp) ?_; (try simp [hne, hk, del, zzA]))
  | (refine CallP.ok1 (hb _ (by first | omega | (simp <;> omega) | fail)) (by first | (simp [hne, hk, del, zzA, zaa, getK, zab, zac]; done) | fail) (by rfl) (by first | assumption | (simp; done) | fail) (by rfl) (by simp) ?_; (try simp [hne, hk, del, zzA]))
  | (refine CallP.ok1 (hw3 _ (by first | omega | (simp <;> omega) | fail)) (by first | (simp [hne, hk, del, zzA, zaa, getK, zab, zac]; done) | fail) (by rfl) (by first | assumption | (simp; done) | fail) (by rfl) (by simp) ?_; (try simp [hne, hk, del, zzA]))
  | (refine zbr (by first | rfl | fail) (by first | simp [hne, hk, del, zzA, frzN, frz1, zav, zau, St.frz, St.frzS, frzS, fv, za2, zbn, zbo, frzObS, zat, zan, del, frz, zbL] <;> rfl | fail) ?_)
  | fail)
       (refine EndW.frzN 1 ?_; simp [del, hne, zzA])
       refine EndW.norm ?_;simp [St.norm, za6, zbN, zb7, zce, hne, zzA]
       (refine EndW.z ([(i, pOb l q4)]) (N := nx) Tryz.results145 (by simp [hne, hi] <;> omega) ?_; simp [hne, hi])
       exact PPost.zdw (by simp [PR.bind, *]; rfl) (by simp [Exp.row_eq, Exp.op, Exp.n, Exp.unit, Exp.s, Exp.args]) rfl
theorem zmM {l : List Tok} (hl : TokOK l) {f p : Nat} (hE : zhS l f) (hf : 4 * (l.length - p) <= f) {t : Tok} (ht : l[p]? = some t) (hk : ¬ t.kind = 2) (h1 : isB l p [116, 114, 117, 101] = false) (h2 : isB l p [102, 97, 108, 115, 101] = false)
  (h3 : isB l p [109, 105, 110] = false) (h4 : isB l p [109, 97, 120] = true) {i nx : Nat} (hi : i < nx) :
  RetX Tryz.prog 145 [.ptr i 0] [(i, pOb l p)] nx (PPost l i nx ziN (zbG l (f + 1) p)) := zjF hl hE hf ht hk h1 h2 (.inl ⟨h3, h4⟩) hi
theorem zqr {l : List Tok} (hl : TokOK l) {f p : Nat} {form : Int} (hE : zhS l f) (hp : p < l.length) (hf : 4 * (l.length - p) + 1 <= f)
  (hf0 : form = 0) (h1 : isB l p [105, 102] = true) {i nx : Nat} (hi : i < nx) :
  RetX Tryz.prog 136 [.ptr i 0, zkv form] [(i, pOb l p)] nx (PPost l i nx zls (zcy l (f + 1) p form)) := by
 have hne := zbm hi;have hll := hl.len;rw [zcy];have hp2 := zbR hl h1;subst hf0;have hf0 : (0 : Int) = 0 := rfl;have hf3 : (0 : Int) <= 3 := by omega
 have hh1 := fun nx' (h : nx <= nx') => zb9 l p [105, 102] i nx' (by omega) hp hl.len;simp only [h1, if_true] at hh1;rw [if_pos ⟨rfl, h1⟩];have ha := fun nx' (h : nx <= nx') => hE (p + 1) 0 i nx' (by omega) hp2 (by omega) (by omega) (by omega);cases hr0 : zfu l f (p + 1) 0 with
 | stop pos e =>
  simp only [hr0] at ha;refine RetX.runW Tryz.func136 Tryz.ntmps136 rfl (by simp) fun Γ hn hpan => ?_
  repeat' (first
  | (refine zaf rfl ?_; simp [hne, hf0, hf3, del, zzA])
  | (refine CallP.ok1 (hh1 _ (by first | omega | (simp <;> omega) | fail)) (by first | (simp [hne, hf0, hf3, del, zzA, zaa, getK, zab, zac]; done) | fail) (by rfl) (by first | assumption | (simp; done) | fail) (by rfl) (by simp) ?_; (try simp [hne, hf0, hf3, del, zzA]))
  | (refine CallP.zgg (ha _ (by first | omega | (simp <;> omega) | fail)) (by first | (simp [hne, hf0, hf3, del, zzA, zaa, getK, zab, zac]; done) | fail) (by rfl) (by first | assumption | (simp; done) | fail) (by rfl) (by simp) ?_; rintro ob' ⟨q', rfl⟩; refine ⟨_, Wk.refl _, ?_⟩)
  | fail)
  (refine hpan _ _ (PanG.k ([(i, pOb l q')]) (nx) (by simp [hn, hi, hne, zab, zac, zaa, getK] <;> omega) ?_); try simp)
  exact PPost.zbe (by simp [PR.bind, *])
 | ok v0 q0 =>
  have ha := fun nx' h => zeo (ha nx' h) hr0;obtain ⟨g0a, g0b⟩ := (zdB hl f).1 _ _ _ _ hr0 hp2;have hw1 := fun nx' (h : nx <= nx') => zgl hl [116, 104, 101, 110] (q := q0) (i := i) (nx := nx') (by omega) g0b;cases hr1 : zcV l q0 [[116, 104, 101, 110]] with
  | stop pos e =>
   simp only [hr1] at hw1;refine RetX.runW Tryz.func136 Tryz.ntmps136 rfl (by simp) fun Γ hn hpan => ?_
   repeat' (first
  | (refine zaf rfl ?_; simp [hne, hf0, hf3, del, zzA])
  | (refine CallP.ok1 (hh1 _ (by first | omega | (simp <;> omega) | fail)) (by first | (simp [hne, hf0, hf3, del, zzA, zaa, getK, zab, zac]; done) | fail) (by rfl) (by first | assumption | (simp; done) | fail) (by rfl) (by simp) ?_; (try simp [hne, hf0, hf3, del, zzA]))
  | (refine CallP.ok1 (ha _ (by first | omega | (simp <;> omega) | fail)) (by first | (simp [hne, hf0, hf3, del, zzA, zaa, getK, zab, zac]; done) | fail) (by rfl) (by first | assumption | (simp; done) | fail) (by rfl) (by simp) ?_; (try simp [hne, hf0, hf3, del, zzA]))
  | (refine CallP.zgg (hw1 _ (by first | omega | (simp <;> omega) | fail)) (by first | (simp [hne, hf0, hf3, del, zzA, zaa, getK, zab, zac]; done) | fail) (by rfl) (by first | assumption | (simp; done) | fail) (by rfl) (by simp) ?_; rintro ob' ⟨q', rfl⟩; refine ⟨_, Wk.refl _, ?_⟩)
  | (refine zbr (by first | rfl | fail) (by first | simp [hne, hf0, hf3, del, zzA, frzN, frz1, zav, zau, St.frz, St.frzS, frzS, fv, za2, zbn, zbo, frzObS, zat, zan, del, frz, zbL] <;> rfl | fail) ?_)
  | fail)
   (refine hpan _ _ (PanG.k ([(i, pOb l q')]) (nx) (by simp [hn, hi, hne, zab, zac, zaa, getK] <;> omega) ?_); try simp)
   exact PPost.zbe (by simp [PR.bind, *])
  | ok v1 q1 =>
   simp only [hr1] at hw1;obtain ⟨g1a, g1b⟩ := zbA hl _ hr1 g0b;have hb := fun nx' (h : nx <= nx') => hE q1 0 i nx' (by omega) g1b (by omega) (by omega) (by omega);cases hr2 : zfu l f q1 0 with
   | stop pos e =>
    simp only [hr2] at hb;refine RetX.runW Tryz.func136 Tryz.ntmps136 rfl (by simp) fun Γ hn hpan => ?_
    repeat' (first
  | (refine zaf rfl ?_; simp [hne, hf0, hf3, del, zzA])
  | (refine CallP.ok1 (hh1 _ (by first | omega | (simp <;> omega) | fail)) (by first | (simp [hne, hf0, hf3, del, zzA, zaa, getK, zab, zac]; done) | fail) (by rfl) (by first | assumption | (simp; done) | fail) (by rfl) (by simp) ?_; (try simp [hne, hf0, hf3, del, zzA]))
  | (refine CallP.ok1 (ha _ (by first | omega | (simp <;> omega) | fail)) (by first | (simp [hne, hf0, hf3, del, zzA, zaa, getK, zab, zac]; done) | fail) (by rfl) (by first | assumption | (simp; done) | fail) (by rfl) (by simp) ?_; (try simp [hne, hf0, hf3, del, zzA]))
  | (refine CallP.ok1 (hw1 _ (by first | omega | (simp <;> omega) | fail)) (by first | (simp [hne, hf0, hf3, del, zzA, zaa, getK, zab, zac]; done) | fail) (by rfl) (by first | assumption | (simp; done) | fail) (by rfl) (by simp) ?_; (try simp [hne, hf0, hf3, del, zzA]))
  | (refine CallP.zgg (hb _ (by first | omega | (simp <;> omega) | fail)) (by first | (simp [hne, hf0, hf3, del, zzA, zaa, getK, zab, zac]; done) | fail) (by rfl) (by first | assumption | (simp; done) | fail) (by rfl) (by simp) ?_; rintro ob' ⟨q', rfl⟩; refine ⟨_, Wk.refl _, ?_⟩)
  | (refine zbr (by first | rfl | fail) (by first | simp [hne, hf0, hf3, del, zzA, frzN, frz1, zav, zau, St.frz, St.frzS, frzS, fv, za2, zbn, zbo, frzObS, zat, zan, del, frz, zbL] <;> rfl | fail) ?_)
  | fail)
    (refine hpan _ _ (PanG.k ([(i, pOb l q')]) (nx) (by simp [hn, hi, hne, zab, zac, zaa, getK] <;> omega) ?_); try simp)
    exact PPost.zbe (by simp [PR.bind, *])
   | ok v2 q2 =>
    have hb := fun nx' h => zeo (hb nx' h) hr2;obtain ⟨g2a, g2b⟩ := (zdB hl f).1 _ _ _ _ hr2 g1b;have hw2 := fun nx' (h : nx <= nx') => zgl hl [101, 108, 115, 101] (q := q2) (i := i) (nx := nx') (by omega) g2b;cases hr3 : zcV l q2 [[101, 108, 115, 101]] with
    | stop pos e =>
     simp only [hr3] at hw2;refine RetX.runW Tryz.func136 Tryz.ntmps136 rfl (by simp) fun Γ hn hpan => ?_
     repeat' (first
  | (refine zaf rfl ?_; simp [hne, hf0, hf3, del, zzA])
  | (refine CallP.ok1 (hh1 _ (by first | omega | (simp <;> omega) | fail)) (by first | (simp [hne, hf0, hf3, del, zzA, zaa, getK, zab, zac]; done) | fail) (by rfl) (by first | assumption | (simp; done) | fail) (by rfl) (by simp) ?_; (try simp [hne, hf0, hf3, del, zzA]))
  | (refine CallP.ok1 (ha _ (by first | omega | (simp <;> omega) | fail)) (by first | (simp [hne, hf0, hf3, del, zzA, zaa, getK, zab, zac]; done) | fail) (by rfl) (by first | assumption | (simp; done) | fail) (by rfl) (by simp) ?_; (try simp [hne, hf0, hf3, del, zzA]))
  | (refine CallP.ok1 (hw1 _ (by first | omega | (simp <;> omega) | fail)) (by first | (simp [hne, hf0, hf3, del, zzA, zaa, getK, zab, zac]; done) | fail) (by rfl) (by first | assumption | (simp; done) | fail) (by rfl) (by simp) ?_; (try simp [hne, hf0, hf3, del, zzA]))
  | (refine CallP.ok1 (hb _ (by first | omega | (simp <;> omega) | fail)) (by first | (simp [hne, hf0, hf3, del, zzA, zaa, getK, zab, zac]; done) | fail) (by rfl) (by first | assumption | (simp; done) | fail) (by rfl) (by simp) ?_; (try simp [hne, hf0, hf3, del, zzA]))
  | (refine CallP.zgg (hw2 _ (by first | omega | (simp <;> omega) | fail)) (by first | (simp [hne, hf0, hf3, del, zzA, zaa, getK, zab, zac]; done) | fail) (by rfl) (by first | assumption | (simp; done) | fail) (by rfl) (by simp) ?_; rintro ob' ⟨q', rfl⟩; refine ⟨_, Wk.refl _, ?_⟩)
  | (refine zbr (by first | rfl | fail) (by first | simp [hne, hf0, hf3, del, zzA, frzN, frz1, zav, zau, St.frz, St.frzS, frzS, fv, za2, zbn, zbo, frzObS, zat, zan, del, frz, zbL] <;> rfl | fail) ?_)
  | fail)
     (refine hpan _ _ (PanG.k ([(i, pOb l q')]) (nx) (by simp [hn, hi, hne, zab, zac, zaa, getK] <;> omega) ?_); try simp)
     exact PPost.zbe (by simp [PR.bind, *])
    | ok v3 q3 =>
     simp only [hr3] at hw2;obtain ⟨g3a, g3b⟩ := zbA hl _ hr3 g2b;have hc := fun nx' (h : nx <= nx') => hE q3 0 i nx' (by omega) g3b (by omega) (by omega) (by omega);cases hr4 : zfu l f q3 0 with
     | stop pos e =>
      simp only [hr4] at hc;refine RetX.runW Tryz.func136 Tryz.ntmps136 rfl (by simp) fun Γ hn hpan => ?_
      repeat' (first
  | (refine zg7 (fun nx' h' => hc nx' (by simp at h'; omega)) (by first | (simp [hne, hf0, hf3, del, zzA, zaa, getK, zab, zac, zad, zar]; done) | fail) (by rfl) (by first | assumption | simp) (by rfl) (by simp) ?_ ?_; rintro env' ob' n' hn' ⟨q', rfl⟩; refine ⟨_, Wk.refl _, ?_⟩)
  | (refine zfQ rfl (by simp) ?_; simp)
  | (refine zaf rfl ?_; simp [hne, hf0, hf3, del, zzA])
  | (refine zee (hC _ (zb6 [i] nx (by simp <;> omega) (by simp <;> omega) (by apply Exists.intro; apply And.intro; (focus (repeat' (first | exact KF.nil | exact KL.nil | apply KF.cons | apply KL.cons 0 rfl | apply KL.cons 1 rfl | apply KL.cons 2 rfl | apply KL.cons 3 rfl | apply KL.cons 4 rfl | apply KL.cons 5 rfl | apply KL.cons 6 rfl | apply KL.cons 7 rfl | apply KL.cons 8 rfl | apply KL.cons 9 rfl))); kernel_rfl))) rfl; done)
  | (refine zdv rfl (by kernel_rfl) (by first | (simp [hn] <;> omega) | fail) fun C k hC hk => ?_; simp [hne, hf0, hf3, del, zzA])
  | (refine CallP.ok1 (hh1 _ (by first | omega | (simp <;> omega) | fail)) (by first | (simp [hne, hf0, hf3, del, zzA, zaa, getK, zab, zac]; done) | fail) (by rfl) (by first | assumption | (simp; done) | fail) (by rfl) (by simp) ?_; (try simp [hne, hf0, hf3, del, zzA]))
  | (refine CallP.ok1 (ha _ (by first | omega | (simp <;> omega) | fail)) (by first | (simp [hne, hf0, hf3, del, zzA, zaa, getK, zab, zac]; done) | fail) (by rfl) (by first | assumption | (simp; done) | fail) (by rfl) (by simp) ?_; (try simp [hne, hf0, hf3, del, zzA]))
  | (refine CallP.ok1 (hw1 _ (by first | omega | (simp <;> omega) | fail)) (by first | (simp [hne, hf0, hf3, del, zzA, zaa, getK, zab, zac]; done) | fail) (by rfl) (by first | assumption | (simp; done) | fail) (by rfl) (by simp) ?_; (try simp [hne, hf0, hf3, del, zzA]))
  | (refine CallP.ok1 (hb _ (by first | omega | (simp <;> omega) | fail)) (by first | (simp [hne, hf0, hf3, del, zzA, zaa, getK, zab, zac]; done) | fail) (by rfl) (by first | assumption | (simp; done) | fail) (by rfl) (by simp) ?_; (try simp [hne, hf0, hf3, del, zzA]))
  | (refine CallP.ok1 (hw2 _ (by first | omega | (simp <;> omega) | fail)) (by first | (simp [hne, hf0, hf3, del, zzA, zaa, getK, zab, zac]; done) | fail) (by rfl) (by first | assumption | (simp; done) | fail) (by rfl) (by simp) ?_; (try simp [hne, hf0, hf3, del, zzA]))
  | (refine zbr (by first | rfl | fail) (by first | simp [hne, hf0, hf3, del, zzA, frzN, frz1, zav, zau, St.frz, St.frzS, frzS, fv, za2, zbn, zbo, frzObS, zat, zan, del, frz, zbL] <;> rfl | fail) ?_)
  | fail)
      (refine hpan _ _ (PanG.k ([(i, pOb l q')]) (nx) (by simp [hn, hi, hne, zab, zac, zaa, getK] <;> omega) ?_); try simp)
      exact PPost.zbe (by simp [PR.bind, *])
     | ok v4 q4 =>
      have hc := fun nx' h => zeo (hc nx' h) hr4;obtain ⟨g4a, g4b⟩ := (zdB hl f).1 _ _ _ _ hr4 g3b;refine RetX.runW Tryz.func136 Tryz.ntmps136 rfl (by simp) fun Γ hn hpan => ?_
      repeat' (first
  | (refine zi3 (fun nx' h' => hc nx' (by simp at h'; omega)) (by first | (simp [hne, hf0, hf3, del, zzA, zaa, getK, zab, zac, zad, zar]; done) | fail) (by rfl) (by first | assumption | simp) (by rfl) (by simp [D.under, Ob.under]) (by simp) ?_; (try simp [hne, hf0, hf3, del, zzA]))
  | (refine zaf rfl ?_; simp [hne, hf0, hf3, del, zzA])
  | (refine ⟨hC _ (zb6 [i] nx (by simp <;> omega) (by simp <;> omega) (by apply Exists.intro; apply And.intro; (focus (repeat' (first | exact KF.nil | exact KL.nil | apply KF.cons | apply KL.cons 0 rfl | apply KL.cons 1 rfl | apply KL.cons 2 rfl | apply KL.cons 3 rfl | apply KL.cons 4 rfl | apply KL.cons 5 rfl | apply KL.cons 6 rfl | apply KL.cons 7 rfl | apply KL.cons 8 rfl | apply KL.cons 9 rfl))); kernel_rfl)), hk _ (zdG 8 _ _ _ ?_)⟩; clear hC hk C k; simp [hne, hf0, hf3, del, zzA])
  | (refine zdv rfl (by kernel_rfl) (by first | (simp [hn] <;> omega) | fail) fun C k hC hk => ?_; simp [hne, hf0, hf3, del, zzA])
  | (refine zcB rfl ?_; simp [hne, hf0, hf3, del, zzA])
  | (refine CallP.ok1 (hh1 _ (by first | omega | (simp <;> omega) | fail)) (by first | (simp [hne, hf0, hf3, del, zzA, zaa, getK, zab, zac]; done) | fail) (by rfl) (by first | assumption | (simp; done) | fail) (by rfl) (by simp) ?_; (try simp [hne, hf0, hf3, del, zzA]))
  | (refine CallP.ok1 (ha _ (by first | omega | (simp <;> omega) | fail)) (by first | (simp [hne, hf0, hf3, del, zzA, zaa, getK, zab, zac]; done) | fail) (by rfl) (by first | assumption | (simp; done) | fail) (by rfl) (by simp) ?_; (try simp [hne, hf0, hf3, del, zzA]))
  | (refine CallP.ok1 (hw1 _ (by first | omega | (simp <;> omega) | fail)) (by first | (simp [hne, hf0, hf3, del, zzA, zaa, getK, zab, zac]; done) | fail) (by rfl) (by first | assumption | (simp; done) | fail) (by rfl) (by simp) ?_; (try simp [hne, hf0, hf3, del, zzA]))
  | (refine CallP.ok1 (hb _ (by first | omega | (simp <;> omega) | fail)) (by first | (simp [hne, hf0, hf3, del, zzA, zaa, getK, zab, zac]; done) | fail) (by rfl) (by first | assumption | (simp; done) | fail) (by rfl) (by simp) ?_; (try simp [hne, hf0, hf3, del, zzA]))
  | (refine CallP.ok1 (hw2 _ (by first | omega | (simp <;> omega) | fail)) (by first | (simp [hne, hf0, hf3, del, zzA, zaa, getK, zab, zac]; done) | fail) (by rfl) (by first | assumption | (simp; done) | fail) (by rfl) (by simp) ?_; (try simp [hne, hf0, hf3, del, zzA]))
  | (refine zbr (by first | rfl | fail) (by first | simp [hne, hf0, hf3, del, zzA, frzN, frz1, zav, zau, St.frz, St.frzS, frzS, fv, za2, zbn, zbo, frzObS, zat, zan, del, frz, zbL] <;> rfl | fail) ?_)
  | fail)
      (refine EndW.frzN 1 ?_; simp [del, hne, zzA])
      refine EndW.norm ?_;simp [St.norm, za6, zbN, zb7, zce, hne, zzA]
      (refine EndW.z ([(i, pOb l q4)]) (N := nx) Tryz.results136 (by simp [hne, hi] <;> omega) ?_; simp [hne, hi])
      exact PPost.zdw (by simp [PR.bind, *]; rfl) (by simp [Exp.row_eq, Exp.op, Exp.n, Exp.unit, Exp.s, Exp.args]) rfl
theorem zmP {l : List Tok} (hl : TokOK l) {f p : Nat} {form : Int} (hE : zhS l f) (hp : p < l.length) (hf : 4 * (l.length - p) + 1 <= f)
  (hf0 : form = 0) (hf3 : form <= 3) (h1 : isB l p [105, 102] = false) (h2 : isB l p [110, 111, 116] = true) {i nx : Nat} (hi : i < nx) :
  RetX Tryz.prog 136 [.ptr i 0, zkv form] [(i, pOb l p)] nx (PPost l i nx zls (zcy l (f + 1) p form)) := by
 have hne := zbm hi;have hll := hl.len;rw [zcy];have hh1 := fun nx' (h : nx <= nx') => zb9 l p [105, 102] i nx' (by omega) hp hl.len;rw [h1] at hh1;simp only [if_true, Bool.false_eq_true, if_false] at hh1;have hp2 := zbR hl h2;have hh2 := fun nx' (h : nx <= nx') => zb9 l p [110, 111, 116] i nx' (by omega) hp hl.len;rw [h2] at hh2;simp only [if_true, Bool.false_eq_true, if_false] at hh2;rw [if_neg (by simp [*]), if_pos ⟨hf3, h2⟩];have ha := fun nx' (h : nx <= nx') => hE (p + 1) 3 i nx' (by omega) hp2 (by omega) (by omega) (by omega);cases hr0 : zfu l f (p + 1) 3 with
 | stop pos e =>
  simp only [hr0] at ha;refine RetX.runW Tryz.func136 Tryz.ntmps136 rfl (by simp) fun Γ hn hpan => ?_
  repeat' (first
  | (refine zaf rfl ?_; simp [hne, hf0, hf3, del, zzA])
  | (refine CallP.ok1 (hh1 _ (by first | omega | (simp <;> omega) | fail)) (by first | (simp [hne, hf0, hf3, del, zzA, zaa, getK, zab, zac]; done) | fail) (by rfl) (by first | assumption | (simp; done) | fail) (by rfl) (by simp) ?_; (try simp [hne, hf0, hf3, del, zzA]))
  | (refine CallP.ok1 (hh2 _ (by first | omega | (simp <;> omega) | fail)) (by first | (simp [hne, hf0, hf3, del, zzA, zaa, getK, zab, zac]; done) | fail) (by rfl) (by first | assumption | (simp; done) | fail) (by rfl) (by simp) ?_; (try simp [hne, hf0, hf3, del, zzA]))
  | (refine CallP.zgg (ha _ (by first | omega | (simp <;> omega) | fail)) (by first | (simp [hne, hf0, hf3, del, zzA, zaa, getK, zab, zac]; done) | fail) (by rfl) (by first | assumption | (simp; done) | fail) (by rfl) (by simp) ?_; rintro ob' ⟨q', rfl⟩; refine ⟨_, Wk.refl _, ?_⟩)
  | fail)
  (refine hpan _ _ (PanG.k ([(i, pOb l q')]) (nx) (by simp [hn, hi, hne, zab, zac, zaa, getK] <;> omega) ?_); try simp)
  exact PPost.zbe (by simp [PR.bind, *])
 | ok v0 q0 =>
  have ha := fun nx' h => zeo (ha nx' h) hr0;refine RetX.runW Tryz.func136 Tryz.ntmps136 rfl (by simp) fun Γ hn hpan => ?_
  repeat' (first
  | (refine zaf rfl ?_; simp [hne, hf0, hf3, del, zzA])
  | (refine CallP.ok1 (hh1 _ (by first | omega | (simp <;> omega) | fail)) (by first | (simp [hne, hf0, hf3, del, zzA, zaa, getK, zab, zac]; done) | fail) (by rfl) (by first | assumption | (simp; done) | fail) (by rfl) (by simp) ?_; (try simp [hne, hf0, hf3, del, zzA]))
  | (refine CallP.ok1 (hh2 _ (by first | omega | (simp <;> omega) | fail)) (by first | (simp [hne, hf0, hf3, del, zzA, zaa, getK, zab, zac]; done) | fail) (by rfl) (by first | assumption | (simp; done) | fail) (by rfl) (by simp) ?_; (try simp [hne, hf0, hf3, del, zzA]))
  | (refine CallP.ok1 (ha _ (by first | omega | (simp <;> omega) | fail)) (by first | (simp [hne, hf0, hf3, del, zzA, zaa, getK, zab, zac]; done) | fail) (by rfl) (by first | assumption | (simp; done) | fail) (by rfl) (by simp) ?_; (try simp [hne, hf0, hf3, del, zzA]))
  | fail)
  (refine EndW.frzN 1 ?_; simp [del, hne, zzA])
  refine EndW.norm ?_;simp [St.norm, za6, zbN, zb7, zce, hne, zzA]
  (refine EndW.z ([(i, pOb l q0)]) (N := nx) Tryz.results136 (by simp [hne, hi] <;> omega) ?_; simp [hne, hi])
  exact PPost.zdw (by simp [PR.bind, *]; rfl) (by simp [Exp.row_eq, Exp.op, Exp.n, Exp.unit, Exp.s, Exp.args]) rfl
theorem zmO {l : List Tok} (hl : TokOK l) {f p : Nat} {form : Int} (hE : zhS l f) (hp : p < l.length) (hf : 4 * (l.length - p) + 1 <= f)
  (hf0 : ¬ form = 0) (hf3 : form <= 3) (h2 : isB l p [110, 111, 116] = true) {i nx : Nat} (hi : i < nx) :
  RetX Tryz.prog 136 [.ptr i 0, zkv form] [(i, pOb l p)] nx (PPost l i nx zls (zcy l (f + 1) p form)) := by
 have hne := zbm hi;have hll := hl.len;rw [zcy];have hp2 := zbR hl h2;have hh2 := fun nx' (h : nx <= nx') => zb9 l p [110, 111, 116] i nx' (by omega) hp hl.len;rw [h2] at hh2;simp only [if_true, Bool.false_eq_true, if_false] at hh2;rw [if_neg (by simp [*]), if_pos ⟨hf3, h2⟩];have ha := fun nx' (h : nx <= nx') => hE (p + 1) 3 i nx' (by omega) hp2 (by omega) (by omega) (by omega);cases hr0 : zfu l f (p + 1) 3 with
 | stop pos e =>
  simp only [hr0] at ha;refine RetX.runW Tryz.func136 Tryz.ntmps136 rfl (by simp) fun Γ hn hpan => ?_
  repeat' (first
  | (refine zaf rfl ?_; simp [hne, hf0, hf3, del, zzA])
  | (refine CallP.ok1 (hh2 _ (by first | omega | (simp <;> omega) | fail)) (by first | (simp [hne, hf0, hf3, del, zzA, zaa, getK, zab, zac]; done) | fail) (by rfl) (by first | assumption | (simp; done) | fail) (by rfl) (by simp) ?_; (try simp [hne, hf0, hf3, del, zzA]))
  | (refine CallP.zgg (ha _ (by first | omega | (simp <;> omega) | fail)) (by first | (simp [hne, hf0, hf3, del, zzA, zaa, getK, zab, zac]; done) | fail) (by rfl) (by first | assumption | (simp; done) | fail) (by rfl) (by simp) ?_; rintro ob' ⟨q', rfl⟩; refine ⟨_, Wk.refl _, ?_⟩)
  | fail)
  (refine hpan _ _ (PanG.k ([(i, pOb l q')]) (nx) (by simp [hn, hi, hne, zab, zac, zaa, getK] <;> omega) ?_); try simp)
  exact PPost.zbe (by simp [PR.bind, *])
 | ok v0 q0 =>
  have ha := fun nx' h => zeo (ha nx' h) hr0;refine RetX.runW Tryz.func136 Tryz.ntmps136 rfl (by simp) fun Γ hn hpan => ?_
  repeat' (first
  | (refine zaf rfl ?_; simp [hne, hf0, hf3, del, zzA])
  | (refine CallP.ok1 (hh2 _ (by first | omega | (simp <;> omega) | fail)) (by first | (simp [hne, hf0, hf3, del, zzA, zaa, getK, zab, zac]; done) | fail) (by rfl) (by first | assumption | (simp; done) | fail) (by rfl) (by simp) ?_; (try simp [hne, hf0, hf3, del, zzA]))
  | (refine CallP.ok1 (ha _ (by first | omega | (simp <;> omega) | fail)) (by first | (simp [hne, hf0, hf3, del, zzA, zaa, getK, zab, zac]; done) | fail) (by rfl) (by first | assumption | (simp; done) | fail) (by rfl) (by simp) ?_; (try simp [hne, hf0, hf3, del, zzA]))
  | fail)
  (refine EndW.frzN 1 ?_; simp [del, hne, zzA])
  refine EndW.norm ?_;simp [St.norm, za6, zbN, zb7, zce, hne, zzA]
  (refine EndW.z ([(i, pOb l q0)]) (N := nx) Tryz.results136 (by simp [hne, hi] <;> omega) ?_; simp [hne, hi])
  exact PPost.zdw (by simp [PR.bind, *]; rfl) (by simp [Exp.row_eq, Exp.op, Exp.n, Exp.unit, Exp.s, Exp.args]) rfl
theorem zlo {l : List Tok} (hl : TokOK l) {f p : Nat} {form : Int} (hP : zj5 l f) (hp : p < l.length) (hf : 4 * (l.length - p) + 1 <= f)
  (hf0 : form = 0) (hf3 : form <= 3) (h1 : isB l p [105, 102] = false) (h2 : isB l p [110, 111, 116] = false) {i nx : Nat} (hi : i < nx) :
  RetX Tryz.prog 136 [.ptr i 0, zkv form] [(i, pOb l p)] nx (PPost l i nx zls (zcy l (f + 1) p form)) := by
 have hne := zbm hi;have hll := hl.len;rw [zcy];have hh1 := fun nx' (h : nx <= nx') => zb9 l p [105, 102] i nx' (by omega) hp hl.len;rw [h1] at hh1;simp only [if_true, Bool.false_eq_true, if_false] at hh1;have hh2 := fun nx' (h : nx <= nx') => zb9 l p [110, 111, 116] i nx' (by omega) hp hl.len;rw [h2] at hh2;simp only [if_true, Bool.false_eq_true, if_false] at hh2;rw [if_neg (by simp [*]), if_neg (by simp [*])];have ha := fun nx' (h : nx <= nx') => hP p i nx' (by omega) hp (by omega);cases hr0 : zbG l f p with
 | stop pos e =>
  simp only [hr0] at ha;refine RetX.runW Tryz.func136 Tryz.ntmps136 rfl (by simp) fun Γ hn hpan => ?_
  repeat' (first
  | (refine zaf rfl ?_; simp [hne, hf0, hf3, del, zzA])
  | (refine CallP.ok1 (hh1 _ (by first | omega | (simp <;> omega) | fail)) (by first | (simp [hne, hf0, hf3, del, zzA, zaa, getK, zab, zac]; done) | fail) (by rfl) (by first | assumption | (simp; done) | fail) (by rfl) (by simp) ?_; (try simp [hne, hf0, hf3, del, zzA]))
  | (refine CallP.ok1 (hh2 _ (by first | omega | (simp <;> omega) | fail)) (by first | (simp [hne, hf0, hf3, del, zzA, zaa, getK, zab, zac]; done) | fail) (by rfl) (by first | assumption | (simp; done) | fail) (by rfl) (by simp) ?_; (try simp [hne, hf0, hf3, del, zzA]))
  | (refine CallP.zgg (ha _ (by first | omega | (simp <;> omega) | fail)) (by first | (simp [hne, hf0, hf3, del, zzA, zaa, getK, zab, zac]; done) | fail) (by rfl) (by first | assumption | (simp; done) | fail) (by rfl) (by simp) ?_; rintro ob' ⟨q', rfl⟩; refine ⟨_, Wk.refl _, ?_⟩)
  | fail)
  (refine hpan _ _ (PanG.k ([(i, pOb l q')]) (nx) (by simp [hn, hi, hne, zab, zac, zaa, getK] <;> omega) ?_); try simp)
  exact PPost.zbe (by simp [PR.bind, *])
 | ok v0 q0 =>
  have ha := fun nx' h => zeo (ha nx' h) hr0;refine RetX.runW Tryz.func136 Tryz.ntmps136 rfl (by simp) fun Γ hn hpan => ?_
  repeat' (first
  | (refine zaf rfl ?_; simp [hne, hf0, hf3, del, zzA])
  | (refine CallP.ok1 (hh1 _ (by first | omega | (simp <;> omega) | fail)) (by first | (simp [hne, hf0, hf3, del, zzA, zaa, getK, zab, zac]; done) | fail) (by rfl) (by first | assumption | (simp; done) | fail) (by rfl) (by simp) ?_; (try simp [hne, hf0, hf3, del, zzA]))
  | (refine CallP.ok1 (hh2 _ (by first | omega | (simp <;> omega) | fail)) (by first | (simp [hne, hf0, hf3, del, zzA, zaa, getK, zab, zac]; done) | fail) (by rfl) (by first | assumption | (simp; done) | fail) (by rfl) (by simp) ?_; (try simp [hne, hf0, hf3, del, zzA]))
  | (refine CallP.ok1 (ha _ (by first | omega | (simp <;> omega) | fail)) (by first | (simp [hne, hf0, hf3, del, zzA, zaa, getK, zab, zac]; done) | fail) (by rfl) (by first | assumption | (simp; done) | fail) (by rfl) (by simp) ?_; (try simp [hne, hf0, hf3, del, zzA]))
  | fail)
  refine EndW.norm ?_;simp [St.norm, za6, zbN, zb7, zce, hne, zzA]
  (refine EndW.z ([(i, pOb l q0)]) (N := nx) Tryz.results136 (by simp [hne, hi] <;> omega) ?_; simp [hne, hi])
  exact PPost.zdw (by simp [PR.bind, *]; rfl) (by simp [Exp.row_eq, Exp.op, Exp.n, Exp.unit, Exp.s, Exp.args]) rfl
theorem zln {l : List Tok} (hl : TokOK l) {f p : Nat} {form : Int} (hP : zj5 l f) (hp : p < l.length) (hf : 4 * (l.length - p) + 1 <= f)
  (hf0 : ¬ form = 0) (hf3 : form <= 3) (h2 : isB l p [110, 111, 116] = false) {i nx : Nat} (hi : i < nx) :
  RetX Tryz.prog 136 [.ptr i 0, zkv form] [(i, pOb l p)] nx (PPost l i nx zls (zcy l (f + 1) p form)) := by
 have hne := zbm hi;have hll := hl.len;rw [zcy];have hh2 := fun nx' (h : nx <= nx') => zb9 l p [110, 111, 116] i nx' (by omega) hp hl.len;rw [h2] at hh2;simp only [if_true, Bool.false_eq_true, if_false] at hh2;rw [if_neg (by simp [*]), if_neg (by simp [*])];have ha := fun nx' (h : nx <= nx') => hP p i nx' (by omega) hp (by omega);cases hr0 : zbG l f p with
 | stop pos e =>
  simp only [hr0] at ha;refine RetX.runW Tryz.func136 Tryz.ntmps136 rfl (by simp) fun Γ hn hpan => ?_
  repeat' (first
  | (refine zaf rfl ?_; simp [hne, hf0, hf3, del, zzA])
  | (refine CallP.ok1 (hh2 _ (by first | omega | (simp <;> omega) | fail)) (by first | (simp [hne, hf0, hf3, del, zzA, zaa, getK, zab, zac]; done) | fail) (by rfl) (by first | assumption | (simp; done) | fail) (by rfl) (by simp) ?_; (try simp [hne, hf0, hf3, del, zzA]))
  | (refine CallP.zgg (ha _ (by first | omega | (simp <;> omega) | fail)) (by first | (simp [hne, hf0, hf3, del, zzA, zaa, getK, zab, zac]; done) | fail) (by rfl) (by first | assumption | (simp; done) | fail) (by rfl) (by simp) ?_; rintro ob' ⟨q', rfl⟩; refine ⟨_, Wk.refl _, ?_⟩)
  | fail)
  (refine hpan _ _ (PanG.k ([(i, pOb l q')]) (nx) (by simp [hn, hi, hne, zab, zac, zaa, getK] <;> omega) ?_); try simp)
  exact PPost.zbe (by simp [PR.bind, *])
 | ok v0 q0 =>
  have ha := fun nx' h => zeo (ha nx' h) hr0;refine RetX.runW Tryz.func136 Tryz.ntmps136 rfl (by simp) fun Γ hn hpan => ?_
  repeat' (first
  | (refine zaf rfl ?_; simp [hne, hf0, hf3, del, zzA])
  | (refine CallP.ok1 (hh2 _ (by first | omega | (simp <;> omega) | fail)) (by first | (simp [hne, hf0, hf3, del, zzA, zaa, getK, zab, zac]; done) | fail) (by rfl) (by first | assumption | (simp; done) | fail) (by rfl) (by simp) ?_; (try simp [hne, hf0, hf3, del, zzA]))
  | (refine CallP.ok1 (ha _ (by first | omega | (simp <;> omega) | fail)) (by first | (simp [hne, hf0, hf3, del, zzA, zaa, getK, zab, zac]; done) | fail) (by rfl) (by first | assumption | (simp; done) | fail) (by rfl) (by simp) ?_; (try simp [hne, hf0, hf3, del, zzA]))
  | fail)
  refine EndW.norm ?_;simp [St.norm, za6, zbN, zb7, zce, hne, zzA]
  (refine EndW.z ([(i, pOb l q0)]) (N := nx) Tryz.results136 (by simp [hne, hi] <;> omega) ?_; simp [hne, hi])
  exact PPost.zdw (by simp [PR.bind, *]; rfl) (by simp [Exp.row_eq, Exp.op, Exp.n, Exp.unit, Exp.s, Exp.args]) rfl
theorem zlm {l : List Tok} (hl : TokOK l) {f p : Nat} {form : Int} (hP : zj5 l f) (hp : p < l.length) (hf : 4 * (l.length - p) + 1 <= f)
  (hf0 : ¬ form = 0) (hf3 : ¬ form <= 3) {i nx : Nat} (hi : i < nx) :
  RetX Tryz.prog 136 [.ptr i 0, zkv form] [(i, pOb l p)] nx (PPost l i nx zls (zcy l (f + 1) p form)) := by
 have hne := zbm hi;have hll := hl.len;rw [zcy];rw [if_neg (by simp [*]), if_neg (by simp [*])];have ha := fun nx' (h : nx <= nx') => hP p i nx' (by omega) hp (by omega);cases hr0 : zbG l f p with
 | stop pos e =>
  simp only [hr0] at ha;refine RetX.runW Tryz.func136 Tryz.ntmps136 rfl (by simp) fun Γ hn hpan => ?_
  repeat' (first
  | (refine zaf rfl ?_; simp [hne, hf0, hf3, del, zzA])
  | (refine CallP.zgg (ha _ (by first | omega | (simp <;> omega) | fail)) (by first | (simp [hne, hf0, hf3, del, zzA, zaa, getK, zab, zac]; done) | fail) (by rfl) (by first | assumption | (simp; done) | fail) (by rfl) (by simp) ?_; rintro ob' ⟨q', rfl⟩; refine ⟨_, Wk.refl _, ?_⟩)
  | fail)
  (refine hpan _ _ (PanG.k ([(i, pOb l q')]) (nx) (by simp [hn, hi, hne, zab, zac, zaa, getK] <;> omega) ?_); try simp)
  exact PPost.zbe (by simp [PR.bind, *])
 | ok v0 q0 =>
  have ha := fun nx' h => zeo (ha nx' h) hr0;refine RetX.runW Tryz.func136 Tryz.ntmps136 rfl (by simp) fun Γ hn hpan => ?_
  repeat' (first
  | (refine zaf rfl ?_; simp [hne, hf0, hf3, del, zzA])
  | (refine CallP.ok1 (ha _ (by first | omega | (simp <;> omega) | fail)) (by first | (simp [hne, hf0, hf3, del, zzA, zaa, getK, zab, zac]; done) | fail) (by rfl) (by first | assumption | (simp; done) | fail) (by rfl) (by simp) ?_; (try simp [hne, hf0, hf3, del, zzA]))
  | fail)
  refine EndW.norm ?_;simp [St.norm, za6, zbN, zb7, zce, hne, zzA]
  (refine EndW.z ([(i, pOb l q0)]) (N := nx) Tryz.results136 (by simp [hne, hi] <;> omega) ?_; simp [hne, hi])
  exact PPost.zdw (by simp [PR.bind, *]; rfl) (by simp [Exp.row_eq, Exp.op, Exp.n, Exp.unit, Exp.s, Exp.args]) rfl
theorem zmN {l : List Tok} (hl : TokOK l) {f : Nat} (hE : zhS l f) (hP : zj5 l f) : zvX l (f + 1) := by
 intro p form i nx hi hp hf hm0 hm7;have hf' : 4 * (l.length - p) + 1 <= f := by omega
 by_cases hf0 : form = 0
 ·have hf3 : form <= 3 := by omega
  cases h1 : isB l p [105, 102] with
  | true => exact zqr hl hE hp hf' hf0 h1 hi
  | false =>
   cases h2 : isB l p [110, 111, 116] with
   | true => exact zmP hl hE hp hf' hf0 hf3 h1 h2 hi
   | false => exact zlo hl hP hp hf' hf0 hf3 h1 h2 hi
 ·by_cases hf3 : form <= 3
  ·cases h2 : isB l p [110, 111, 116] with
   | true => exact zmO hl hE hp hf' hf0 hf3 h2 hi
   | false => exact zln hl hP hp hf' hf0 hf3 h2 hi
  ·exact zlm hl hP hp hf' hf0 hf3 hi
end Go.Proofs.YtmlpcgkaonifcaaGreatDoor
namespace Go.Proofs.YtmlpcgkaonifcaaGreatDoor
open Go Go.VL
theorem zwK {e : Exp} {d : Nat} (h : zbi (d + 1) e = true) (ho : zbX e.op = 1) : ∃ x, e.args = [x] := by
 obtain ⟨h1, _⟩ := zdP h;exact List.length_eq_one_iff.1 (by omega)
theorem zr9 {e : Exp} {d : Nat} (h : zbi (d + 1) e = true) (ho : zbX e.op = 2) : ∃ x y, e.args = [x, y] := by
 obtain ⟨h1, _⟩ := zdP h
 match hl : e.args, h1 with
 | [a, b], _ => exact ⟨a, b, rfl⟩
 | [], h => simp at h; omega
 | [a], h => simp at h; omega
 | a :: b :: c :: l, h => simp at h; omega
theorem zwJ {e : Exp} {d : Nat} (h : zbi (d + 1) e = true) (ho : zbX e.op = 3) : ∃ x y z, e.args = [x, y, z] := by
 obtain ⟨h1, _⟩ := zdP h
 match hl : e.args, h1 with
 | [a, b, c], _ => exact ⟨a, b, c, rfl⟩
 | [], h => simp at h; omega
 | [a], h => simp at h; omega
 | [a, b], h => simp at h; omega
 | a :: b :: c :: d :: l, h => simp at h; omega
theorem zkW {lets : List Let} {r : Nat} {g : GM} {m n : Nat} (hgs : ∀ s v, gF g s = some v -> inC v) (hrb : ∀ l ∈ lets, zbi 12 l.body = true) (hl : lets.length <= 20) (hmr : m ≠ r) (hnl : n <= lets.length) (hN : zuH lets r g m n) : ∀ (d : Nat) (e : Exp), zbi d e = true -> zet lets r g m n e
 | 0, e, h => by simp [zbi] at h
 | d + 1, e, h => by
  obtain ⟨h1, h2, h3, h4⟩ := zdP h;by_cases c0 : e.op = 0
  ·exact zpU hmr c0
  by_cases c1 : e.op = 1
  ·exact zoo hmr c1 hN
  have hV : ∀ x ∈ e.args, zet lets r g m n x := fun x hx => zkW hgs hrb hl hmr hnl hN d x (h4 c0 c1 x hx);have hT : ∀ x ∈ e.args, TMok lets.length (valL lets (gF g) n x) := fun x hx => zmy hrb hgs n d x (h4 c0 c1 x hx);by_cases c2 : e.op = 10
  ·obtain ⟨x, y, he⟩ := zr9 h (by rw [c2]; rfl);rw [he] at hV hT;exact zpY hmr c2 he (hV x (by simp)) (hT x (by simp)) (hV y (by simp)) (hT y (by simp))
  by_cases c3 : e.op = 11
  ·obtain ⟨x, y, he⟩ := zr9 h (by rw [c3]; rfl);rw [he] at hV hT;exact zsr hmr c3 he (hV x (by simp)) (hT x (by simp)) (hV y (by simp)) (hT y (by simp))
  by_cases c4 : e.op = 12
  ·obtain ⟨x, he⟩ := zwK h (by rw [c4]; rfl);rw [he] at hV hT;exact zpV hmr c4 he (hV x (by simp)) (hT x (by simp))
  by_cases c5 : e.op = 13
  ·obtain ⟨x, y, z, he⟩ := zwJ h (by rw [c5]; rfl);rw [he] at hV hT;exact zss hmr c5 he (hV x (by simp)) (hT x (by simp)) (hV y (by simp)) (hT y (by simp)) (hV z (by simp)) (hT z (by simp))
  obtain ⟨x, y, he⟩ := zr9 h (by unfold zbX; split <;> first | omega | (split <;> first | omega | (split <;> first | omega | (split <;> omega))));rw [he] at hV hT;exact zpX hmr (by omega) hl hnl he (hV x (by simp)) (hT x (by simp)) (hV y (by simp)) (hT y (by simp))
theorem ztC {lets : List Let} {r : Nat} {g : GM} {m : Nat} (hgs : ∀ s v, gF g s = some v -> inC v) (hrb : ∀ l ∈ lets, zbi 12 l.body = true) (hl : lets.length <= 20) (hmr : m ≠ r) :
  ∀ n, n <= lets.length -> ∀ (d : Nat) (e : Exp), zbi d e = true -> zet lets r g m n e := by
 intro n
 induction n using Nat.strongRecOn with
 | _ n ih =>
  intro hnl;refine zkW hgs hrb hl hmr hnl fun s t nx hm hr ht => ?_;exact zs2 hgs hrb (fun i l hi hx => zqa (ih i hi (by omega) 12 l.body (hrb l (List.mem_of_getElem? hx))) hmr) s hnl hl hmr t nx hm hr ht
def gV (vars : List Var) : GM := vars.foldl (fun g v => if asc g v.name = none then zer g v.name v.n else g) []
theorem zvo {vars : List Var} {i : Nat} {v : Var} (h : vars[i]? = some v) : gV (vars.take (i + 1)) = if asc (gV (vars.take i)) v.name = none then zer (gV (vars.take i)) v.name v.n else gV (vars.take i) := zhs _ _ h
def zuw (v : Var) : Bool := decide (v.n <= 1099511627776) && decide (-1099511627776 <= v.n)
theorem zvp : ∀ (vars : List Var) (g : GM), (∀ s v, asc g s = some v -> inC v) -> (∀ v ∈ vars, zuw v = true) -> ∀ s v, asc (vars.foldl (fun g v => if asc g v.name = none then zer g v.name v.n else g) g) s = some v -> inC v
 | [], g, hg, _, s, v, h => hg s v h
 | x :: l, g, hg, hv, s, v, h => by
  refine zvp l _ ?_ (fun y hy => hv y (by simp [hy])) s v h;intro s' v' h';simp only at h';split at h'
  ·rw [zr8] at h';split at h'
   ·cases h';have := hv x (by simp);simp only [zuw, Bool.and_eq_true, decide_eq_true_eq] at this;exact ⟨this.2, this.1⟩
   ·exact hg s' v' h'
  ·exact hg s' v' h'
def zsl (lets : List Let) : Tab := List.replicate lets.length (0, 0, false)
def zjr (lets : List Let) (vars : List Var) (e : Exp) : Int × Int :=
 if zdI lets e = true /\ vars.all zuw = true then ((zjX (valL lets (gF (gV vars)) lets.length e (zsl lets)).1).1, (zjX (valL lets (gF (gV vars)) lets.length e (zsl lets)).1).2.1) else (0, 1)
end Go.Proofs.YtmlpcgkaonifcaaGreatDoor
namespace Go.Proofs.YtmlpcgkaonifcaaGreatDoor
open Go Go.VL
def zqk : List UInt8 := [100, 117, 101]
def zoy : List UInt8 := [102, 105, 110, 101]
def zlc : List UInt8 := [112, 97, 121]
def zjA : List UInt8 := [99, 111, 118, 101, 114]
def zie : List UInt8 := [104, 111, 108, 100]
def zkF (b : By) (c : List UInt8) : Option Exp :=
 if c = zqk then some b.due else if c = zoy then some b.fine else if c = zlc then some b.pay else if c = zjA then some b.cover else if c = zie then some b.hold else none
def zeK (b : By) (c : List UInt8) (vars : List Var) : Int × Int := match zkF b c with
 | some e => if zc1 b = true then zjr b.lets vars e else (0, 1)
 | none => (0, 1)
end Go.Proofs.YtmlpcgkaonifcaaGreatDoor
namespace Go.Proofs.YtmlpcgkaonifcaaGreatDoor
open Go Go.VL
structure Mv where
 to_ : Int
 gain : Int
structure Nd where
 mine : Bool
 moves : List Mv
def zd4 (l : List Mv) : U := .sl (l.map fun m => [.int .i64 m.to_, .int .i64 m.gain])
def zu6 (m : Mv) : D := .u (.agg [.int .i64 m.to_, .int .i64 m.gain])
def zcG (l : List Nd) : U := .sl (l.map fun x => [.bool x.mine, .sl (x.moves.map fun m => [.int .i64 m.to_, .int .i64 m.gain])])
def zmr (i n : Nat) (m : Mv) : Bool := decide ((i : Int) < m.to_) && decide (m.to_ < n) && decide (-1099511627776 <= m.gain) && decide (m.gain <= 1099511627776)
def znM (i n : Nat) (x : Nd) : Bool := decide (x.moves.length <= 8) && x.moves.all (zmr i n)
def zqQ (n : Nat) : Nat -> List Nd -> Bool
 | _, [] => true
 | i, x :: r => znM i n x && zqQ n (i + 1) r
def zfr (l : List Nd) : Bool := decide (0 < l.length) && decide (l.length <= 3000) && zqQ l.length 0 l
def zmb (mine : Bool) (f : Int -> Int) (s : Int × Int × Nat) (m : Mv) : Int × Int × Nat :=
 if s.2.2 = 0 \/ mine = true /\ s.1 < m.gain + f m.to_ \/ mine = false /\ m.gain + f m.to_ < s.1 then (m.gain + f m.to_, s.2.2, s.2.2 + 1) else (s.1, s.2.1, s.2.2 + 1)
def zwH (mine : Bool) (f : Int -> Int) (ms : List Mv) : Int × Int × Nat := ms.foldl (zmb mine f) (0, -1, 0)
def svs (i : Nat) : List Nd -> List (Int × Int)
 | [] => []
 | x :: r => ((zwH x.mine (fun t => ((svs (i + 1) r).getD (t.toNat - (i + 1)) (0, -1)).1) x.moves).1, (zwH x.mine (fun t => ((svs (i + 1) r).getD (t.toNat - (i + 1)) (0, -1)).1) x.moves).2.1) :: svs (i + 1) r
def zgm (l : List Nd) : List Int := (svs 0 l).map (·.1)
def zgi (l : List Nd) : List Int := (svs 0 l).map (·.2)
def ofP (l : List Nd) (ms : List Int) (mine : Bool) : List Int := (l.zip ms).map fun p => if p.1.mine = mine then p.2 else -1
def znN : List UInt8 := [109, 101, 109, 98, 101, 114, 115]
def zso : List UInt8 := [112, 101, 114, 105, 111, 100]
def zw1 : List UInt8 := [108, 97, 115, 116]
def zu5 : List UInt8 := [97, 103, 101]
def zur : List UInt8 := [112, 111, 116]
def zus : List UInt8 := [98, 105, 100]
def zs3 : List UInt8 := [104, 111, 108, 100, 115]
def zpK (b : By) (c : List UInt8) (vars : List Var) : Int × Int := (max (zeK b c vars).1 0, (zeK b c vars).2)
def ztG (b : By) (n p : Int) : Int × Int := zpK b zqk [⟨znN, 1, n⟩, ⟨zso, 1, p⟩, ⟨zw1, 1, b.last⟩, ⟨zu5, 2, p * b.period⟩]
def znG (b : By) (n p pot : Int) : Int × Int := zpK b zlc [⟨zur, 3, pot⟩, ⟨zus, 3, 0⟩, ⟨znN, 1, n⟩, ⟨zso, 1, p⟩]
def zlM (b : By) (n : Int) : Int × Int := zpK b zie [⟨znN, 1, n⟩, ⟨zs3, 3, 0⟩]
def zsV (b : By) (n k j due : Int) : Int := (if b.backs = 0 then n - k + j else n) * (due - (due * b.fund).tdiv 1000)
def zhP (b : By) (n k p due : Int) (j : Nat) : Int × Int :=
 if p < k /\ 0 < j then (if (znG b n p (zsV b n k j due)).2 = 0 then (min (znG b n p (zsV b n k j due)).1 (zsV b n k j due) - j * due, 0) else (0, (znG b n p (zsV b n k j due)).2)) else (-(j * due), 0)
def zgQ (b : By) (n k p due : Int) : Nat -> List Int -> List Int × Int
 | 0, out => (out, 0)
 | j + 1, out => if (zhP b n k p due j).2 = 0 then zgQ b n k p due j ((zhP b n k p due j).1 :: out) else ([], (zhP b n k p due j).2)
def zen (b : By) (n : Int) (k : Nat) (p : Int) : List Int × Int :=
 if b.kind = 2 then (List.replicate (k + 1) 0, 0)
 else if (ztG b n p).2 ≠ 0 then ([], (ztG b n p).2)
 else if 1099511627776 < n * (ztG b n p).1 then ([], 3)
 else zgQ b n k p (ztG b n p).1 (k + 1) []
def zm8 (b : By) (n k j : Int) : Bool := decide (j < k) && decide (k < n) && decide (b.voices * n <= 1000 * (n - k))
def zit (k : Nat) (base : Int) (g : List Int) : Nat -> List Mv
 | 0 => [⟨base + k, g.getD 0 0⟩]
 | i + 1 => ⟨base + k - (i + 1 : Nat), g.getD (i + 1) 0⟩ :: zit k base g i
def zir (k : Nat) (base : Int) (g : List Int) : Nat -> List Nd
 | 0 => [⟨true, zit k base g 0⟩]
 | j + 1 => ⟨true, zit k base g (j + 1)⟩ :: zir k base g j
def zhK (b : By) (n : Int) (k : Nat) (lastP : Bool) (base end_ : Int) : Nat -> List Nd
 | 0 => [⟨false, ⟨if lastP = true then end_ else base + k, 0⟩ :: if zm8 b n k 0 = true then [⟨end_, 0⟩] else []⟩]
 | j + 1 => ⟨false, ⟨if lastP = true then end_ else base + k - (j + 1 : Nat), 0⟩ :: if zm8 b n k (j + 1 : Nat) = true then [⟨end_, 0⟩] else []⟩ :: zhK b n k lastP base end_ j
def zgK (b : By) (n : Int) (k : Nat) (p a end_ : Int) (g : List Int) : List Nd :=
 zir k (a + (k + 1)) g k ++ zhK b n k (decide (p = b.last - 1)) (a + 2 * (k + 1)) end_ k
def zkE (m : Int) : Int -> List Int -> Bool
 | _, [] => true
 | l, x :: r => decide (l < x) && decide (x < m) && zkE m x r
def zeO (b : By) (m : Int) (c : List Int) : Bool := zkE m (-1) c && zc1 b && decide (1 <= m) && decide (m <= 60)
def ziI (b : By) (n : Int) (k : Nat) (end_ : Int) : Nat -> List Nd -> Nat -> List Nd × Int
 | _, out, 0 => (out ++ [⟨false, []⟩], 0)
 | p, out, r + 1 => if (zen b n k p).2 = 0 then ziI b n k end_ (p + 1) (out ++ zgK b n k p out.length end_ (zen b n k p).1) r else ([], (zen b n k p).2)
def zph (b : By) (n : Int) (k : Nat) : List Nd × Int :=
 if 7 < k \/ 3000 <= 2 * ((k : Int) + 1) * b.last then ([], 6) else ziI b n k (2 * ((k : Int) + 1) * b.last) 0 [] b.last.toNat
def zd8 (b : By) (m : Int) (c : List Int) : List Nd × Int := if zeO b m c = true then zph b m c.length else ([], 1)
end Go.Proofs.YtmlpcgkaonifcaaGreatDoor
namespace Go.Proofs.YtmlpcgkaonifcaaGreatDoor
open Go Go.VL
theorem zmT (n : Nat) : ∀ (l : List Nd) (i : Nat), zqQ n i l = true ↔ ∀ (j : Nat) (x : Nd), l[j]? = some x -> znM (i + j) n x = true
 | [], i => by simp [zqQ]
 | x :: r, i => by
  rw [zqQ, Bool.and_eq_true, zmT n r (i + 1)];constructor
  ·rintro ⟨h1, h2⟩ j y hy;cases j with
   | zero => simp at hy; subst hy; exact h1
   | succ j => have := h2 j y (by simpa using hy); rw [show i + (j + 1) = i + 1 + j by omega]; exact this
  ·intro h;refine ⟨by simpa using h 0 x rfl, fun j y hy => ?_⟩;have := h (j + 1) y (by simpa using hy);rw [show i + (j + 1) = i + 1 + j by omega] at this;exact this
theorem zis (k : Nat) (base : Int) (g : List Int) : ∀ j, (zit k base g j).length = j + 1
 | 0 => rfl
 | j + 1 => by rw [zit, List.length_cons, zis k base g j]
theorem zfD (k : Nat) (base : Int) (g : List Int) : ∀ j, (zir k base g j).length = j + 1
 | 0 => rfl
 | j + 1 => by rw [zir, List.length_cons, zfD k base g j]
theorem zle (b : By) (n : Int) (k : Nat) (lp : Bool) (base e : Int) : ∀ j, (zhK b n k lp base e j).length = j + 1
 | 0 => rfl
 | j + 1 => by rw [zhK, List.length_cons, zle b n k lp base e j]
theorem zjI (b : By) (n : Int) (k : Nat) (p a e : Int) (g : List Int) : (zgK b n k p a e g).length = 2 * (k + 1) := by
 unfold zgK;rw [List.length_append, zfD, zle];omega
theorem zlA {k : Nat} {base : Int} {g : List Int} : ∀ {j : Nat} {m : Mv}, m ∈ zit k base g j -> ∃ i : Nat, i <= j /\ m.to_ = base + k - i /\ m.gain = g.getD i 0
 | 0, m, h => by simp [zit] at h; subst h; exact ⟨0, Nat.le_refl _, by simp, rfl⟩
 | j + 1, m, h => by
  rw [zit] at h;rcases List.mem_cons.1 h with rfl | h
  ·exact ⟨j + 1, Nat.le_refl _, rfl, rfl⟩
  ·obtain ⟨i, h1, h2⟩ := zlA h;exact ⟨i, by omega, h2⟩
theorem znP {k : Nat} {base : Int} {g : List Int} : ∀ {j i : Nat} {x : Nd}, (zir k base g j)[i]? = some x -> i <= j /\ x = ⟨true, zit k base g (j - i)⟩
 | 0, i, x, h => by
  cases i with
  | zero => simp [zir] at h; exact ⟨Nat.le_refl _, h.symm⟩
  | succ i => simp [zir] at h
 | j + 1, i, x, h => by
  rw [zir] at h;cases i with
  | zero => simp at h; exact ⟨by omega, h.symm⟩
  | succ i =>
   obtain ⟨h1, h2⟩ := znP (show (zir k base g j)[i]? = some x by simpa using h);exact ⟨by omega, by rw [h2, show j + 1 - (i + 1) = j - i by omega]⟩
theorem znD {b : By} {n : Int} {k : Nat} {lp : Bool} {base e : Int} : ∀ {j i : Nat} {x : Nd}, (zhK b n k lp base e j)[i]? = some x -> i <= j /\ x.mine = false /\ x.moves.length <= 2 /\ 0 < x.moves.length /\ ∀ m ∈ x.moves, m.gain = 0 /\ (m.to_ = e \/ lp = false /\ m.to_ = base + k - ((j - i : Nat) : Int))
 | 0, i, x, h => by
  cases i with
  | zero =>
   simp only [zhK, List.getElem?_cons_zero, Option.some.injEq] at h;subst h;refine ⟨Nat.le_refl _, rfl, by simp; split <;> simp, by simp, fun m hm => ?_⟩;simp only [List.mem_cons] at hm;rcases hm with rfl | hm
   ·refine ⟨rfl, ?_⟩;simp only;split
    ·exact .inl rfl
    ·rename_i hl;exact .inr ⟨by simpa using hl, by simp⟩
   ·split at hm
    ·simp at hm; subst hm; exact ⟨rfl, .inl rfl⟩
    ·cases hm
  | succ i => simp [zhK] at h
 | j + 1, i, x, h => by
  rw [zhK] at h;cases i with
  | zero =>
   simp only [List.getElem?_cons_zero, Option.some.injEq] at h;subst h;refine ⟨by omega, rfl, by simp; split <;> simp, by simp, fun m hm => ?_⟩;simp only [List.mem_cons] at hm;rcases hm with rfl | hm
   ·refine ⟨rfl, ?_⟩;simp only;split
    ·exact .inl rfl
    ·rename_i hl;exact .inr ⟨by simpa using hl, by simp⟩
   ·split at hm
    ·simp at hm; subst hm; exact ⟨rfl, .inl rfl⟩
    ·cases hm
  | succ i =>
   obtain ⟨h1, h2, h3, h4, h5⟩ := znD (show (zhK b n k lp base e j)[i]? = some x by simpa using h);exact ⟨by omega, h2, h3, h4, fun m hm => by rw [show j + 1 - (i + 1) = j - i by omega]; exact h5 m hm⟩
theorem zjs (b : By) (c : List UInt8) (vars : List Var) : 0 <= (zpK b c vars).1 := by unfold zpK; simp only; omega
theorem zvj {b : By} {n k p due : Int} {j : Nat} (hb : 0 <= b.fund /\ b.fund <= 1000) (hn : 1 <= n) (hd : 0 <= due) (hnd : n * due <= 1099511627776) (hk : 0 <= k /\ k <= n) (hj : (j : Int) <= k) : -1099511627776 <= (zhP b n k p due j).1 /\ (zhP b n k p due j).1 <= 1099511627776 := by
 have hjd : (j : Int) * due <= n * due := Int.mul_le_mul_of_nonneg_right (by omega) hd;have hj0 : 0 <= (j : Int) * due := Int.mul_nonneg (by omega) hd;have hf0 : 0 <= due * b.fund := Int.mul_nonneg hd hb.1;have hf1 : due * b.fund <= due * 1000 := Int.mul_le_mul_of_nonneg_left hb.2 hd;have hq0 : 0 <= (due * b.fund).tdiv 1000 := by rw [Int.tdiv_eq_ediv_of_nonneg hf0]; omega
 have hq1 : (due * b.fund).tdiv 1000 <= due := by rw [Int.tdiv_eq_ediv_of_nonneg hf0]; omega
 have hp : 0 <= zsV b n k j due /\ zsV b n k j due <= n * due := by
  unfold zsV;generalize (due * b.fund).tdiv 1000 = q at *;have hs : ∀ m : Int, 0 <= m -> m <= n -> 0 <= m * (due - q) /\ m * (due - q) <= n * due := fun m h0 h1 => by
   refine ⟨Int.mul_nonneg h0 (by omega), Int.le_trans (Int.mul_le_mul_of_nonneg_left (show due - q <= due by omega) h0) (Int.mul_le_mul_of_nonneg_right h1 hd)⟩
  split
  ·exact hs _ (by omega) (by omega)
  ·exact hs _ (by omega) (by omega)
 have hv := zjs b zlc [⟨zur, 3, zsV b n k j due⟩, ⟨zus, 3, 0⟩, ⟨znN, 1, n⟩, ⟨zso, 1, p⟩];unfold zhP;split
 ·split
  ·simp only [znG];generalize (zpK b zlc _).1 = v at *;omega
  ·simp
 ·simp only; omega
theorem ziJ {b : By} {n k p due : Int} {P : Int -> Prop} : ∀ {j : Nat} {out g : List Int}, zgQ b n k p due j out = (g, 0) -> (∀ i, i < j -> P (zhP b n k p due i).1) -> (∀ z ∈ out, P z) -> g.length = j + out.length /\ ∀ z ∈ g, P z
 | 0, out, g, h, _, ho => by
  rw [zgQ] at h;cases h;exact ⟨by simp, ho⟩
 | j + 1, out, g, h, hP, ho => by
  rw [zgQ] at h;split at h
  ·obtain ⟨h1, h2⟩ := ziJ h (fun i hi => hP i (by omega)) (fun z hz => by
    rcases List.mem_cons.1 hz with rfl | hz
    ·exact hP j (by omega)
    ·exact ho z hz)
   exact ⟨by rw [h1]; simp; omega, h2⟩
  ·rename_i hne;exact absurd (congrArg Prod.snd h) hne
theorem zn0 {b : By} {n : Int} {k : Nat} {p : Int} {g : List Int} (h : zen b n k p = (g, 0)) (hb : 0 <= b.fund /\ b.fund <= 1000) (hn : 1 <= n) (hk : (k : Int) <= n) : g.length = k + 1 /\ ∀ z ∈ g, -1099511627776 <= z /\ z <= 1099511627776 := by
 unfold zen at h;split at h
 ·cases h;exact ⟨by simp, fun z hz => by rw [List.eq_of_mem_replicate hz]; omega⟩
 split at h
 ·rename_i hne;exact absurd (congrArg Prod.snd h) hne
 split at h
 ·exact absurd (congrArg Prod.snd h) (by simp)
 rename_i hnd;have := ziJ (P := fun z => -1099511627776 <= z /\ z <= 1099511627776) h (fun i hi => zvj hb hn (zjs _ _ _) (by omega) ⟨by omega, hk⟩ (by omega)) (fun z hz => by cases hz);exact ⟨by rw [this.1]; rfl, this.2⟩
theorem zpj {b : By} {n : Int} {k : Nat} {p : Int} {g : List Int} (h : zen b n k p = (g, 0)) (hz : b.kind = 2 \/ k = 0) : ∀ z ∈ g, z = 0 := by
 unfold zen at h;split at h
 ·cases h;exact fun z hz => List.eq_of_mem_replicate hz
 rename_i hk2
 obtain rfl : k = 0 := by rcases hz with h1 | h1; · exact absurd h1 hk2
                          ·exact h1
 split at h
 ·rename_i hne;exact absurd (congrArg Prod.snd h) hne
 split at h
 ·exact absurd (congrArg Prod.snd h) (by simp)
 refine (ziJ (P := fun z => z = 0) h (fun i hi => ?_) (fun z hz => by cases hz)).2;obtain rfl : i = 0 := by omega
 unfold zhP;rw [if_neg (by omega)];simp
structure Outs (b : By) (n : Int) (k p : Nat) (e : Int) (out : List Nd) : Prop where
 len : out.length = 2 * (k + 1) * p
 ok : ∀ (i : Nat) (x : Nd), out[i]? = some x -> x.moves.length <= 8 /\ 0 < x.moves.length /\ ∀ m ∈ x.moves, (i : Int) < m.to_ /\ m.to_ <= e /\ -1099511627776 <= m.gain /\ m.gain <= 1099511627776 /\ (b.kind = 2 \/ k = 0 -> m.gain = 0)
theorem Outs.nodes {b : By} {n : Int} {k p : Nat} {out : List Nd} {g : List Int} (h : Outs b n k p (2 * ((k : Int) + 1) * b.last) out) (hp : (p : Int) < b.last) (hg : zen b n k p = (g, 0)) (hb : 0 <= b.fund /\ b.fund <= 1000) (hn : 1 <= n) (hk : (k : Int) <= n) (hk7 : k <= 7) :
  Outs b n k (p + 1) (2 * ((k : Int) + 1) * b.last) (out ++ zgK b n k p out.length (2 * ((k : Int) + 1) * b.last) g) := by
 obtain ⟨hgl, hgb⟩ := zn0 hg hb hn hk;have hgz := zpj hg;have hl := h.len;obtain ⟨q, hq⟩ : ∃ q : Nat, b.last = p + 1 + q := ⟨(b.last - p - 1).toNat, by omega⟩;have he : 2 * ((k : Int) + 1) * b.last = out.length + 2 * (k + 1) + 2 * (k + 1) * q := by
  rw [hq, show ((out.length : Nat) : Int) = 2 * (k + 1) * p by rw [hl]; push_cast; rfl];simp only [Int.mul_add, Int.add_mul];omega
 have hq0 : 0 <= 2 * ((k : Int) + 1) * q := by apply Int.mul_nonneg <;> omega
 have hq1 : 0 < q -> 2 * ((k : Int) + 1) <= 2 * ((k : Int) + 1) * q := fun h1 => by
  have := Int.mul_le_mul_of_nonneg_left (show (1 : Int) <= q by omega) (show 0 <= 2 * ((k : Int) + 1) by omega);omega
 generalize 2 * ((k : Int) + 1) * b.last = e at *;generalize 2 * ((k : Int) + 1) * q = w at *;refine ⟨by rw [List.length_append, zjI, hl]; exact (Nat.mul_succ _ _).symm, fun i x hx => ?_⟩;by_cases hi : i < out.length
 ·rw [List.getElem?_append_left hi] at hx;exact h.ok i x hx
 rw [List.getElem?_append_right (by omega)] at hx;unfold zgK at hx;by_cases hi2 : i - out.length < k + 1
 ·rw [List.getElem?_append_left (by rw [zfD]; omega)] at hx;obtain ⟨h1, rfl⟩ := znP hx;refine ⟨by simp only [zis]; omega, by simp only [zis]; omega, fun m hm => ?_⟩;obtain ⟨i', h2, h3, h4⟩ := zlA hm;have hgi : g.getD i' 0 ∈ g := by
   rw [List.getD_eq_getElem?_getD, List.getElem?_eq_getElem (by omega)];exact List.getElem_mem _
  have := hgb _ hgi;rw [h3, h4];refine ⟨by omega, by omega, this.1, this.2, fun hz => hgz hz _ hgi⟩
 ·rw [List.getElem?_append_right (by rw [zfD]; omega), zfD] at hx;obtain ⟨h1, h2, h3, h4, h5⟩ := znD hx;refine ⟨by omega, h4, fun m hm => ?_⟩;obtain ⟨h6, h7⟩ := h5 m hm;rw [h6];rcases h7 with h7 | ⟨h8, h7⟩
  ·rw [h7];exact ⟨by omega, by omega, by omega, by omega, fun _ => rfl⟩
  ·rw [h7];have hq2 : 0 < q := by
    have : ¬ (p : Int) = b.last - 1 := by simpa using h8
    omega
   have := hq1 hq2;exact ⟨by omega, by omega, by omega, by omega, fun _ => rfl⟩
structure GameK (b : By) (k : Nat) (l : List Nd) : Prop where
 len : (l.length : Int) = 2 * ((k : Int) + 1) * b.last + 1
 right : zfr l = true
 zero : b.kind = 2 \/ k = 0 -> ∀ x ∈ l, ∀ m ∈ x.moves, m.gain = 0
theorem znZ {b : By} {n : Int} {k : Nat} (hb : 0 <= b.fund /\ b.fund <= 1000) (hn : 1 <= n) (hk : (k : Int) <= n) (hk7 : k <= 7) (he : 2 * ((k : Int) + 1) * b.last < 3000) : ∀ (r p : Nat) (out l : List Nd), (p : Int) + r = b.last -> Outs b n k p (2 * ((k : Int) + 1) * b.last) out ->
  ziI b n k (2 * ((k : Int) + 1) * b.last) p out r = (l, 0) -> GameK b k l
 | 0, p, out, l, hp, ho, h => by
  rw [ziI] at h;cases h;have hl : (out.length : Int) = 2 * ((k : Int) + 1) * b.last := by
   rw [ho.len, <- hp]; push_cast; simp
  have hok := ho.ok;rw [<- hl] at hok he;refine ⟨by rw [List.length_append, <- hl]; simp, ?_, fun hz x hx m hm => ?_⟩
  ·unfold zfr;rw [Bool.and_eq_true, Bool.and_eq_true, zmT];refine ⟨⟨by simp, by simp; omega⟩, fun j x hx => ?_⟩;by_cases hj : j < out.length
   ·rw [List.getElem?_append_left hj] at hx;obtain ⟨h1, _, h2⟩ := hok j x hx;unfold znM;rw [Bool.and_eq_true, decide_eq_true_eq, List.all_eq_true];refine ⟨h1, fun m hm => ?_⟩;obtain ⟨g1, g2, g3, g4, _⟩ := h2 m hm;simp [zmr];omega
   ·rw [List.getElem?_append_right (by omega)] at hx;cases hjj : j - out.length with
    | zero => rw [hjj] at hx; simp at hx; subst hx; simp [znM]
    | succ q => rw [hjj] at hx; simp at hx
  ·rcases List.mem_append.1 hx with hx | hx
   ·obtain ⟨i, hi⟩ := List.getElem?_of_mem hx;exact ((hok i x hi).2.2 m hm).2.2.2.2 hz
   ·simp at hx; subst hx; cases hm
 | r + 1, p, out, l, hp, ho, h => by
  rw [ziI] at h;split at h
  ·rename_i he0;exact znZ hb hn hk hk7 he r (p + 1) _ l (by push_cast; omega) (ho.nodes (by omega) (Prod.ext rfl he0) hb hn hk hk7) h
  ·rename_i hne;exact absurd (congrArg Prod.snd h) hne
theorem zdd {b : By} (h : zc1 b = true) : (1 <= b.last /\ b.last <= 1000) /\ (1 <= b.period /\ b.period <= 1000) /\ (0 <= b.fund /\ b.fund <= 1000) /\ (0 <= b.voices /\ b.voices <= 1000) /\ (0 <= b.wait /\ b.wait <= 1000) /\ (0 <= b.grace /\ b.grace <= 1000) := by
 simp only [zc1, zvg, Bool.and_eq_true] at h;obtain ⟨⟨⟨⟨⟨⟨⟨⟨_, _⟩, h1⟩, h2⟩, _⟩, _⟩, _⟩, _⟩, _⟩ := h;simp only [inB, List.any_cons, List.any_nil, Bool.or_false, Bool.not_eq_true', Bool.or_eq_false_iff, decide_eq_false_iff_not, Int.not_lt] at h1 h2;omega
theorem ztq {b : By} {n : Int} {k : Nat} {l : List Nd} (hr : zc1 b = true) (hn : 1 <= n) (hk : (k : Int) <= n) (h : zph b n k = (l, 0)) : GameK b k l := by
 obtain ⟨h1, h2, h3, _⟩ := zdd hr;unfold zph at h;split at h
 ·exact absurd (congrArg Prod.snd h) (by simp)
 ·rename_i hc;exact znZ h3 hn hk (by omega) (by omega) b.last.toNat 0 [] l (by omega) ⟨by simp, fun i x hx => by simp at hx⟩ h
end Go.Proofs.YtmlpcgkaonifcaaGreatDoor
namespace Go.Proofs.YtmlpcgkaonifcaaGreatDoor
open Go Go.VL
theorem zib : ∀ (l : List Nd) (i : Nat), (svs i l).length = l.length
 | [], _ => rfl
 | x :: r, i => by rw [svs, List.length_cons, zib r, List.length_cons]
theorem zr5 {mine : Bool} {f : Int -> Int} {B : Int} (h0 : 0 <= B) : ∀ (ms : List Mv) (s : Int × Int × Nat), -B <= s.1 /\ s.1 <= B -> (∀ m ∈ ms, -B <= m.gain + f m.to_ /\ m.gain + f m.to_ <= B) -> -B <= (ms.foldl (zmb mine f) s).1 /\ (ms.foldl (zmb mine f) s).1 <= B
 | [], s, hs, _ => hs
 | m :: r, s, hs, h => by
  rw [List.foldl_cons];refine zr5 h0 r _ ?_ fun x hx => h x (by simp [hx]);unfold zmb;split
  ·exact h m (by simp)
  ·exact hs
theorem zqc : ∀ (l : List Nd) (i : Nat), (∀ x ∈ l, ∀ m ∈ x.moves, -1099511627776 <= m.gain /\ m.gain <= 1099511627776) -> ∀ p ∈ svs i l, -(1099511627776 * (l.length : Int)) <= p.1 /\ p.1 <= 1099511627776 * (l.length : Int)
 | [], i, _, p, hp => by simp [svs] at hp
 | x :: r, i, h, p, hp => by
  have ih := zqc r (i + 1) fun y hy => h y (by simp [hy]);have hl : ((x :: r : List Nd).length : Int) = r.length + 1 := by simp
  rw [svs] at hp;rw [hl];rcases List.mem_cons.1 hp with rfl | hp
  ·refine zr5 (by omega) x.moves _ (by simp only; omega) fun m hm => ?_;have h1 := h x (by simp) m hm;have h2 : -(1099511627776 * (r.length : Int)) <= ((svs (i + 1) r).getD (m.to_.toNat - (i + 1)) (0, -1)).1 /\ ((svs (i + 1) r).getD (m.to_.toNat - (i + 1)) (0, -1)).1 <= 1099511627776 * (r.length : Int) := by
    rw [List.getD_eq_getElem?_getD];cases hg : (svs (i + 1) r)[m.to_.toNat - (i + 1)]? with
    | none => simp; omega
    | some q => exact ih q (List.mem_of_getElem? hg)
   omega
  ·have := ih p hp;omega
def zhJ (b : By) : Bool := decide (b.wait <= b.period) && decide (b.grace <= b.period)
def zd2 (b : By) (m : Int) (c : List Int) : List Nd × Int :=
 if (zd8 b m c).2 ≠ 0 then ([], (zd8 b m c).2) else if zhJ b = true then ((zd8 b m c).1, 0) else ([], 23)
def zbp (b : By) (m : Int) (c : List Int) : List Int × List Int × Int × Int :=
 if (zd2 b m c).2 ≠ 0 then ([], [], 0, (zd2 b m c).2) else (zgm (zd2 b m c).1, ofP (zd2 b m c).1 (zgi (zd2 b m c).1) false, (zgm (zd2 b m c).1).getD 0 0, 0)
def zi7 (s : Nat) : List Int := (List.range s).map fun i : Nat => (i : Int)
def exG (b : By) (m : Int) : Nat -> Int -> Nat -> Int × Int
 | _, most, 0 => (most, 0)
 | s, most, r + 1 => if (zbp b m (zi7 s)).2.2.2 ≠ 0 then (0, (zbp b m (zi7 s)).2.2.2) else exG b m (s + 1) (max most (zbp b m (zi7 s)).2.2.1) r
def zn6 (b : By) (m liars : Int) : Int × Int :=
 if zeO b m [] = true /\ 0 <= liars /\ liars <= m then (if (exG b m 0 0 (liars.toNat + 1)).2 ≠ 0 then (0, (exG b m 0 0 (liars.toNat + 1)).2) else if (zlM b m).2 ≠ 0 then (0, (zlM b m).2) else ((exG b m 0 0 (liars.toNat + 1)).1 + liars * (zlM b m).1, 0)) else (0, 1)
theorem zoa {m : Int} : ∀ {c : List Int} {l : Int}, zkE m l c = true -> (c.length : Int) <= max 0 (m - l - 1)
 | [], l, _ => by simp; omega
 | x :: r, l, h => by
  rw [zkE, Bool.and_eq_true, Bool.and_eq_true, decide_eq_true_eq, decide_eq_true_eq] at h;have := zoa h.2;simp only [List.length_cons];omega
theorem znw (k : Nat) : (zi7 k).length = k := by simp [zi7]
theorem zfy {b : By} {m : Int} {c : List Int} (h : zeO b m c = true) : (c.length : Int) <= m /\ zc1 b = true /\ 1 <= m /\ m <= 60 := by
 unfold zeO at h;simp only [Bool.and_eq_true, decide_eq_true_eq] at h;have := zoa h.1.1.1;exact ⟨by omega, h.1.1.2, h.1.2, h.2⟩
theorem zmJ {b : By} {m : Int} {c : List Int} (h : (zbp b m c).2.2.2 = 0) : zeO b m c = true /\ (zd8 b m c).2 = 0 /\ zhJ b = true /\ zbp b m c = (zgm (zd8 b m c).1, ofP (zd8 b m c).1 (zgi (zd8 b m c).1) false, (zgm (zd8 b m c).1).getD 0 0, 0) := by
 unfold zbp at h ⊢;split at h
 ·rename_i hn; exact absurd h hn
 ·rename_i ho;have ho : (zd2 b m c).2 = 0 := Classical.byContradiction ho;rw [if_neg (by simpa using ho)];unfold zd2 at ho ⊢;split at ho
  ·rename_i hg; exact absurd ho hg
  ·rename_i hg;split at ho
   ·rename_i hr;rw [if_neg hg, if_pos hr];have hg : (zd8 b m c).2 = 0 := Classical.byContradiction hg;refine ⟨?_, hg, hr, rfl⟩;unfold zd8 at hg;split at hg
    ·rename_i h1; exact h1
    ·cases hg
   ·cases ho
end Go.Proofs.YtmlpcgkaonifcaaGreatDoor
namespace Go.Proofs.YtmlpcgkaonifcaaGreatDoor
open Go Go.VL
def ofK (mine : Bool) : Nat -> List Nd -> List Int -> List Int
 | 0, _, ms => ms
 | k + 1, x :: r, c :: ms => (if x.mine = mine then c else -1) :: ofK mine k r ms
 | _ + 1, _, ms => ms
theorem zqE (mine : Bool) : ∀ (k : Nat) (l : List Nd) (ms : List Int), (ofK mine k l ms).length = ms.length
 | 0, _, _ => by simp [ofK]
 | k + 1, x :: r, c :: ms => by simp [ofK, zqE mine k r ms]
 | _ + 1, [], ms => by simp [ofK]
 | _ + 1, _ :: _, [] => by simp [ofK]
theorem znK (mine : Bool) : ∀ (k : Nat) (l : List Nd) (ms : List Int) (x : Nd), l[k]? = some x -> ms.length = l.length -> ofK mine (k + 1) l ms = if x.mine = mine then ofK mine k l ms else (ofK mine k l ms).set k (-1)
 | _, [], _, x, h, _ => by simp at h
 | _, _ :: _, [], x, _, h => by simp at h
 | 0, y :: r, c :: ms, x, h, _ => by
  simp at h; subst h;simp only [ofK];split <;> rfl
 | k + 1, y :: r, c :: ms, x, h, h2 => by
  have ih := znK mine k r ms x (by simpa using h) (by simpa using h2);rw [ofK, ih, ofK];by_cases hx : x.mine = mine
  ·rw [if_pos hx, if_pos hx]
  ·rw [if_neg hx, if_neg hx, List.set_cons_succ]
theorem zqF (mine : Bool) : ∀ (l : List Nd) (ms : List Int), ms.length = l.length -> ofK mine l.length l ms = ofP l ms mine
 | [], [], _ => rfl
 | [], _ :: _, h => by simp at h
 | _ :: _, [], h => by simp at h
 | x :: r, c :: ms, h => by
  have ih := zqF mine r ms (by simpa using h);rw [List.length_cons, ofK, ih];rfl
theorem zu1 {l : List Nd} {ms : List Int} (h : ms.length = l.length) (mine : Bool) : (ofP l ms mine).length = l.length := by simp [ofP, h]
theorem zkX (l : List Nd) : (zgm l).length = l.length := by simp [zgm, zib]
theorem zjJ (l : List Nd) : (zgi l).length = l.length := by simp [zgi, zib]
end Go.Proofs.YtmlpcgkaonifcaaGreatDoor
namespace Go.Proofs.YtmlpcgkaonifcaaGreatDoor
open Go Go.VL
def zlE (v : Int) (vs : List Int) (m : Mv) : Bool := decide (v < m.gain + vs.getD m.to_.toNat 0)
def zlL (x : Nd) (v c : Int) (vs : List Int) : Bool :=
 if v < -4503599627370496 \/ 4503599627370496 < v then false
 else if x.moves.length = 0 then decide (0 <= v) && decide (c = -1)
 else if x.mine = false then decide (0 <= c) && decide (c < x.moves.length) && !zlE v vs (x.moves.getD c.toNat ⟨0, 0⟩)
 else decide (c = -1) && !x.moves.any (zlE v vs)
def zkx (l : List Nd) (vs cs : List Int) (i : Nat) : Bool := zlL (l.getD i ⟨false, []⟩) (vs.getD i 0) (cs.getD i 0) vs
def zg0 (l : List Nd) (vs cs : List Int) : Int := if (List.range l.length).all (zkx l vs cs) = true then 0 else 21
def zjv (vs : List Int) : Prop := ∀ v ∈ vs, -4503599627370496 <= v /\ v <= 4503599627370496
end Go.Proofs.YtmlpcgkaonifcaaGreatDoor
namespace Go.Proofs.YtmlpcgkaonifcaaGreatDoor
open Go Go.VL
theorem zsL (lets : List Let) : TabOK lets.length (zsl lets) := ⟨by simp [zsl], fun i v e d h => by
 simp only [zsl, List.getElem?_replicate] at h;split at h
 ·cases h; exact ⟨by decide, by decide⟩
 ·cases h⟩
theorem zrJ (b : By) (c : List UInt8) (vars : List Var) : -1099511627776 <= (zeK b c vars).1 /\ (zeK b c vars).1 <= 1099511627776 := by
 unfold zeK;split
 ·split
  ·unfold zjr;split
   ·rename_i h;obtain ⟨_, h2, h3⟩ := zjC h.1;exact zm7 (zmy h3 (zvp _ [] (fun s v h => by cases h) (fun v hv => List.all_eq_true.1 h.2 v hv)) _ 12 _ h2 (zsl _) (zsL _)).2.1
   ·simp
  ·simp
 ·simp
theorem znu (b : By) (c : List UInt8) (vars : List Var) : 0 <= (zpK b c vars).1 /\ (zpK b c vars).1 <= 1099511627776 := by
 have := zrJ b c vars;unfold zpK;simp only;omega
def zgf (b : By) (n : Int) (k : Nat) : U := .agg (zaF b ++ [.int .i64 n, .int .i64 k])
def zul (v : Var) : U := .agg [.str v.name, .int .i64 v.unit, .int .i64 v.n]
end Go.Proofs.YtmlpcgkaonifcaaGreatDoor
namespace Go.Proofs.YtmlpcgkaonifcaaGreatDoor
open Go Go.VL
theorem zeH {x y B C : Int} (hx : 0 <= x /\ x <= C) (hB : 0 <= B) (hy : -B <= y /\ y <= B) : -(C * B) <= x * y /\ x * y <= C * B := by
 have h1 := Int.mul_le_mul_of_nonneg_left hy.2 hx.1;have h2 := Int.mul_le_mul_of_nonneg_left hy.1 hx.1;have h3 := Int.mul_le_mul_of_nonneg_right hx.2 hB;rw [Int.mul_neg] at h2;omega
theorem zuU {x : Int} (h : 0 <= x) : 0 <= x.tdiv 1000 /\ x.tdiv 1000 <= x := by
 rw [Int.tdiv_eq_ediv_of_nonneg h];omega
def gaI (j : Nat) (v : Int) (out : List Int) : List Int := List.replicate j 0 ++ v :: out
theorem ztr (j : Nat) (out : List Int) : List.replicate (j + 1) 0 ++ out = gaI j 0 out := by
 rw [gaI, List.replicate_succ', List.append_assoc];rfl
theorem zvl (j : Nat) (v : Int) (out : List Int) : (gaI j v out).length = j + 1 + out.length := by simp [gaI]; omega
theorem zvm (j : Nat) (v : Int) (out : List Int) (h : j < (gaI j v out).length) : (gaI j v out)[j] = v := by simp [gaI]
theorem zvk (j : Nat) (v w : Int) (out : List Int) : (gaI j v out).set j w = gaI j w out := by
 rw [gaI, List.set_append];simp [gaI]
def gaA (j : Nat) (out : List Int) : List Int := List.replicate j 0 ++ out
theorem zts (out : List Int) : gaA 0 out = out := rfl
theorem zry (k : Nat) : gaA k [] = List.replicate k 0 := by simp [gaA]
theorem ztt (j : Nat) (out : List Int) : gaA (j + 1) out = gaI j 0 out := ztr j out
theorem zvn (j : Nat) (v : Int) (out : List Int) : gaI j v out = gaA j (v :: out) := rfl
theorem zm4 (b : By) (n k p due : Int) (j : Nat) (out : List Int) : zgQ b n k p due (j + 1) out = if (zhP b n k p due j).2 = 0 then zgQ b n k p due j ((zhP b n k p due j).1 :: out) else ([], (zhP b n k p due j).2) := rfl
end Go.Proofs.YtmlpcgkaonifcaaGreatDoor
namespace Go.Proofs.YtmlpcgkaonifcaaGreatDoor
open Go Go.VL
def zgs (l : List Mv) : List (List D) := l.map fun m => [.u (.int .i64 m.to_), .u (.int .i64 m.gain)]
def zdL (l : List Nd) : List (List D) := l.map fun x => [.u (.bool x.mine), .u (zd4 x.moves)]
theorem zgL (l : List Mv) : (zgs l).length = l.length := by simp [zgs]
theorem zeS (l : List Nd) : (zdL l).length = l.length := by simp [zdL]
theorem zoS (l : List Mv) (t g : Int) : zgs l ++ [[.u (.int .i64 t), .u (.int .i64 g)]] = zgs (l ++ [⟨t, g⟩]) := by simp [zgs]
theorem zeR (l : List Nd) (b : Bool) (ms : List Mv) : zdL l ++ [[.u (.bool b), .u (.sl (ms.map fun m => [.int .i64 m.to_, .int .i64 m.gain]))]] = zdL (l ++ [⟨b, ms⟩]) := by simp [zdL, zd4]
theorem zqU (l : List Mv) : zct (zgs l) = some (l.map fun m => [.int .i64 m.to_, .int .i64 m.gain]) := by
 unfold zgs;exact ziZ (l.map fun m => [U.int .i64 m.to_, U.int .i64 m.gain]) ▸ by simp [rowsD, Function.comp_def]
theorem zlw (l : List Nd) : zct (zdL l) = some (l.map fun x => [.bool x.mine, zd4 x.moves]) := by
 unfold zdL;exact ziZ (l.map fun x => [U.bool x.mine, zd4 x.moves]) ▸ by simp [rowsD, Function.comp_def]
theorem zd3 (S : D -> Option U) (l : List Nd) : (zdL l).map (fun r => r.map (frzS S)) = zdL l := by simp [zdL, frzS]
theorem zbO (l : List Mv) : za7 (zgs l) = True := by
 have : zgs l = rowsD (l.map fun m => [U.int .i64 m.to_, .int .i64 m.gain]) := by simp [rowsD, zgs, Function.comp_def]
 rw [this]; simp
theorem zbq (l : List Nd) : za7 (zdL l) = True := by
 have : zdL l = rowsD (l.map fun x => [U.bool x.mine, zd4 x.moves]) := by simp [rowsD, zdL, Function.comp_def]
 rw [this]; simp
theorem zby (n : Nat) (l : List Mv) : (∀ x ∈ zgs l, ∀ y ∈ x, D.under n y = true) ↔ True := by
 refine ⟨fun _ => trivial, fun _ x hx y hy => ?_⟩;obtain ⟨b, _, rfl⟩ := List.mem_map.1 hx;simp at hy;rcases hy with rfl | rfl <;> simp [D.under]
theorem zba (n : Nat) (l : List Nd) : (∀ x ∈ zdL l, ∀ y ∈ x, D.under n y = true) ↔ True := by
 refine ⟨fun _ => trivial, fun _ x hx y hy => ?_⟩;obtain ⟨b, _, rfl⟩ := List.mem_map.1 hx;simp at hy;rcases hy with rfl | rfl <;> simp [D.under]
theorem zoT (l : List Mv) : zkR 2 (zgs l) := fun r hr => by obtain ⟨t, _, rfl⟩ := List.mem_map.1 hr; rfl
theorem zhk (l : List Nd) : zkR 2 (zdL l) := fun r hr => by obtain ⟨t, _, rfl⟩ := List.mem_map.1 hr; rfl
def zhF (k : Nat) (base : Int) (g : List Int) : Nat -> List Mv
 | 0 => []
 | q + 1 => zit k base g q
def zlz (k : Nat) (base : Int) (g : List Int) : Nat -> List Nd
 | 0 => []
 | j + 1 => zir k base g j
theorem zmX (k : Nat) (base : Int) (g : List Int) (q : Nat) : zhF k base g (q + 1) = ⟨base + k - q, g.getD q 0⟩ :: zhF k base g q := by
 cases q with
 | zero => simp [zhF, zit]
 | succ q => rfl
theorem zmW (k : Nat) (base : Int) (g : List Int) (j : Nat) : zlz k base g (j + 1) = ⟨true, zhF k base g (j + 1)⟩ :: zlz k base g j := by
 cases j with
 | zero => rfl
 | succ j => rfl
def zjE (b : By) (n : Int) (k : Nat) (lp : Bool) (base e : Int) : Nat -> List Nd
 | 0 => []
 | j + 1 => zhK b n k lp base e j
theorem zmH (b : By) (n : Int) (k : Nat) (lp : Bool) (base e : Int) (j : Nat) : zjE b n k lp base e (j + 1) = ⟨false, ⟨if lp = true then e else base + k - j, 0⟩ :: if zm8 b n k j = true then [⟨e, 0⟩] else []⟩ :: zjE b n k lp base e j := by
 cases j with
 | zero => simp [zjE, zhK]
 | succ j => rfl
end Go.Proofs.YtmlpcgkaonifcaaGreatDoor
namespace Go.Proofs.YtmlpcgkaonifcaaGreatDoor
open Go Go.VL
theorem zoO (l : List Nd) : (zdL l).map (fun r => r.map zbN) = zdL l := by simp [zdL, zd4, zbN, zb7]
theorem zqJ (l r : List Nd) : zdL l ++ rowsD (r.map fun x => [U.bool x.mine, .sl (x.moves.map fun m => [.int .i64 m.to_, .int .i64 m.gain])]) = zdL (l ++ r) := by simp [zdL, rowsD, zd4]
theorem zpi (b : By) (n : Int) (k : Nat) (e : Int) (p : Nat) (out : List Nd) (r : Nat) : ziI b n k e p out (r + 1) = if (zen b n k p).2 = 0 then ziI b n k e (p + 1) (out ++ zgK b n k p out.length e (zen b n k p).1) r else ([], (zen b n k p).2) := by rw [ziI]
end Go.Proofs.YtmlpcgkaonifcaaGreatDoor
namespace Go.Proofs.YtmlpcgkaonifcaaGreatDoor
open Go Go.VL
open Df (Con)
def zkK (b : By) : List Con := if zc1 b = true then [⟨2, 0, b.period - 1⟩, ⟨0, 2, 1 - b.period⟩, ⟨1, 2, 1 - b.wait⟩, ⟨2, 1, b.wait - 1⟩, ⟨0, 1, 0⟩, ⟨3, 2, b.grace⟩, ⟨2, 3, -b.grace⟩, ⟨4, 2, b.period⟩, ⟨2, 4, -b.period⟩, ⟨3, 4, 0⟩] else []
theorem zkJ (b : By) : (zkK b).length <= 10 := by unfold zkK; split <;> simp
theorem zuB {b : By} (h : zc1 b = true) : Df.rightL (zkK b) 5 = true := by
 obtain ⟨_, h1, _, _, h2, h3⟩ := zdd h;unfold zkK;rw [if_pos h];simp only [Df.rightL, Bool.and_eq_true, decide_eq_true_eq, List.all_eq_true];refine ⟨⟨⟨by omega, by omega⟩, by simp⟩, fun c hc => ?_⟩;simp only [List.mem_cons, List.mem_nil_iff, or_false] at hc;simp only [Df.okB, Df.maxN, Bool.and_eq_true, decide_eq_true_eq];rcases hc with rfl | rfl | rfl | rfl | rfl | rfl | rfl | rfl | rfl | rfl <;> simp only <;> omega
def zhQ (b : By) : List Int := [0, b.period - 1 - b.wait + 1, b.period - 1, b.period - 1 + b.grace, b.period - 1 + b.period]
theorem zt2 {b : By} (h : zc1 b = true) : (∃ y, Df.Sol (zkK b) y) ↔ zhJ b = true := by
 unfold zkK zhJ;rw [if_pos h, Bool.and_eq_true, decide_eq_true_eq, decide_eq_true_eq];constructor
 ·rintro ⟨y, hy⟩;have q := fun c hc => hy c hc;have q0 := q ⟨2, 0, b.period - 1⟩ (by simp);have q1 := q ⟨0, 2, 1 - b.period⟩ (by simp);have q2 := q ⟨1, 2, 1 - b.wait⟩ (by simp);have q3 := q ⟨2, 1, b.wait - 1⟩ (by simp);have q4 := q ⟨0, 1, 0⟩ (by simp);have q5 := q ⟨3, 2, b.grace⟩ (by simp);have q6 := q ⟨2, 3, -b.grace⟩ (by simp);have q7 := q ⟨4, 2, b.period⟩ (by simp);have q8 := q ⟨2, 4, -b.period⟩ (by simp);have q9 := q ⟨3, 4, 0⟩ (by simp);simp only [Con.a, Con.b, show ((0 : Int)).toNat = 0 from rfl, show ((1 : Int)).toNat = 1 from rfl, show ((2 : Int)).toNat = 2 from rfl, show ((3 : Int)).toNat = 3 from rfl, show ((4 : Int)).toNat = 4 from rfl] at *;omega
 ·rintro ⟨h1, h2⟩;refine ⟨fun n => (zhQ b).getD n 0, fun c hc => ?_⟩;simp only [List.mem_cons, List.mem_nil_iff, or_false] at hc;rcases hc with rfl | rfl | rfl | rfl | rfl | rfl | rfl | rfl | rfl | rfl <;> simp [zhQ, Con.a, Con.b] <;> omega
theorem zma {b : By} (h : zc1 b = true) {V C : List Int} {E : Int} (hs : Df.SolveSpec (zkK b) 5 V C E) : E = if zhJ b = true then 0 else 23 := by
 obtain ⟨h1, h2⟩ := hs.ok (zuB h);rw [zt2 h] at h1;by_cases hr : zhJ b = true
 ·rw [if_pos hr]; exact h1.2 hr
 ·rw [if_neg hr];rcases h2 with h2 | h2
  ·exact absurd (h1.1 h2) hr
  ·exact h2
theorem zr1 {b : By} (h : zc1 b = true) : Df.checkB (zkK b) 5 (zhQ b) = zhJ b := by
 obtain ⟨_, h1, _, _, h2, h3⟩ := zdd h;have hs : (zhQ b).all Df.small60 = true := by
  rw [List.all_eq_true];intro v hv;simp only [zhQ, List.mem_cons, List.mem_nil_iff, or_false] at hv;simp only [Df.small60, Bool.and_eq_true, decide_eq_true_eq];rcases hv with rfl | rfl | rfl | rfl | rfl <;> omega
 unfold Df.checkB;rw [zuB h, hs, decide_eq_true (show ((zhQ b).length : Int) = 5 by simp [zhQ])];simp only [Bool.true_and, Bool.and_true];unfold zkK zhJ;rw [if_pos h, Bool.eq_iff_iff, Bool.and_eq_true, decide_eq_true_eq, decide_eq_true_eq];simp [Df.metB, Df.valL, zhQ, Con.a, Con.b];omega
end Go.Proofs.YtmlpcgkaonifcaaGreatDoor
namespace Go.Proofs.YtmlpcgkaonifcaaGreatDoor
open Go Go.VL
open Df (SolveSpec)
theorem zjD {b : By} {m : Int} {c : List Int} (h : (zd8 b m c).2 = 0) : zeO b m c = true := by
 cases hR : zeO b m c with
 | true => rfl
 | false => unfold zd8 at h; rw [hR] at h; simp at h
theorem zpg {b : By} {m : Int} {c : List Int} (h : (zd8 b m c).2 = 0) : zfr (zd8 b m c).1 = true := by
 have hR := zjD h;obtain ⟨hk, hr, hn1, hn2⟩ := zfy hR;unfold zd8 at h ⊢;rw [if_pos hR] at h ⊢;obtain ⟨l, e⟩ : ∃ l, zph b m c.length = (l, 0) := ⟨_, Prod.ext rfl h⟩;rw [e];exact (ztq hr hn1 hk e).right
end Go.Proofs.YtmlpcgkaonifcaaGreatDoor
namespace Go.Proofs.YtmlpcgkaonifcaaGreatDoor
open Go Go.VL
theorem zmL {l : List Tok} (hl : TokOK l) {f p : Nat} (hE : zhS l f) (hf : 4 * (l.length - p) <= f) {t : Tok} (ht : l[p]? = some t) (hk : ¬ t.kind = 2) (h1 : isB l p [116, 114, 117, 101] = false) (h2 : isB l p [102, 97, 108, 115, 101] = false)
  (h3 : isB l p [109, 105, 110] = true) (h4 : isB l p [109, 97, 120] = false) {i nx : Nat} (hi : i < nx) :
  RetX Tryz.prog 145 [.ptr i 0] [(i, pOb l p)] nx (PPost l i nx ziN (zbG l (f + 1) p)) := zjF hl hE hf ht hk h1 h2 (.inr ⟨h3, h4⟩) hi
end Go.Proofs.YtmlpcgkaonifcaaGreatDoor
namespace Go.Proofs.YtmlpcgkaonifcaaGreatDoor
open Go Go.VL
open Df (SolveSpec)
theorem zoD {b : By} {m : Int} {c : List Int} (h : zhJ b = false) : (zbp b m c).2.2.2 ≠ 0 := fun h2 => by
 obtain ⟨_, _, h3, _⟩ := zmJ h2;rw [h] at h3;cases h3
end Go.Proofs.YtmlpcgkaonifcaaGreatDoor
namespace Go.Proofs.YtmlpcgkaonifcaaGreatDoor
open Go Go.VL
attribute [local simp] HS zbu zcZ zcp evPure opd uOf zaA St.put St.at getK binD binI binS binB nilD aggD zfv zf5 lookD lookR zcm rangeS Go.VL.nextD Go.VL.nextS zco zge zgb zfp zcv mkV zbf zaS zaR zaQ zcX zaO za8 zbt mapEff zdD ze5 Key.kk shiftI arith unD convD zdq loadD cellsAt fieldAddrD fieldD indexAddrD indexSlD arrAddr indexD sliceD cutD lenD minmaxD nilCheckD buildD fillD zbY zc2 zev setAll zcT zd9 zci zfs zch St.add zaw zbz rowsOf zdf zcx zad zac zaa zbx zc8 zaZ entry zbM zbQ valD zcl zcw zft zdb zdc zb0 zbK zal zaW zbh delAll effD St.effS zcE zaT zaG zcF zaU zaI zbV zaH zaz zbW zcC zbs zbU za5 zbS zbT zar mkD zcj zbD zbI zal zcr D.ids Op.operands Call.operands zbF makeIfD makeFuncD typeAssertD zf4 zdi zdj zfR zcn IntKind.bits zct zay List.take_of_length_le List.range_succ zcN zcc zcO zcI zbB zb1 zb3 zcJ zb5 zbc zb4 zb2 zg4 zcb zcL zaX zaK zcM zaY zaM zca zaL zaD zcR zcS zgB zab frzN frz1 zav zau St.frz St.frzS frzS fv za2 zbn zbo frzObS zat zan frz zbL zbk zbl zbN zb7 zce za6 St.norm St.lp St.only zax wkE wkO wkU Ob.under D.under zaj zak zcP zcd zcQ h4s zd1 zaC zbC List.zipIdx_cons List.zipIdx_nil zzC zzD Nat.zero_add
attribute [local irreducible] V G H HD HD2 HD4 zg6 RetX zbg Eff CallP CallV EndOK Fun Ret FinOK LoopI LoopW EndW HR vs2 RN Cnd H4
theorem zpW (lets : List Let) (vars : List Var) (e : Exp) : Fun Tryz.prog 47 [.u (zaV lets), .u (zei vars), zdo e] (· = .tup [.u (.int .i64 (zjr lets vars e).1), .u (.int .i64 (zjr lets vars e).2)]) := by
 have h1 := zd0 e;generalize hK : zjr lets vars e = K;unfold zjr zdI at hK;by_cases hre : zbi 12 e = true
 case neg =>
  have hre2 : zbi 12 e = false := by simpa using hre
  rw [if_neg (by simp [hre2])] at hK;subst hK;rw [hre2] at h1;simp only [zaV, zei, zdo] at h1 ⊢;refine Fun.runW Tryz.func47 Tryz.ntmps47 rfl (by simp) fun Γ hn => ?_
  repeat' (first
  | (refine zaf rfl ?_; simp)
  | (refine CallP.f2 rfl (h1) (by first | simp <;> rfl | fail) ?_; simp)
  | fail)
  refine EndW.here ?_
  (refine EndOK.val (.inr rfl) ?_; simp [Tryz.results47])
 by_cases hll : lets.length <= 20
 case neg =>
  have hll2 : 20 < (lets.length : Int) := by omega
  rw [if_neg (by simp [hll])] at hK;subst hK;rw [hre] at h1;simp only [zaV, zei, zdo] at h1 ⊢;refine Fun.runW Tryz.func47 Tryz.ntmps47 rfl (by simp) fun Γ hn => ?_; simp only [zzE, zzC, zzD];refine zg3 (x := 0) rfl fun hl0 => ?_;simp only [List.length_map] at hl0
  repeat' (first
  | (refine zaf rfl ?_; simp [hll2])
  | (refine CallP.f2 rfl (h1) (by first | simp [hll2] <;> rfl | fail) ?_; simp [hll2])
  | fail)
  refine EndW.here ?_
  (refine EndOK.val (.inr rfl) ?_; simp [Tryz.results47])
 have hll2 : ¬ 20 < (lets.length : Int) := by omega
 rw [hre] at h1;simp only [zaV, zei, zdo] at h1 ⊢;refine Fun.runW Tryz.func47 Tryz.ntmps47 rfl (by simp) fun Γ hn => ?_; simp only [zzE, zzC, zzD];refine zg3 (x := 1) rfl fun hl1 => ?_;simp only [List.length_map] at hl1
 repeat' (first
  | (refine zaf rfl ?_; simp [hll2])
  | (refine CallP.f2 rfl (h1) (by first | simp [hll2] <;> rfl | fail) ?_; simp [hll2])
  | fail)
 refine zbZ (α := { i : Nat // i <= lets.length /\ ∀ l ∈ lets.take i, zbi 12 l.body = true }) [0, 1, 5, 23, 24] (fun i => [(25, .u (.int .i64 i.1))])
  (fun i => [(0, .box [.u (.int .i64 e.op), .u (.int .i64 e.n), .u (.int .i64 e.unit), .u (.str e.s), .u (.sl (e.args.map Exp.row))])]) 1
  (fun i => lets.length - i.1) ⟨0, by omega, by simp⟩ ?_ ?_
 ·exact (Wk.zdz (by simp [hn, Ob.under] <;> grind))
 rintro ⟨i, hi, hb⟩;simp;rcases hx : lets[i]? with _ | l
 ·have hge : lets.length <= i := by simpa using hx
  obtain rfl : i = lets.length := by omega
  rw [List.take_length] at hb
  repeat' (first
  | (refine zaf rfl ?_; simp [hx])
  | (refine And.intro (by omega) ?_)
  | fail)
  have hrg : zdI lets e = true := by
   simp only [zdI, Bool.and_eq_true, decide_eq_true_eq, Bool.not_eq_true', List.any_eq_false];exact ⟨⟨hll, hre⟩, fun l hl => by simp [hb l hl]⟩
  refine zbZ (α := { i : Nat // i <= vars.length /\ ∀ v ∈ vars.take i, zuw v = true }) [0, 5, 10, 41, 42] (fun i => [(43, .u (.int .i64 i.1))])
   (fun i => [(3, .box [.u (.sl (lets.map fun l => [.str l.name, .int .i64 l.body.op, .int .i64 l.body.n, .int .i64 l.body.unit, .str l.body.s, .sl (l.body.args.map Exp.row)])), .vec 1 lets.length, .mp 2]), (2, .map .s false (zjY (zrs (gV (vars.take i.1))))),
     (1, .vec 209 3 (List.replicate lets.length [.u (.int .i64 0), .u (.int .i64 0), .u (.bool false)])), (0, .box [.u (.int .i64 e.op), .u (.int .i64 e.n), .u (.int .i64 e.unit), .u (.str e.s), .u (.sl (e.args.map Exp.row))])]) 4
   (fun i => vars.length - i.1) ⟨0, by omega, by simp⟩ ?_ ?_
  ·exact (Wk.zdz (by simp [hn, gV, zrs, zbf, Ob.under] <;> grind))
  rintro ⟨j, hj, hvb⟩;simp;rcases hy : vars[j]? with _ | v
  ·have hge : vars.length <= j := by simpa using hy
   obtain rfl : j = vars.length := by omega
   rw [List.take_length] at hvb;have hva : vars.all zuw = true := by simpa [List.all_eq_true] using hvb
   have hgs : ∀ s v, gF (gV vars) s = some v -> inC v := zvp vars [] (fun s v h => by simp [asc] at h) hvb;rw [if_pos ⟨hrg, hva⟩] at hK;have htry := fun nx' (h : 4 <= nx') => zqa (ztC (r := 1) (m := 3) hgs hb hll (by decide) lets.length (Nat.le_refl _) 12 e hre) (by decide) (zsl lets) nx' (by omega) (by omega) ⟨by simp [zsl], fun i v er d hi => by
    have h7 : (v, er, d) = (0, 0, false) := List.eq_of_mem_replicate (List.mem_of_getElem? hi);cases h7;unfold inC; omega⟩
   have htb : tOb (zsl lets) = .vec 209 3 (List.replicate lets.length [.u (.int .i64 0), .u (.int .i64 0), .u (.bool false)]) := by simp [tOb, zsl]
   rw [htb] at htry;simp only [zdo, mOb, zaV] at htry;subst hK
   repeat' (first
  | (refine zaf rfl ?_; simp [hy, List.take_length])
  | fail)
   refine zg9 (Wk.zyK (us := zrs (gV vars)) 2 [3, 2, 1, 0] rfl (by simp)) ?_;simp [zav, zau, St.frzS, frzS, fv, za2, zbn, zbo, frzObS, zat, zan, del]
   repeat' (first
  | (refine CallP.okL (htry _ (by first | omega | (simp <;> omega) | fail)) (by first | (simp [hy, zaa, getK, zab, zac, zad, zar, del]; done) | fail) (by rfl) (by first | assumption | (simp; done) | fail) (by rfl) (by simp) ?_; (try simp [hy, zc0, del]))
  | fail)
   refine EndW.here ?_
   (refine EndOK.val (.inr rfl) ?_; simp [Tryz.results47])
  ·have hlt : j < vars.length := (List.getElem?_eq_some_iff.1 hy).1;have hg := znT (gV (vars.take j)) v.name;have hsu := zvo hy;by_cases hv : zuw v = true
   ·have hv1 := hv;simp only [zuw, Bool.and_eq_true, decide_eq_true_eq] at hv1;have hv2 : ¬ 1099511627776 < v.n := by omega
    have hv3 : ¬ v.n < -1099511627776 := by omega
    cases hga : asc (gV (vars.take j)) v.name with
    | some u =>
     rw [hga] at hg hsu;simp only [Option.map_some] at hg
     repeat' (first
  | (refine Cnd.of (fun hc => ?_) (fun hc => ?_) <;> (try (exfalso; omega)) <;> (try simp [hy, hg, hv2, hv3]))
  | (refine zaf rfl ?_; simp [hy, hg, hv2, hv3])
  | (refine And.intro (by omega) ?_)
  | (refine ⟨hC _ (by kernel_rfl), hk _ (zdG 8 _ _ _ ?_)⟩; clear hC hk C k; simp [hy, hg, hv2, hv3])
  | (refine zdv rfl (by kernel_rfl) (by first | (simp [hn] <;> omega) | fail) fun C k hC hk => ?_; simp [hy, hg, hv2, hv3])
  | fail)
     refine LoopW.next ⟨j + 1, by omega, zbd hy hvb hv⟩ (by simp; omega) ?_
     exact (Wk.zdz (by simp [hn, hsu] <;> grind))
    | none =>
     rw [hga] at hg hsu;simp only [Option.map_none] at hg
     repeat' (first
  | (refine Cnd.of (fun hc => ?_) (fun hc => ?_) <;> (try (exfalso; omega)) <;> (try simp [hy, hg, zkY, hv2, hv3]))
  | (refine zaf rfl ?_; simp [hy, hg, zkY, hv2, hv3])
  | (refine And.intro (by omega) ?_)
  | (refine ⟨hC _ (by kernel_rfl), hk _ (zdG 8 _ _ _ ?_)⟩; clear hC hk C k; simp [hy, hg, zkY, hv2, hv3])
  | (refine zdv rfl (by kernel_rfl) (by first | (simp [hn] <;> omega) | fail) fun C k hC hk => ?_; simp [hy, hg, zkY, hv2, hv3])
  | fail)
     refine LoopW.next ⟨j + 1, by omega, zbd hy hvb hv⟩ (by simp; omega) ?_
     exact (Wk.zdz (by simp [hn, hsu] <;> grind))
   ·have hv1 : 1099511627776 < v.n \/ v.n < -1099511627776 := by
     simp only [zuw, Bool.and_eq_true, decide_eq_true_eq] at hv;omega
    rw [if_neg (by
     rintro ⟨_, h⟩;rw [List.all_eq_true] at h;exact hv (h v (List.mem_of_getElem? hy)))] at hK
    subst hK;by_cases hv2 : 1099511627776 < v.n
    ·repeat' (first
  | (refine Cnd.of (fun hc => ?_) (fun hc => ?_) <;> (try (exfalso; omega)) <;> (try simp [hy, hv2]))
  | (refine zaf rfl ?_; simp [hy, hv2])
  | fail)
     refine EndW.here ?_
     (refine EndOK.val (.inr rfl) ?_; simp [Tryz.results47])
    ·have hv3 : v.n < -1099511627776 := by omega
     repeat' (first
  | (refine Cnd.of (fun hc => ?_) (fun hc => ?_) <;> (try (exfalso; omega)) <;> (try simp [hy, hv2, hv3]))
  | (refine zaf rfl ?_; simp [hy, hv2, hv3])
  | fail)
     refine EndW.here ?_
     (refine EndOK.val (.inr rfl) ?_; simp [Tryz.results47])
 ·have hlt : i < lets.length := (List.getElem?_eq_some_iff.1 hx).1;have h2 := zd0 l.body;simp only [zdo] at h2;by_cases hlb : zbi 12 l.body = true
  ·rw [hlb] at h2
   repeat' (first
  | (refine Cnd.of (fun hc => ?_) (fun hc => ?_) <;> (try (exfalso; omega)) <;> (try simp [hx]))
  | (refine zaf rfl ?_; simp [hx])
  | (refine And.intro (by omega) ?_)
  | (refine CallP.f2 rfl (h2) (by first | simp [hx] <;> rfl | fail) ?_; simp [hx])
  | fail)
   refine LoopW.next ⟨i + 1, by omega, zbd hx hb hlb⟩ (by simp; omega) ?_
   exact (Wk.zdz (by simp [hn, Ob.under] <;> grind))
  ·have hlb2 : zbi 12 l.body = false := by simpa using hlb
   rw [hlb2] at h2;rw [if_neg (by
    rintro ⟨h, _⟩;simp only [Bool.and_eq_true, Bool.not_eq_true', List.any_eq_false] at h;have := h.2 l (List.mem_of_getElem? hx);simp [hlb2] at this)] at hK
   subst hK
   repeat' (first
  | (refine Cnd.of (fun hc => ?_) (fun hc => ?_) <;> (try (exfalso; omega)) <;> (try simp [hx]))
  | (refine zaf rfl ?_; simp [hx])
  | (refine CallP.f2 rfl (h2) (by first | simp [hx] <;> rfl | fail) ?_; simp [hx])
  | fail)
   refine EndW.here ?_
   (refine EndOK.val (.inr rfl) ?_; simp [Tryz.results47])
theorem zpu (b : By) (c : List UInt8) (vars : List Var) : Fun Tryz.prog 24 [.u (.agg (zaF b)), .u (.str c), .u (zei vars)] (· = .tup [.u (.int .i64 (zeK b c vars).1), .u (.int .i64 (zeK b c vars).2)]) := by
 have h1 := ze8 b;generalize hW : zeK b c vars = W;unfold zeK at hW;cases hE : zkF b c with
 | none =>
  rw [hE] at hW;unfold zkF at hE;by_cases c1 : c = zqk
  ·rw [if_pos c1] at hE; cases hE
  by_cases c2 : c = zoy
  ·rw [if_neg c1, if_pos c2] at hE; cases hE
  by_cases c3 : c = zlc
  ·rw [if_neg c1, if_neg c2, if_pos c3] at hE; cases hE
  by_cases c4 : c = zjA
  ·rw [if_neg c1, if_neg c2, if_neg c3, if_pos c4] at hE; cases hE
  by_cases c5 : c = zie
  ·rw [if_neg c1, if_neg c2, if_neg c3, if_neg c4, if_pos c5] at hE; cases hE
  clear hE;have d1 := Ne.symm c1;have d2 := Ne.symm c2;have d3 := Ne.symm c3;have d4 := Ne.symm c4;have d5 := Ne.symm c5;subst hW;unfold zqk zoy zlc zjA zie at *;unfold zaF zei;refine Fun.runW Tryz.func24 Tryz.ntmps24 rfl (by simp) fun Γ hn => ?_
  repeat' (first
  | (refine zaf rfl ?_; simp [c1, c2, c3, c4, c5, d1, d2, d3, d4, d5])
  | fail)
  refine EndW.here ?_
  (refine EndOK.val (.inr rfl) ?_; simp [Tryz.results24])
 | some e =>
  rw [hE] at hW;simp only at hW;have hc : (c = zqk /\ e = b.due) \/ (c = zoy /\ e = b.fine) \/ (c = zlc /\ e = b.pay) \/ (c = zjA /\ e = b.cover) \/ (c = zie /\ e = b.hold) := by
   unfold zkF at hE
   repeat' split at hE
   all_goals first | (cases hE; done) | (cases hE; simp_all; done)
  clear hE;have h2 := zpW b.lets vars e;cases hr : zc1 b
  ·rw [hr] at h1;rw [hr, if_neg (by simp)] at hW;subst hW;clear h2;unfold zqk zoy zlc zjA zie at *;unfold zaF zei;unfold zaF at h1;rcases hc with ⟨rfl, rfl⟩ | ⟨rfl, rfl⟩ | ⟨rfl, rfl⟩ | ⟨rfl, rfl⟩ | ⟨rfl, rfl⟩
   all_goals
    refine Fun.runW Tryz.func24 Tryz.ntmps24 rfl (by simp) fun Γ hn => ?_
    repeat' (first
  | (refine zaf rfl ?_; simp)
  | (refine CallP.f2 rfl (h1) (by first | simp <;> rfl | fail) ?_; simp)
  | fail)
    refine EndW.here ?_
    (refine EndOK.val (.inr rfl) ?_; simp [Tryz.results24])
  ·rw [hr] at h1;rw [hr, if_pos rfl] at hW;rw [hW] at h2;clear hW;unfold zqk zoy zlc zjA zie at *;unfold zaF zei;unfold zaF at h1;unfold zaV zei zdo at h2;rcases hc with ⟨rfl, rfl⟩ | ⟨rfl, rfl⟩ | ⟨rfl, rfl⟩ | ⟨rfl, rfl⟩ | ⟨rfl, rfl⟩
   all_goals
    refine Fun.runW Tryz.func24 Tryz.ntmps24 rfl (by simp) fun Γ hn => ?_
    repeat' (first
  | (refine zaf rfl ?_; simp)
  | ((first | refine CallP.f2 rfl (h1) (by first | simp <;> rfl | fail) ?_ | refine CallP.f2 rfl (h2) (by first | simp <;> rfl | fail) ?_ | fail); simp)
  | fail)
    refine EndW.here ?_
    (refine EndOK.val (.inr rfl) ?_; simp [Tryz.results24])
theorem zo7 (l : List (Mv)) (f : FuncId) (caps : List U) (p : Mv -> Bool) (hf : ∀ n ∈ l, Fun Tryz.prog f (zu6 n :: caps.map .u) (· = .u (.bool (p n)))) (hcl : zae Tryz.prog f = true)
  (hca : ∀ o, zcw o (caps.map .u) = some (caps.map .u, [])) : Fun Tryz.prog 96 [.u (zd4 l), .fnc (.func f) (caps.map .u)] (· = .u (.int .i64 (zfX p l 0))) := by
 refine Fun.run Tryz.func96 Tryz.ntmps96 Tryz.results96 rfl (by simp) fun Γ hn => ?_; simp only [zzE, zzC, zzD];simp only [zd4];refine zg3 (x := 0) rfl fun hl => ?_;simp at hl
 repeat' (first
  | (refine zaf rfl ?_; simp)
  | fail)
 refine zc7 (α := { i : Nat // i <= l.length /\ ∀ c ∈ l.take i, p c = false }) [0, 1, 7] (fun i => [(8, .u (.int .i64 i.1))]) (fun i => l.length - i.1) ⟨0, by omega, by simp⟩ ?_ ?_
 ·exact (Wk.env rfl rfl rfl (by simp [wkE, St.lp, zax, zaa, getK] <;> (try (intros; simp_all; done)) <;> (try (intros; omega)) <;> (try grind)))
 rintro ⟨i, hi, hb⟩;simp;rcases hx : l[i]? with _ | n
 ·have hge : l.length <= i := by simpa using hx
  repeat' (first
  | (refine Cnd.of (fun hc => ?_) (fun hc => ?_) <;> (try (exfalso; omega)) <;> (try simp [hx]))
  | (refine zaf rfl ?_; simp [hx])
  | fail)
  (refine Pst.of ?_; simp)
  rw [List.take_of_length_le hge] at hb;exact (zd5 hb).symm
 ·have hlt : i < l.length := (List.getElem?_eq_some_iff.1 hx).1;have h1 := hf n (List.mem_of_getElem? hx);simp only [zu6] at h1;cases hp : p n
  ·rw [hp] at h1
   repeat' (first
  | (refine Cnd.of (fun hc => ?_) (fun hc => ?_) <;> (try (exfalso; omega)) <;> (try simp [hx, hca]))
  | (refine zaf rfl ?_; simp [hx, hca])
  | (refine And.intro (by omega) ?_)
  | (refine CallP.f2 rfl (h1) (by first | simp [hx, hca] <;> rfl | fail) ?_; simp [hx, hca])
  | fail)
   refine LoopW.next ⟨i + 1, by omega, zbd hx hb hp⟩ (by simp; omega) ?_
   exact (Wk.env rfl rfl rfl (by simp [wkE, St.lp, zax, zaa, getK] <;> (try (intros; simp_all; done)) <;> (try (intros; omega)) <;> (try grind)))
  ·rw [hp] at h1
   repeat' (first
  | (refine Cnd.of (fun hc => ?_) (fun hc => ?_) <;> (try (exfalso; omega)) <;> (try simp [hx, hca]))
  | (refine zaf rfl ?_; simp [hx, hca])
  | (refine And.intro (by omega) ?_)
  | (refine CallP.f2 rfl (h1) (by first | simp [hx, hca] <;> rfl | fail) ?_; simp [hx, hca])
  | fail)
   (refine Pst.of ?_; simp)
   rw [zfH hb hx hp];omega
theorem zgY (l : List (Mv)) (f : FuncId) (caps : List U) (p : Mv -> Bool) (hf : ∀ n ∈ l, Fun Tryz.prog f (zu6 n :: caps.map .u) (· = .u (.bool (p n)))) (hcl : zae Tryz.prog f = true)
  (hca : ∀ o, zcw o (caps.map .u) = some (caps.map .u, [])) (hcb : ∀ o, zbK o (caps.map .u) = some (caps, [])) : Fun Tryz.prog 70 [.u (zd4 l), .fnc (.func f) (caps.map .u)] (· = .u (.bool (l.any p))) := by
 have h1 := zo7 l f caps p hf hcl hca;refine Fun.run Tryz.func70 Tryz.ntmps70 Tryz.results70 rfl (by simp) fun Γ hn => ?_; simp only [zzE, zzC, zzD];simp only [zd4] at h1 ⊢
 repeat' (first
  | (refine zaf rfl ?_; simp [hcb])
  | (refine CallP.f2 rfl (h1) (by first | simp [hcb] <;> rfl | fail) ?_; simp [hcb])
  | fail)
 (refine Pst.of ?_; simp)
 have h2 := zff p l 0 (by omega);rw [Bool.eq_iff_iff];simpa using h2
theorem zkS (i : Nat) (l : List Nd) (m : Mv) (hl : l.length <= 3000) : Fun Tryz.prog 69 (zu6 m :: [U.row [.int .i64 i] 0, U.row [zcG l] 0].map .u) (· = .u (.bool (!zmr i l.length m))) := by
 unfold zmr;obtain ⟨t, g⟩ := m;simp only [zu6, zcG, zzC, zzD];refine Fun.run Tryz.func69 Tryz.ntmps69 Tryz.results69 rfl (by simp) fun Γ hn => ?_
 repeat' (first
  | (refine Cnd.of (fun hc => ?_) (fun hc => ?_) <;> (try (exfalso; omega)) <;> (try simp))
  | (refine zaf rfl ?_; simp)
  | fail)
 all_goals
  (refine Pst.of ?_; simp)
 all_goals grind
theorem zdJ (l : List Nd) : zfr l = true ↔ 0 < l.length /\ l.length <= 3000 /\ ∀ (j : Nat) (x : Nd), l[j]? = some x -> znM j l.length x = true := by
 unfold zfr;rw [Bool.and_eq_true, Bool.and_eq_true, zmT, decide_eq_true_eq, decide_eq_true_eq];simp [and_assoc]
theorem zjS (l : List Nd) : Fun Tryz.prog 44 [.u (zcG l)] (· = .u (.bool (zfr l))) := by
 simp only [zcG];by_cases h0 : l.length = 0
 ·have hp : zfr l = false := by unfold zfr; simp [h0]
  have h0' : l = [] := by simpa using h0
  rw [hp];refine Fun.runW Tryz.func44 Tryz.ntmps44 rfl (by simp) fun Γ hn => ?_
  repeat' (first
  | (refine zaf rfl ?_; simp [h0, h0'])
  | fail)
  refine EndW.norm (EndW.here ?_)
  (refine EndOK.val (.inr rfl) ?_; simp [Tryz.results44])
 have h0' : ¬ l = [] := by simpa using h0
 by_cases h3 : 3000 < l.length
 ·have hp : zfr l = false := by unfold zfr; simp; intro _ h; omega
  have h3' : (3000 : Int) < l.length := by omega
  rw [hp];refine Fun.runW Tryz.func44 Tryz.ntmps44 rfl (by simp) fun Γ hn => ?_
  repeat' (first
  | (refine zaf rfl ?_; simp [h0, h0', h3, h3'])
  | fail)
  refine EndW.norm (EndW.here ?_)
  (refine EndOK.val (.inr rfl) ?_; simp [Tryz.results44])
 have h3' : ¬ (3000 : Int) < l.length := by omega
 have hw := fun i m => zkS i l m (by omega);simp only [zcG] at hw;refine Fun.runW Tryz.func44 Tryz.ntmps44 rfl (by simp) fun Γ hn => ?_
 repeat' (first
  | (refine zaf rfl ?_; simp [h0, h0', h3, h3'])
  | fail)
 refine zi1 0 ?_;simp [frzB, zav, zau, St.frzS, frzS, fv, za2, zbn, zbo, frzObS, zat, zan, del];refine zbZ (α := { i : Nat // i <= l.length /\ ∀ (j : Nat) (x : Nd), j < i -> l[j]? = some x -> znM j l.length x = true }) [1, 14, 15] (fun i => [(16, .u (.int .i64 i.1))]) (fun i => []) 1 (fun i => l.length - i.1) ⟨0, by omega, by omega⟩ ?_ ?_
 ·exact (Wk.zdz (by simp [hn] <;> grind))
 rintro ⟨i, hi, hb⟩;simp;rcases hx : l[i]? with _ | x
 ·have hge : l.length <= i := by simpa using hx
  obtain rfl : i = l.length := by omega
  have hp : zfr l = true := (zdJ l).2 ⟨by omega, by omega, fun j x hj => hb j x (List.getElem?_eq_some_iff.1 hj).1 hj⟩;rw [hp]
  repeat' (first
  | (refine zaf rfl ?_; simp [hx])
  | fail)
  refine EndW.norm (EndW.here ?_)
  (refine EndOK.val (.inr rfl) ?_; simp [Tryz.results44])
 ·have hlt : i < l.length := (List.getElem?_eq_some_iff.1 hx).1;have hcq := zgY x.moves 69 [U.row [.int .i64 i] 0, U.row [zcG l] 0] (fun m => !zmr i l.length m) (fun m _ => zkS i l m (by omega)) (by kernel_rfl) (fun _ => rfl) (fun _ => rfl);have hbad : znM i l.length x = false -> zfr l = false := fun h => by
   rw [Bool.eq_false_iff];intro hg;rw [((zdJ l).1 hg).2.2 i x hx] at h;cases h
  simp only [zcG, zd4, zzC, zzD] at hcq;have hany : (x.moves.any fun m => !zmr i l.length m) = !x.moves.all (zmr i l.length) := by
   generalize x.moves = ms
   induction ms with
   | nil => rfl
   | cons a r ih => simp [ih, Bool.not_and]
  rw [hany] at hcq;unfold znM at hbad;by_cases h8 : 8 < x.moves.length
  ·have h8' : (8 : Int) < x.moves.length := by omega
   rw [hbad (by simp; omega)]
   repeat' (first
  | (refine Cnd.of (fun hc => ?_) (fun hc => ?_) <;> (try (exfalso; omega)) <;> (try simp [hx, h8, h8']))
  | (refine zaf rfl ?_; simp [hx, h8, h8'])
  | fail)
   refine EndW.norm (EndW.here ?_)
   (refine EndOK.val (.inr rfl) ?_; simp [Tryz.results44])
  ·have h8' : ¬ (8 : Int) < x.moves.length := by omega
   cases ha : x.moves.all (zmr i l.length) with
   | false =>
    rw [ha] at hcq;rw [hbad (by simp [ha])]
    repeat' (first
  | (refine zg9 (Wk.zue 1 _) ?_; simp [frzB, zav, zau, St.frzS, frzS, fv, za2, zbn, zbo, frzObS, zat, zan, del]; refine CallP.f2 rfl (hcq) (by first | simp [hx, h8, h8'] <;> rfl | fail) ?_; simp [hx, h8, h8'])
  | (refine Cnd.of (fun hc => ?_) (fun hc => ?_) <;> (try (exfalso; omega)) <;> (try simp [hx, h8, h8']))
  | (refine zaf rfl ?_; simp [hx, h8, h8'])
  | fail)
    refine EndW.norm (EndW.here ?_)
    (refine EndOK.val (.inr rfl) ?_; simp [Tryz.results44])
   | true =>
    rw [ha] at hcq
    repeat' (first
  | (refine zg9 (Wk.zue 1 _) ?_; simp [frzB, zav, zau, St.frzS, frzS, fv, za2, zbn, zbo, frzObS, zat, zan, del]; refine CallP.f2 rfl (hcq) (by first | simp [hx, h8, h8'] <;> rfl | fail) ?_; simp [hx, h8, h8'])
  | (refine Cnd.of (fun hc => ?_) (fun hc => ?_) <;> (try (exfalso; omega)) <;> (try simp [hx, h8, h8']))
  | (refine zaf rfl ?_; simp [hx, h8, h8'])
  | (refine And.intro (by omega) ?_)
  | fail)
    refine LoopW.next ⟨i + 1, by omega, fun j y hj hy => ?_⟩ (by simp; omega) ?_
    ·rcases Nat.lt_succ_iff_lt_or_eq.1 hj with h1 | h1
     ·exact hb j y h1 hy
     ·subst h1;rw [hx] at hy;cases hy;unfold znM;rw [ha]; simp; omega
    exact (Wk.zdz (by simp [hn] <;> grind))
theorem ztb (v : Int) (vs : List Int) (m : Mv) (i : Nat) (hv : zjv vs) (hm : zmr i vs.length m = true) : Fun Tryz.prog 94 (zu6 m :: [U.row [.int .i64 v] 0, U.row [ints vs] 0].map .u) (· = .u (.bool (zlE v vs m))) := by
 unfold zlE;obtain ⟨t, g⟩ := m;unfold zmr at hm;simp at hm;obtain ⟨⟨⟨h1, h2⟩, h3⟩, h4⟩ := hm;obtain ⟨T, rfl⟩ := Int.eq_ofNat_of_zero_le (show 0 <= t by omega);have hT : T < vs.length := by omega
 obtain ⟨F, hg⟩ : ∃ F, vs[T]? = some F := ⟨_, List.getElem?_eq_getElem hT⟩;have hge := (List.getElem?_eq_some_iff.1 hg).2;have hv' := hv F (List.mem_of_getElem? hg);simp only [zu6, ints, zzC, zzD];refine Fun.run Tryz.func94 Tryz.ntmps94 Tryz.results94 rfl (by simp) fun Γ hn => ?_
 repeat' (first
  | (refine zaf rfl ?_; simp [hg, hge, hT])
  | (refine And.intro (by omega) ?_)
  | (refine ⟨hC _ (by kernel_rfl), hk _ (zdG 8 _ _ _ ?_)⟩; clear hC hk C k; simp [hg, hge, hT])
  | (refine zdv rfl (by kernel_rfl) (by first | (simp [hn] <;> omega) | fail) fun C k hC hk => ?_; simp [hg, hge, hT])
  | fail)
 (refine Pst.of ?_; simp)
 all_goals try simp [List.getD_eq_getElem?_getD, hg]
theorem zrq (x : Nd) (v c : Int) (vs : List Int) (i : Nat) (hv : zjv vs) (hx : znM i vs.length x = true) : Fun Tryz.prog 66 [.u (.agg [.bool x.mine, zd4 x.moves]), .u (.int .i64 v), .u (.int .i64 c), .u (ints vs)] (· = .u (.bool (zlL x v c vs))) := by
 obtain ⟨h8, hmv⟩ : x.moves.length <= 8 /\ ∀ m ∈ x.moves, zmr i vs.length m = true := by unfold znM at hx; simpa using hx
 have hl := fun (m : Mv) (hm : m ∈ x.moves) => ztb v vs m i hv (hmv m hm);have hcq := zgY x.moves 94 [U.row [.int .i64 v] 0, U.row [ints vs] 0] (zlE v vs) (fun m hm => hl m hm) (by kernel_rfl) (fun _ => rfl) (fun _ => rfl);obtain ⟨mine, ms⟩ := x;simp only [zd4, ints, zzC, zzD] at *;unfold zlL;dsimp only;by_cases h1 : v < -4503599627370496
 ·rw [if_pos (.inl h1)];refine Fun.runW Tryz.func66 Tryz.ntmps66 rfl (by simp) fun Γ hn => ?_
  repeat' (first
  | (refine zaf rfl ?_; simp [h1])
  | fail)
  refine EndW.norm (EndW.here ?_)
  (refine EndOK.val (.inr rfl) ?_; simp [Tryz.results66])
 by_cases h2 : 4503599627370496 < v
 ·rw [if_pos (.inr h2)];refine Fun.runW Tryz.func66 Tryz.ntmps66 rfl (by simp) fun Γ hn => ?_
  repeat' (first
  | (refine zaf rfl ?_; simp [h1, h2])
  | fail)
  refine EndW.norm (EndW.here ?_)
  (refine EndOK.val (.inr rfl) ?_; simp [Tryz.results66])
 rw [if_neg (by omega)];by_cases h0 : ms.length = 0
 ·obtain rfl : ms = [] := by simpa using h0
  rw [if_pos h0];by_cases h3 : 0 <= v
  ·refine Fun.runW Tryz.func66 Tryz.ntmps66 rfl (by simp) fun Γ hn => ?_
   repeat' (first
  | (refine zaf rfl ?_; simp [h1, h2, h3])
  | fail)
   refine EndW.norm (EndW.here ?_)
   (refine EndOK.val (.inr rfl) ?_; simp [Tryz.results66])
   all_goals try simp [h3]
  ·refine Fun.runW Tryz.func66 Tryz.ntmps66 rfl (by simp) fun Γ hn => ?_
   repeat' (first
  | (refine zaf rfl ?_; simp [h1, h2, h3])
  | fail)
   refine EndW.norm (EndW.here ?_)
   (refine EndOK.val (.inr rfl) ?_; simp [Tryz.results66])
   all_goals try simp [h3]
 rw [if_neg h0];have h0' : ¬ ms = [] := by simpa using h0
 cases mine with
 | false =>
  rw [if_pos rfl];by_cases h3 : 0 <= c
  ·obtain ⟨C, rfl⟩ := Int.eq_ofNat_of_zero_le h3;by_cases h4 : (C : Int) < ms.length
   ·have h4' : C < ms.length := by omega
    obtain ⟨m, hm⟩ : ∃ m, ms[C]? = some m := ⟨_, List.getElem?_eq_getElem h4'⟩;have hmo := hmv m (List.mem_of_getElem? hm);have e1 : zlE v vs (ms.getD (Int.toNat C) ⟨0, 0⟩) = zlE v vs m := by rw [List.getD_eq_getElem?_getD, Int.toNat_natCast, hm]; rfl
    rw [e1];unfold zlE;obtain ⟨t, g⟩ := m;unfold zmr at hmo;simp at hmo;obtain ⟨⟨⟨k1, k2⟩, k3⟩, k4⟩ := hmo;obtain ⟨T, rfl⟩ := Int.eq_ofNat_of_zero_le (show 0 <= t by omega);have hT : T < vs.length := by omega
    obtain ⟨F, hg⟩ : ∃ F, vs[T]? = some F := ⟨_, List.getElem?_eq_getElem hT⟩;have hge := (List.getElem?_eq_some_iff.1 hg).2;have hme := (List.getElem?_eq_some_iff.1 hm).2;have hv' := hv F (List.mem_of_getElem? hg);simp only [List.getD_eq_getElem?_getD, Int.toNat_natCast, hg, Option.getD_some];refine Fun.runW Tryz.func66 Tryz.ntmps66 rfl (by simp) fun Γ hn => ?_
    repeat' (first
  | (refine zaf rfl ?_; simp [h1, h2, h0, h0', h4, h4', hm, hme, hg, hge, hT])
  | (refine And.intro (by omega) ?_)
  | (refine ⟨hC _ (by kernel_rfl), hk _ (zdG 8 _ _ _ ?_)⟩; clear hC hk C k; simp [h1, h2, h0, h0', h4, h4', hm, hme, hg, hge, hT])
  | (refine zdv rfl (by kernel_rfl) (by first | (simp [hn] <;> omega) | fail) fun C k hC hk => ?_; simp [h1, h2, h0, h0', h4, h4', hm, hme, hg, hge, hT])
  | fail)
    refine EndW.norm (EndW.here ?_)
    (refine EndOK.val (.inr rfl) ?_; simp [Tryz.results66])
    all_goals try simp [h4']
    all_goals grind
   ·refine Fun.runW Tryz.func66 Tryz.ntmps66 rfl (by simp) fun Γ hn => ?_
    repeat' (first
  | (refine zaf rfl ?_; simp [h1, h2, h0, h0', h4])
  | (refine ⟨hC _ (by kernel_rfl), hk _ (zdG 8 _ _ _ ?_)⟩; clear hC hk C k; simp [h1, h2, h0, h0', h4])
  | (refine zdv rfl (by kernel_rfl) (by first | (simp [hn] <;> omega) | fail) fun C k hC hk => ?_; simp [h1, h2, h0, h0', h4])
  | fail)
    refine EndW.norm (EndW.here ?_)
    (refine EndOK.val (.inr rfl) ?_; simp [Tryz.results66])
    all_goals try simp [h4]
  ·refine Fun.runW Tryz.func66 Tryz.ntmps66 rfl (by simp) fun Γ hn => ?_
   repeat' (first
  | (refine zaf rfl ?_; simp [h1, h2, h0, h0', h3])
  | (refine ⟨hC _ (by kernel_rfl), hk _ (zdG 8 _ _ _ ?_)⟩; clear hC hk C k; simp [h1, h2, h0, h0', h3])
  | (refine zdv rfl (by kernel_rfl) (by first | (simp [hn] <;> omega) | fail) fun C k hC hk => ?_; simp [h1, h2, h0, h0', h3])
  | fail)
   refine EndW.norm (EndW.here ?_)
   (refine EndOK.val (.inr rfl) ?_; simp [Tryz.results66])
   all_goals try simp [h3]
 | true =>
  rw [if_neg (by simp)];by_cases h3 : c = -1
  ·subst h3;refine Fun.runW Tryz.func66 Tryz.ntmps66 rfl (by simp) fun Γ hn => ?_
   repeat' (first
  | (refine zaf rfl ?_; simp [h1, h2, h0, h0'])
  | (refine CallP.f2 rfl (hcq) (by first | simp [h1, h2, h0, h0'] <;> rfl | fail) ?_; simp [h1, h2, h0, h0'])
  | fail)
   refine EndW.norm (EndW.here ?_)
   (refine EndOK.val (.inr rfl) ?_; simp [Tryz.results66])
  ·refine Fun.runW Tryz.func66 Tryz.ntmps66 rfl (by simp) fun Γ hn => ?_
   repeat' (first
  | (refine zaf rfl ?_; simp [h1, h2, h0, h0', h3])
  | fail)
   refine EndW.norm (EndW.here ?_)
   (refine EndOK.val (.inr rfl) ?_; simp [Tryz.results66])
   all_goals try simp [h3]
theorem zpf (l : List Nd) (vs cs : List Int) (hg : zfr l = true) (h1 : vs.length = l.length) (h2 : cs.length = l.length) (hv : zjv vs) : Fun Tryz.prog 40 [.u (zcG l), .u (.agg [ints vs, ints cs])] (· = .u (.int .i64 (zg0 l vs cs))) := by
 obtain ⟨hl0, hl3, hnd⟩ := (zdJ l).1 hg;have h0 := zjS l;rw [hg] at h0;have hh := fun (x : Nd) (i : Nat) (hx : l[i]? = some x) => zrq x (vs.getD i 0) (cs.getD i 0) vs i hv (by rw [h1]; exact hnd i x hx);simp only [zcG, ints, zd4] at *;refine Fun.runW Tryz.func40 Tryz.ntmps40 rfl (by simp) fun Γ hn => ?_
 repeat' (first
  | (refine zaf rfl ?_; simp [h1, h2])
  | (refine And.intro (by omega) ?_)
  | (refine CallP.f2 rfl (h0) (by first | simp [h1, h2] <;> rfl | fail) ?_; simp [h1, h2])
  | fail)
 refine zbZ (α := { j : Nat // j <= l.length /\ ∀ k, j <= k -> k < l.length -> zkx l vs cs k = true }) [0, 3] (fun j => [(5, .u (.int .i64 ((j.1 : Int) - 1)))]) (fun j => [(0, .box [.u (.sl (vs.map fun n => [.int .i64 n])), .u (.sl (cs.map fun n => [.int .i64 n]))])]) 1 (fun j => j.1) ⟨l.length, Nat.le_refl _, fun k a b => by omega⟩ ?_ ?_
 ·exact (Wk.zdz (by simp [hn] <;> grind))
 rintro ⟨j, hj, hb⟩;simp;rcases j with _ | i
 ·have hp : zg0 l vs cs = 0 := by
   unfold zg0;rw [if_pos];exact List.all_eq_true.2 fun k hk => hb k (Nat.zero_le _) (List.mem_range.1 hk)
  rw [hp]
  repeat' (first
  | (refine zaf rfl ?_; simp)
  | fail)
  refine EndW.norm (EndW.here ?_)
  (refine EndOK.val (.inr rfl) ?_; simp [Tryz.results40])
 have hi : i < l.length := by omega
 obtain ⟨x, hx⟩ : ∃ x, l[i]? = some x := ⟨_, List.getElem?_eq_getElem hi⟩;have hh := hh x i hx;have hiv : i < vs.length := by omega
 have hic : i < cs.length := by omega
 obtain ⟨v, gv⟩ : ∃ F, vs[i]? = some F := ⟨_, List.getElem?_eq_getElem hiv⟩;obtain ⟨c, gc⟩ : ∃ F, cs[i]? = some F := ⟨_, List.getElem?_eq_getElem hic⟩;have gve := (List.getElem?_eq_some_iff.1 gv).2;have gce := (List.getElem?_eq_some_iff.1 gc).2;have hxe := (List.getElem?_eq_some_iff.1 hx).2;have e1 : (((i + 1 : Nat) : Int)) - 1 = i := by omega
 have hat : zkx l vs cs i = zlL x (vs.getD i 0) (cs.getD i 0) vs := by unfold zkx; rw [List.getD_eq_getElem?_getD, hx]; rfl
 simp only [List.getD_eq_getElem?_getD, gv, gc, Option.getD_some] at hh hat;cases ha : zlL x v c vs with
 | true =>
  rw [ha] at hh
  repeat' (first
  | (refine zaf rfl ?_; simp [hx, hxe, e1, gv, gc, gve, gce, hiv, hic])
  | (refine And.intro (by omega) ?_)
  | (refine ⟨hC _ (by kernel_rfl), hk _ (zdG 8 _ _ _ ?_)⟩; clear hC hk C k; simp [hx, hxe, e1, gv, gc, gve, gce, hiv, hic])
  | (refine zdv rfl (by kernel_rfl) (by first | (simp [hn] <;> omega) | fail) fun C k hC hk => ?_; simp [hx, hxe, e1, gv, gc, gve, gce, hiv, hic])
  | (refine zcB rfl ?_; simp [hx, hxe, e1, gv, gc, gve, gce, hiv, hic])
  | (refine zbP rfl ?_; simp [hx, hxe, e1, gv, gc, gve, gce, hiv, hic])
  | (refine CallV.f2 rfl (hh) (by first | simp [hx, hxe, e1, gv, gc, gve, gce, hiv, hic] <;> rfl | fail) ?_; simp [hx, hxe, e1, gv, gc, gve, gce, hiv, hic])
  | fail)
  refine LoopW.next ⟨i, by omega, fun k a b => ?_⟩ (by simp) ?_
  ·rcases Nat.eq_or_lt_of_le a with rfl | a
   ·rw [hat, ha]
   ·exact hb k a b
  exact (Wk.zdz (by simp [hn] <;> grind))
 | false =>
  rw [ha] at hh;have hp : zg0 l vs cs = 21 := by
   unfold zg0;rw [if_neg];intro hall;have := List.all_eq_true.1 hall i (List.mem_range.2 hi);rw [hat, ha] at this;cases this
  rw [hp]
  repeat' (first
  | (refine zaf rfl ?_; simp [hx, hxe, e1, gv, gc, gve, gce, hiv, hic])
  | (refine ⟨hC _ (by kernel_rfl), hk _ (zdG 8 _ _ _ ?_)⟩; clear hC hk C k; simp [hx, hxe, e1, gv, gc, gve, gce, hiv, hic])
  | (refine zdv rfl (by kernel_rfl) (by first | (simp [hn] <;> omega) | fail) fun C k hC hk => ?_; simp [hx, hxe, e1, gv, gc, gve, gce, hiv, hic])
  | (refine zcB rfl ?_; simp [hx, hxe, e1, gv, gc, gve, gce, hiv, hic])
  | (refine zbP rfl ?_; simp [hx, hxe, e1, gv, gc, gve, gce, hiv, hic])
  | (refine CallV.f2 rfl (hh) (by first | simp [hx, hxe, e1, gv, gc, gve, gce, hiv, hic] <;> rfl | fail) ?_; simp [hx, hxe, e1, gv, gc, gve, gce, hiv, hic])
  | fail)
  refine EndW.norm (EndW.here ?_)
  (refine EndOK.val (.inr rfl) ?_; simp [Tryz.results40])
theorem zgX (s : List UInt8) (n : Int) : Fun Tryz.prog 20 [.u (.str s), .u (.int .i64 n)] (· = .u (zul ⟨s, 1, n⟩)) := by
 simp only [zul];refine Fun.runW Tryz.func20 Tryz.ntmps20 rfl (by simp) fun Γ hn => ?_
 repeat' (first
  | (refine zaf rfl ?_; simp)
  | fail)
 refine EndW.norm (EndW.here ?_)
 (refine EndOK.val (.inr rfl) ?_; simp [Tryz.results20])
theorem zfO (s : List UInt8) (n : Int) : Fun Tryz.prog 21 [.u (.str s), .u (.int .i64 n)] (· = .u (zul ⟨s, 3, n⟩)) := by
 simp only [zul];refine Fun.runW Tryz.func21 Tryz.ntmps21 rfl (by simp) fun Γ hn => ?_
 repeat' (first
  | (refine zaf rfl ?_; simp)
  | fail)
 refine EndW.norm (EndW.here ?_)
 (refine EndOK.val (.inr rfl) ?_; simp [Tryz.results21])
theorem zhU (b : By) (n : Int) (k : Nat) (c : List UInt8) (vars : List Var) : Fun Tryz.prog 19 [.u (zgf b n k), .u (.str c), .u (zei vars)] (· = .tup [.u (.int .i64 (zpK b c vars).1), .u (.int .i64 (zpK b c vars).2)]) := by
 have h1 := zpu b c vars;unfold zpK;generalize zeK b c vars = R at *;obtain ⟨r, e⟩ := R;simp only [zgf, zei, zaF, List.cons_append, List.nil_append] at h1 ⊢;refine Fun.runW Tryz.func19 Tryz.ntmps19 rfl (by simp) fun Γ hn => ?_
 repeat' (first
  | (refine zaf rfl ?_; simp)
  | (refine CallP.f2 rfl (h1) (by first | simp <;> rfl | fail) ?_; simp)
  | fail)
 refine EndW.norm (EndW.here ?_)
 (refine EndOK.val (.inr rfl) ?_; simp [Tryz.results19])
theorem ztD (b : By) (n : Int) (k j : Nat) (hr : zc1 b = true) (hn : 1 <= n /\ n <= 60) (hk : (k : Int) <= n) : Fun Tryz.prog 95 [.u (zgf b n k), .u (.int .i64 j)] (· = .u (.bool (zm8 b n k j))) := by
 obtain ⟨_, _, _, hv, _⟩ := zdd hr;have h1 := zeH (x := b.voices) (y := n) (B := 60) (C := 1000) hv (by omega) (by omega);unfold zm8;simp only [zgf, zaF, List.cons_append, List.nil_append];refine Fun.runW Tryz.func95 Tryz.ntmps95 rfl (by simp) fun Γ hn => ?_
 repeat' (first
  | (refine Cnd.of (fun hc => ?_) (fun hc => ?_) <;> (try (exfalso; omega)) <;> (try simp))
  | (refine zaf rfl ?_; simp)
  | (refine And.intro (by omega) ?_)
  | fail)
 all_goals
  refine EndW.norm (EndW.here ?_)
  (refine EndOK.val (.inr rfl) ?_; simp [Tryz.results95])
 all_goals grind
theorem ze9 (b : By) (m : Int) (c : List Int) (hl : c.length <= 1000000) : Fun Tryz.prog 18 [.u (.agg (zaF b)), .u (.int .i64 m), .u (ints c)] (· = .u (.bool (zeO b m c))) := by
 have h1 := ze8 b;unfold zeO;simp only [ints];generalize hR : zkE m (-1) c = R;simp only [zaF] at h1 ⊢;refine Fun.runW Tryz.func18 Tryz.ntmps18 rfl (by simp) fun Γ hn => ?_
 repeat' (first
  | (refine zaf rfl ?_; simp)
  | fail)
 refine zi1 0 ?_;simp [frzB, zav, zau, St.frzS, frzS, fv, za2, zbn, zbo, frzObS, zat, zan, del];refine zbZ (α := { s : Nat × Int // s.1 <= c.length /\ zkE m s.2 (c.drop s.1) = R }) [1, 3, 10, 11] (fun s => [(7, .u (.int .i64 s.1.2)), (12, .u (.int .i64 s.1.1))]) (fun s => []) 1 (fun s => c.length - s.1.1) ⟨(0, -1), by omega, hR⟩ ?_ ?_
 ·exact (Wk.zdz (by simp [hn] <;> grind))
 rintro ⟨⟨i, last⟩, hi, hc0⟩;simp;simp only at hi hc0;rcases hx : c[i]? with _ | x
 ·have hge : c.length <= i := by simpa using hx
  obtain rfl : i = c.length := by omega
  have hRt : R = true := by rw [<- hc0]; simp [zkE]
  subst hRt;by_cases hm1 : 1 <= m
  ·by_cases hm2 : m <= 60
   ·repeat' (first
  | (refine Cnd.of (fun hc => ?_) (fun hc => ?_) <;> (try (exfalso; omega)) <;> (try simp [hx, hm1, hm2]))
  | (refine zaf rfl ?_; simp [hx, hm1, hm2])
  | (refine CallP.f2 rfl (h1) (by first | simp [hx, hm1, hm2] <;> rfl | fail) ?_; simp [hx, hm1, hm2])
  | fail)
    all_goals
     refine EndW.norm (EndW.here ?_)
     (refine EndOK.val (.inr rfl) ?_; simp [Tryz.results18])
    all_goals try simp_all
   ·repeat' (first
  | (refine Cnd.of (fun hc => ?_) (fun hc => ?_) <;> (try (exfalso; omega)) <;> (try simp [hx, hm1, hm2]))
  | (refine zaf rfl ?_; simp [hx, hm1, hm2])
  | (refine CallP.f2 rfl (h1) (by first | simp [hx, hm1, hm2] <;> rfl | fail) ?_; simp [hx, hm1, hm2])
  | fail)
    all_goals
     refine EndW.norm (EndW.here ?_)
     (refine EndOK.val (.inr rfl) ?_; simp [Tryz.results18])
    all_goals try simp_all
  ·repeat' (first
  | (refine Cnd.of (fun hc => ?_) (fun hc => ?_) <;> (try (exfalso; omega)) <;> (try simp [hx, hm1]))
  | (refine zaf rfl ?_; simp [hx, hm1])
  | (refine CallP.f2 rfl (h1) (by first | simp [hx, hm1] <;> rfl | fail) ?_; simp [hx, hm1])
  | fail)
   all_goals
    refine EndW.norm (EndW.here ?_)
    (refine EndOK.val (.inr rfl) ?_; simp [Tryz.results18])
   all_goals try simp_all
 ·have hlt : i < c.length := (List.getElem?_eq_some_iff.1 hx).1;have hxe := (List.getElem?_eq_some_iff.1 hx).2;rw [zvv hx, zkE] at hc0;by_cases h2 : x <= last
  ·have hRf : R = false := by rw [<- hc0]; simp; omega
   subst hRf
   repeat' (first
  | (refine Cnd.of (fun hc => ?_) (fun hc => ?_) <;> (try (exfalso; omega)) <;> (try simp [hx, hxe, h2]))
  | (refine zaf rfl ?_; simp [hx, hxe, h2])
  | fail)
   refine EndW.norm (EndW.here ?_)
   (refine EndOK.val (.inr rfl) ?_; simp [Tryz.results18])
  ·by_cases h3 : m <= x
   ·have hRf : R = false := by rw [<- hc0]; simp; omega
    subst hRf
    repeat' (first
  | (refine Cnd.of (fun hc => ?_) (fun hc => ?_) <;> (try (exfalso; omega)) <;> (try simp [hx, hxe, h2, h3]))
  | (refine zaf rfl ?_; simp [hx, hxe, h2, h3])
  | fail)
    refine EndW.norm (EndW.here ?_)
    (refine EndOK.val (.inr rfl) ?_; simp [Tryz.results18])
   ·have hRt : zkE m x (c.drop (i + 1)) = R := by rw [<- hc0]; simp; omega
    repeat' (first
  | (refine Cnd.of (fun hc => ?_) (fun hc => ?_) <;> (try (exfalso; omega)) <;> (try simp [hx, hxe, h2, h3]))
  | (refine zaf rfl ?_; simp [hx, hxe, h2, h3])
  | (refine And.intro (by omega) ?_)
  | fail)
    refine LoopW.next ⟨(i + 1, x), by simp; omega, hRt⟩ (by simp; omega) ?_
    exact (Wk.zdz (by simp [hn] <;> grind))
theorem zpt (b : By) (n : Int) (k p : Nat) (a end_ : Int) (g : List Int) (hr : zc1 b = true) (hn : 1 <= n /\ n <= 60) (hk : k <= 7 /\ (k : Int) <= n) (hp : p < 1000) (ha : 0 <= a /\ a <= 100000) (he : 0 <= end_ /\ end_ <= 100000) (hg : g.length = k + 1) :
  Fun Tryz.prog 68 [.u (zgf b n k), .u (.int .i64 p), .u (.int .i64 a), .u (.int .i64 end_), .u (ints g)] (· = .u (zcG (zgK b n k p a end_ g))) := by
 obtain ⟨hlast, _⟩ := zdd hr;have hen := fun j => ztD b n k j hr hn hk.2;unfold zgK;have hM : ∃ M, M = zir k (a + (k + 1)) g k := ⟨_, rfl⟩;obtain ⟨M, hM⟩ := hM;rw [<- hM];simp only [zgf, zaF, ints, List.cons_append, List.nil_append] at hen ⊢;refine Fun.runW Tryz.func68 Tryz.ntmps68 rfl (by simp) fun Γ hn => ?_
 repeat' (first
  | (refine zaf rfl ?_; simp [hk])
  | (refine And.intro (by omega) ?_)
  | fail)
 refine zi1 0 ?_;simp [frzB, zav, zau, St.frzS, frzS, fv, za2, zbn, zbo, frzObS, zat, zan, del];refine zmt _ (Wk.own 11 119 2 (by decide) rfl) ?_;simp [St.own];refine zbZ (α := { s : Nat × List Nd // s.1 + s.2.length = k + 1 /\ s.2 ++ zlz k (a + (k + 1)) g s.1 = M }) [1, 2, 3, 4, 5, 12] (fun s => [(11, .vec 1 s.1.2.length), (13, .u (.int .i64 ((s.1.1 : Int) - 1)))]) (fun s => [(1, .vec 119 2 (zdL s.1.2))]) 2 (fun s => s.1.1) ⟨(k + 1, []), by simp, by simp [hM, zlz]⟩ ?_ ?_
 ·exact (Wk.zdz (by simp [hn, zdL] <;> grind))
 rintro ⟨⟨j, done⟩, hjl, hjM⟩;simp;simp only at hjl hjM;rcases j with _ | i
 ·have hMd : done = M := by simpa [zlz] using hjM
  obtain ⟨N, hN⟩ : ∃ N, N = M ++ zhK b n k (decide ((p : Int) = b.last - 1)) (a + 2 * (k + 1)) end_ k := ⟨_, rfl⟩;rw [<- hN]
  repeat' (first
  | (refine zaf rfl ?_; simp [hk])
  | fail)
  refine zbZ (α := { s : Nat × List Nd // s.1 + s.2.length = 2 * (k + 1) /\ s.1 <= k + 1 /\ s.2 ++ zjE b n k (decide ((p : Int) = b.last - 1)) (a + 2 * (k + 1)) end_ s.1 = N }) [1, 2, 3, 5, 12] (fun s => [(11, .vec 1 s.1.2.length), (16, .u (.int .i64 ((s.1.1 : Int) - 1)))]) (fun s => [(1, .vec 119 2 (zdL s.1.2))]) 2 (fun s => s.1.1) ⟨(k + 1, done), by simp; omega, by omega, by simp [hN, hMd, zjE]⟩ ?_ ?_
  ·exact (Wk.zdz (by simp [hn, zbq, zba] <;> grind))
  rintro ⟨⟨j, dn⟩, hjl2, hjk, hjN⟩;simp;simp only at hjl2 hjk hjN;have hln := zeS dn;have hlr2 := zhk dn;rcases j with _ | i
  ·have hdN : N = dn := by simpa [zjE] using hjN.symm
   repeat' (first
  | (refine zaf rfl ?_; simp [hln])
  | fail)
   (refine EndW.frzN 1 ?_; simp [del, zd3, zlw, zeS])
   refine EndW.norm (EndW.here ?_)
   (refine EndOK.val (.inr rfl) ?_; simp [Tryz.results68])
   all_goals simp [zcG, hdN, zd4]
  have e1 : (((i + 1 : Nat) : Int)) - 1 = i := by omega
  rw [zmH] at hjN;have hei := hen i;by_cases hlp : (p : Int) = b.last - 1
  ·cases hee : zm8 b n k i with
   | true =>
    rw [hee] at hei;have hs := zeR dn false [⟨end_, 0⟩, ⟨end_, 0⟩];simp only [zzC, zzD] at hs
    repeat' (first
  | (refine zaf rfl ?_; simp [e1, hln, hlr2, hlp])
  | (refine And.intro (by omega) ?_)
  | (refine CallP.f2 rfl (hei) (by first | simp [e1, hln, hlr2, hlp] <;> rfl | fail) ?_; simp [e1, hln, hlr2, hlp])
  | fail)
    refine LoopW.next ⟨(i, dn ++ [⟨false, [⟨end_, 0⟩, ⟨end_, 0⟩]⟩]), by simp; omega, by omega, by rw [<- hjN, List.append_assoc]; simp [hlp, hee]⟩ (by simp) ?_
    refine Wk.trans (Wk.frz (e := 124) (sz := 2) 5 [7] (us := [[.int .i64 (end_), .int .i64 0], [.int .i64 end_, .int .i64 0]]) (rows := [[.u (.int .i64 (end_)), .u (.int .i64 0)], [.u (.int .i64 end_), .u (.int .i64 0)]]) (by simp [zaa, getK, zac, zad]) rfl) ?_;simp [St.frz, St.frzS, frzS, fv, za2, frzObS, del, zcx, zd3];exact (Wk.ren ((fun i => if i = 1 then 7 else i)) rfl (by first | (simp [hn]; done) | (intro i hi; rw [hn] at hi; constructor <;> (try simp) <;> (try (intro _)) <;> omega)) (by simp [zi6, St.lp, zax, zaa, getK, zac, zad, D.under, D.le, D.ren, hs, zbO, zbq, zby, zba] <;> (try (intros; simp_all; done)) <;> (try omega)) (by simp [wkR, St.lp, zaa, getK, zac, zad, obR, leU, zcu, za7, Ob.under, D.under, D.le, D.ren, hs, zbO, zbq, zby, zba] <;> (try (intros; simp_all; done)) <;> (try omega)) (by simp [hs, zbO, zbq, zby, zba]))
   | false =>
    rw [hee] at hei;have hs := zeR dn false [⟨end_, 0⟩];simp only [zzC, zzD] at hs
    repeat' (first
  | (refine zaf rfl ?_; simp [e1, hln, hlr2, hlp])
  | (refine And.intro (by omega) ?_)
  | (refine CallP.f2 rfl (hei) (by first | simp [e1, hln, hlr2, hlp] <;> rfl | fail) ?_; simp [e1, hln, hlr2, hlp])
  | fail)
    refine LoopW.next ⟨(i, dn ++ [⟨false, [⟨end_, 0⟩]⟩]), by simp; omega, by omega, by rw [<- hjN, List.append_assoc]; simp [hlp, hee]⟩ (by simp) ?_
    refine Wk.trans (Wk.frz (e := 124) (sz := 2) 2 [5] (us := [[.int .i64 (end_), .int .i64 0]]) (rows := [[.u (.int .i64 (end_)), .u (.int .i64 0)]]) (by simp [zaa, getK, zac, zad]) rfl) ?_;simp [St.frz, St.frzS, frzS, fv, za2, frzObS, del, zcx, zd3];exact (Wk.ren ((fun i => if i = 1 then 5 else i)) rfl (by first | (simp [hn]; done) | (intro i hi; rw [hn] at hi; constructor <;> (try simp) <;> (try (intro _)) <;> omega)) (by simp [zi6, St.lp, zax, zaa, getK, zac, zad, D.under, D.le, D.ren, hs, zbO, zbq, zby, zba] <;> (try (intros; simp_all; done)) <;> (try omega)) (by simp [wkR, St.lp, zaa, getK, zac, zad, obR, leU, zcu, za7, Ob.under, D.under, D.le, D.ren, hs, zbO, zbq, zby, zba] <;> (try (intros; simp_all; done)) <;> (try omega)) (by simp [hs, zbO, zbq, zby, zba]))
  ·cases hee : zm8 b n k i with
   | true =>
    rw [hee] at hei;have hs := zeR dn false [⟨a + 2 * (k + 1) + k - i, 0⟩, ⟨end_, 0⟩];simp only [zzC, zzD] at hs
    repeat' (first
  | (refine zaf rfl ?_; simp [e1, hln, hlr2, hlp])
  | (refine And.intro (by omega) ?_)
  | (refine CallP.f2 rfl (hei) (by first | simp [e1, hln, hlr2, hlp] <;> rfl | fail) ?_; simp [e1, hln, hlr2, hlp])
  | fail)
    refine LoopW.next ⟨(i, dn ++ [⟨false, [⟨a + 2 * (k + 1) + k - i, 0⟩, ⟨end_, 0⟩]⟩]), by simp; omega, by omega, by rw [<- hjN, List.append_assoc]; simp [hlp, hee]⟩ (by simp) ?_
    refine Wk.trans (Wk.frz (e := 124) (sz := 2) 5 [7] (us := [[.int .i64 (a + 2 * (k + 1) + k - i), .int .i64 0], [.int .i64 end_, .int .i64 0]]) (rows := [[.u (.int .i64 (a + 2 * (k + 1) + k - i)), .u (.int .i64 0)], [.u (.int .i64 end_), .u (.int .i64 0)]]) (by simp [zaa, getK, zac, zad]) rfl) ?_;simp [St.frz, St.frzS, frzS, fv, za2, frzObS, del, zcx, zd3];exact (Wk.ren ((fun i => if i = 1 then 7 else i)) rfl (by first | (simp [hn]; done) | (intro i hi; rw [hn] at hi; constructor <;> (try simp) <;> (try (intro _)) <;> omega)) (by simp [zi6, St.lp, zax, zaa, getK, zac, zad, D.under, D.le, D.ren, hs, zbO, zbq, zby, zba] <;> (try (intros; simp_all; done)) <;> (try omega)) (by simp [wkR, St.lp, zaa, getK, zac, zad, obR, leU, zcu, za7, Ob.under, D.under, D.le, D.ren, hs, zbO, zbq, zby, zba] <;> (try (intros; simp_all; done)) <;> (try omega)) (by simp [hs, zbO, zbq, zby, zba]))
   | false =>
    rw [hee] at hei;have hs := zeR dn false [⟨a + 2 * (k + 1) + k - i, 0⟩];simp only [zzC, zzD] at hs
    repeat' (first
  | (refine zaf rfl ?_; simp [e1, hln, hlr2, hlp])
  | (refine And.intro (by omega) ?_)
  | (refine CallP.f2 rfl (hei) (by first | simp [e1, hln, hlr2, hlp] <;> rfl | fail) ?_; simp [e1, hln, hlr2, hlp])
  | fail)
    refine LoopW.next ⟨(i, dn ++ [⟨false, [⟨a + 2 * (k + 1) + k - i, 0⟩]⟩]), by simp; omega, by omega, by rw [<- hjN, List.append_assoc]; simp [hlp, hee]⟩ (by simp) ?_
    refine Wk.trans (Wk.frz (e := 124) (sz := 2) 2 [5] (us := [[.int .i64 (a + 2 * (k + 1) + k - i), .int .i64 0]]) (rows := [[.u (.int .i64 (a + 2 * (k + 1) + k - i)), .u (.int .i64 0)]]) (by simp [zaa, getK, zac, zad]) rfl) ?_;simp [St.frz, St.frzS, frzS, fv, za2, frzObS, del, zcx, zd3];exact (Wk.ren ((fun i => if i = 1 then 5 else i)) rfl (by first | (simp [hn]; done) | (intro i hi; rw [hn] at hi; constructor <;> (try simp) <;> (try (intro _)) <;> omega)) (by simp [zi6, St.lp, zax, zaa, getK, zac, zad, D.under, D.le, D.ren, hs, zbO, zbq, zby, zba] <;> (try (intros; simp_all; done)) <;> (try omega)) (by simp [wkR, St.lp, zaa, getK, zac, zad, obR, leU, zcu, za7, Ob.under, D.under, D.le, D.ren, hs, zbO, zbq, zby, zba] <;> (try (intros; simp_all; done)) <;> (try omega)) (by simp [hs, zbO, zbq, zby, zba]))
 have e1 : (((i + 1 : Nat) : Int)) - 1 = i := by omega
 repeat' (first
  | (refine zaf rfl ?_; simp [e1])
  | fail)
 refine zmt _ (Wk.ownC 2 _ 1 124 2 (by decide) rfl rfl) ?_;simp [St.ownC];refine zbZ (α := { s : Nat × List Mv // s.1 + s.2.length = i + 1 /\ s.2 ++ zhF k (a + (k + 1)) g s.1 = zhF k (a + (k + 1)) g (i + 1) }) [1, 2, 3, 4, 5, 11, 12, 13, 14] (fun s => [(15, .u (.int .i64 ((s.1.1 : Int) - 1)))]) (fun s => [(1, .vec 119 2 (zdL done)), (2, .box [.u (.bool true), .vec 3 s.1.2.length]), (3, .vec 124 2 (zgs s.1.2))]) 4 (fun s => s.1.1) ⟨(i + 1, []), by simp, by simp⟩ ?_ ?_
 ·exact (Wk.zdz (by simp [hn, zdL, zgs] <;> grind))
 rintro ⟨⟨q, dm⟩, hql, hqM⟩;simp;simp only at hql hqM;have hlm := zgL dm;have hlr := zoT dm;have hlr2 := zhk done;have hln := zeS done;rcases q with _ | q
 ·have hdm : dm = zhF k (a + (k + 1)) g (i + 1) := by simpa [zhF] using hqM
  have hs := zeR done true dm;refine zmt _ (Wk.frz (e := 124) (sz := 2) 3 [2] (us := dm.map fun m => [.int .i64 m.to_, .int .i64 m.gain]) (rows := zgs dm) (by simp [zaa, getK]) (zqU dm)) ?_;simp [St.frz, St.frzS, frzS, fv, za2, frzObS, del, hlm, zd3]
  repeat' (first
  | (refine zaf rfl ?_; simp [e1, hln, zeS, hlr2, hs])
  | (refine And.intro (by omega) ?_)
  | fail)
  refine LoopW.next ⟨(i, done ++ [⟨true, dm⟩]), by simp; omega, by rw [<- hjM, zmW, <- hdm, List.append_assoc]; rfl⟩ (by simp) ?_
  exact (Wk.ren ((fun i => if i = 1 then 5 else i)) rfl (by first | (simp [hn]; done) | (intro i hi; rw [hn] at hi; constructor <;> (try simp) <;> (try (intro _)) <;> omega)) (by simp [zi6, St.lp, zax, zaa, getK, zac, zad, D.under, D.le, D.ren, hs, zbO, zbq, zby, zba] <;> (try (intros; simp_all; done)) <;> (try omega)) (by simp [wkR, St.lp, zaa, getK, zac, zad, obR, leU, zcu, za7, Ob.under, D.under, D.le, D.ren, hs, zbO, zbq, zby, zba] <;> (try (intros; simp_all; done)) <;> (try omega)) (by simp [hs, zbO, zbq, zby, zba]))
 ·have e2 : (((q + 1 : Nat) : Int)) - 1 = q := by omega
  have hqg : q < g.length := by omega
  obtain ⟨v, hgv⟩ : ∃ v, g[q]? = some v := ⟨_, List.getElem?_eq_getElem hqg⟩;have hge := (List.getElem?_eq_some_iff.1 hgv).2;have hs := zoS dm (a + (k + 1) + k - q) v
  repeat' (first
  | (refine zaf rfl ?_; simp [e2, hqg, hgv, hge, hlm, zgL, hlr, hs])
  | (refine And.intro (by omega) ?_)
  | (refine ⟨hC _ (by kernel_rfl), hk _ (zdG 8 _ _ _ ?_)⟩; clear hC hk C k; simp [e2, hqg, hgv, hge, hlm, zgL, hlr, hs])
  | (refine zdv rfl (by kernel_rfl) (by first | (simp [hn] <;> omega) | fail) fun C k hC hk => ?_; simp [e2, hqg, hgv, hge, hlm, zgL, hlr, hs])
  | fail)
  refine LoopW.next ⟨(q, dm ++ [⟨a + (k + 1) + k - q, v⟩]), by simp; omega, by rw [<- hqM, zmX, List.append_assoc, List.getD_eq_getElem?_getD, hgv]; rfl⟩ (by simp) ?_
  exact (Wk.ren ((fun i => if i = 3 then 5 else i)) rfl (by first | (simp [hn]; done) | (intro i hi; rw [hn] at hi; constructor <;> (try simp) <;> (try (intro _)) <;> omega)) (by simp [zi6, St.lp, zax, zaa, getK, zac, zad, D.under, D.le, D.ren, hs, zbO, zbq, zby, zba] <;> (try (intros; simp_all; done)) <;> (try omega)) (by simp [wkR, St.lp, zaa, getK, zac, zad, obR, leU, zcu, za7, Ob.under, D.under, D.le, D.ren, hs, zbO, zbq, zby, zba] <;> (try (intros; simp_all; done)) <;> (try omega)) (by simp [hs, zbO, zbq, zby, zba]))
theorem ztp (b : By) (m : Int) (c : List Int) (hl : c.length <= 1000000) (hR : zeO b m c = false) : Fun Tryz.prog 43 [.u (.agg (zaF b)), .u (.int .i64 m), .u (ints c)] (· = .tup [.u (zcG (zd8 b m c).1), .u (.int .i64 (zd8 b m c).2)]) := by
 have h1 := ze9 b m c hl;unfold zd8;rw [hR] at h1;rw [hR];simp only [zaF, ints] at h1 ⊢;refine Fun.runW Tryz.func43 Tryz.ntmps43 rfl (by simp) fun Γ hn => ?_
 repeat' (first
  | (refine zaf rfl ?_; simp)
  | (refine CallP.f2 rfl (h1) (by first | simp <;> rfl | fail) ?_; simp)
  | fail)
 refine EndW.norm (EndW.here ?_)
 (refine EndOK.val (.inr rfl) ?_; simp [Tryz.results43])
 all_goals simp [zcG]
theorem zrw (b : By) (m : Int) (c : List Int) (hl : c.length <= 1000000) (hR : zeO b m c = true) (h9 : 7 < c.length \/ 3000 <= 2 * ((c.length : Int) + 1) * b.last) : Fun Tryz.prog 43 [.u (.agg (zaF b)), .u (.int .i64 m), .u (ints c)] (· = .tup [.u (zcG (zd8 b m c).1), .u (.int .i64 (zd8 b m c).2)]) := by
 have h1 := ze9 b m c hl;unfold zd8;rw [hR] at h1;rw [hR, if_pos rfl];obtain ⟨hk, hr, hn1, hn2⟩ := zfy hR;have hn : 1 <= m /\ m <= 60 := ⟨hn1, hn2⟩;obtain ⟨hlast, _⟩ := zdd hr;obtain ⟨k, hkc⟩ : ∃ k, k = c.length := ⟨_, rfl⟩;rw [<- hkc] at hk ⊢;obtain ⟨L, hL⟩ := Int.eq_ofNat_of_zero_le (show 0 <= b.last by omega);have hE := zeH (x := 2 * ((k : Int) + 1)) (y := (L : Int)) (B := 1000) (C := 200) (by omega) (by omega) (by omega);have hE0 : 0 <= 2 * ((k : Int) + 1) * L := Int.mul_nonneg (by omega) (by omega);unfold zph;rw [if_pos (by rw [hkc]; exact h9)];rw [hL] at h9;simp only [zaF, ints, zcG, hL, List.cons_append, List.nil_append] at h1 ⊢;clear hR;by_cases h8 : 7 < k
 ·skip
  refine Fun.runW Tryz.func43 Tryz.ntmps43 rfl (by simp) fun Γ hn => ?_; simp only [zzE, zzC, zzD];subst hkc;have h7 : 7 < c.length := h8;have h7' : (7 : Int) < c.length := by omega
  repeat' (first
  | (refine CallP.f2 rfl (h1) (by first | simp <;> rfl | fail) ?_; simp (config := { maxSteps := 1000000 }) [h7, h7'])
  | (refine Cnd.of (fun hc => ?_) (fun hc => ?_) <;> (try (exfalso; omega)) <;> (try simp [h7, h7']))
  | (refine zaf rfl ?_; simp [h7, h7'])
  | (refine And.intro (by omega) ?_)
  | fail)
  refine EndW.norm (EndW.here ?_)
  (refine EndOK.val (.inr rfl) ?_; simp [Tryz.results43])
  all_goals simp
 have h7n : k <= 7 := by omega
 subst hkc;have h7 : ¬ 7 < c.length := h8;have h7' : ¬ (7 : Int) < c.length := by omega
 have h3 : 3000 <= 2 * ((c.length : Int) + 1) * L := by omega
 ·skip
  refine Fun.runW Tryz.func43 Tryz.ntmps43 rfl (by simp) fun Γ hn => ?_
  repeat' (first
  | (refine CallP.f2 rfl (h1) (by first | simp <;> rfl | fail) ?_; simp (config := { maxSteps := 1000000 }) [h7, h7', h3])
  | (refine Cnd.of (fun hc => ?_) (fun hc => ?_) <;> (try (exfalso; omega)) <;> (try simp [h7, h7', h3]))
  | (refine zaf rfl ?_; simp [h7, h7', h3])
  | (refine And.intro (by omega) ?_)
  | fail)
  refine EndW.norm (EndW.here ?_)
  (refine EndOK.val (.inr rfl) ?_; simp [Tryz.results43])
  all_goals simp
theorem zll {l : List Tok} (hl : TokOK l) {f p : Nat} {t : Tok} (ht : l[p]? = some t) (hk : ¬ t.kind = 2) (h1 : isB l p [116, 114, 117, 101] = false) (h2 : isB l p [102, 97, 108, 115, 101] = false)
  (h3 : isB l p [109, 105, 110] = false) (h4 : isB l p [109, 97, 120] = false) (h5 : isB l p [40] = false) {i nx : Nat} (hi : i < nx) :
  RetX Tryz.prog 145 [.ptr i 0] [(i, pOb l p)] nx (PPost l i nx ziN (zbG l (f + 1) p)) := by
 have hne := zbm hi;have hp := (List.getElem?_eq_some_iff.1 ht).1;have hnx := zdk l p t ht hl.len;have hll := hl.len;rw [zbG, ht];have hh1 := fun nx' (h : nx <= nx') => zb9 l p [116, 114, 117, 101] i nx' (by omega) hp hl.len;have hh2 := fun nx' (h : nx <= nx') => zb9 l p [102, 97, 108, 115, 101] i nx' (by omega) hp hl.len;have hm1 := zfq l p [109, 105, 110] hp hl.len;have hm2 := zfq l p [109, 97, 120] hp hl.len;have hh3 := fun nx' (h : nx <= nx') => zb9 l p [40] i nx' (by omega) hp hl.len;have hnm := zhY t.text;have hc1 := fun nx' (h : nx <= nx') => zf8 l p 12 i nx' (by omega);have hc2 := fun nx' (h : nx <= nx') => zeq l p t 12 i nx' (by omega) ht hl.len;simp only [hk, h1, h2, h3, h4, h5, if_false, if_true, Bool.false_eq_true, or_self] at hh1 hh2 hm1 hm2 hh3 ⊢;by_cases hw : t.kind = 1
 ·cases hb : zfc t.text with
  | true =>
   simp only [hb, hw, and_self, if_true] at hnm ⊢;refine RetX.runW Tryz.func145 Tryz.ntmps145 rfl (by simp) fun Γ hn hpan => ?_
   repeat' (first
  | (refine zaf rfl ?_; simp [hne, hk, hw, del, zzA])
  | (refine And.intro (by omega) ?_)
  | ((first | refine CallP.f2 rfl (hnx) (by first | simp [hne, hk, hw, del, zzA] <;> rfl | fail) ?_ | refine CallP.f2 rfl (hm1) (by first | simp [hne, hk, hw, del, zzA] <;> rfl | fail) ?_ | refine CallP.f2 rfl (hm2) (by first | simp [hne, hk, hw, del, zzA] <;> rfl | fail) ?_ | refine CallP.f2 rfl (hnm) (by first | simp [hne, hk, hw, del, zzA] <;> rfl | fail) ?_ | fail); simp [hne, hk, hw, del, zzA])
  | (refine CallP.ok1 (hh1 _ (by first | omega | (simp <;> omega) | fail)) (by first | (simp [hne, hk, hw, del, zzA, zaa, getK, zab, zac]; done) | fail) (by rfl) (by first | assumption | (simp; done) | fail) (by rfl) (by simp) ?_; (try simp [hne, hk, hw, del, zzA]))
  | (refine CallP.ok1 (hh2 _ (by first | omega | (simp <;> omega) | fail)) (by first | (simp [hne, hk, hw, del, zzA, zaa, getK, zab, zac]; done) | fail) (by rfl) (by first | assumption | (simp; done) | fail) (by rfl) (by simp) ?_; (try simp [hne, hk, hw, del, zzA]))
  | (refine CallP.ok1 (hh3 _ (by first | omega | (simp <;> omega) | fail)) (by first | (simp [hne, hk, hw, del, zzA, zaa, getK, zab, zac]; done) | fail) (by rfl) (by first | assumption | (simp; done) | fail) (by rfl) (by simp) ?_; (try simp [hne, hk, hw, del, zzA]))
  | (refine CallP.ok1 (hc1 _ (by first | omega | (simp <;> omega) | fail)) (by first | (simp [hne, hk, hw, del, zzA, zaa, getK, zab, zac]; done) | fail) (by rfl) (by first | assumption | (simp; done) | fail) (by rfl) (by simp) ?_; (try simp [hne, hk, hw, del, zzA]))
  | fail)
   refine EndW.norm ?_;simp [St.norm, za6, zbN, zb7, zce, hne]
   (refine EndW.z ([(i, pOb l (p + 1))]) (N := nx) Tryz.results145 (by simp [hne, hi] <;> omega) ?_; simp [hne, hi])
   exact PPost.zdw rfl (by simp [Exp.row]) rfl
  | false =>
   simp only [hb, hw, Bool.false_eq_true, and_false, if_false] at hnm ⊢;refine RetX.runW Tryz.func145 Tryz.ntmps145 rfl (by simp) fun Γ hn hpan => ?_
   repeat' (first
  | (refine zaf rfl ?_; simp [hne, hk, hw, del, zzA])
  | ((first | refine CallP.f2 rfl (hnx) (by first | simp [hne, hk, hw, del, zzA] <;> rfl | fail) ?_ | refine CallP.f2 rfl (hm1) (by first | simp [hne, hk, hw, del, zzA] <;> rfl | fail) ?_ | refine CallP.f2 rfl (hm2) (by first | simp [hne, hk, hw, del, zzA] <;> rfl | fail) ?_ | refine CallP.f2 rfl (hnm) (by first | simp [hne, hk, hw, del, zzA] <;> rfl | fail) ?_ | fail); simp [hne, hk, hw, del, zzA])
  | (refine CallP.ok1 (hh1 _ (by first | omega | (simp <;> omega) | fail)) (by first | (simp [hne, hk, hw, del, zzA, zaa, getK, zab, zac]; done) | fail) (by rfl) (by first | assumption | (simp; done) | fail) (by rfl) (by simp) ?_; (try simp [hne, hk, hw, del, zzA]))
  | (refine CallP.ok1 (hh2 _ (by first | omega | (simp <;> omega) | fail)) (by first | (simp [hne, hk, hw, del, zzA, zaa, getK, zab, zac]; done) | fail) (by rfl) (by first | assumption | (simp; done) | fail) (by rfl) (by simp) ?_; (try simp [hne, hk, hw, del, zzA]))
  | (refine CallP.ok1 (hh3 _ (by first | omega | (simp <;> omega) | fail)) (by first | (simp [hne, hk, hw, del, zzA, zaa, getK, zab, zac]; done) | fail) (by rfl) (by first | assumption | (simp; done) | fail) (by rfl) (by simp) ?_; (try simp [hne, hk, hw, del, zzA]))
  | (refine CallP.zgg (hc2 _ (by first | omega | (simp <;> omega) | fail)) (by first | (simp [hne, hk, hw, del, zzA, zaa, getK, zab, zac]; done) | fail) (by rfl) (by first | assumption | (simp; done) | fail) (by rfl) (by simp) ?_; rintro ob' ⟨q', rfl⟩; refine ⟨_, Wk.refl _, ?_⟩)
  | fail)
   (refine hpan _ _ (PanG.k ([(i, pOb l q')]) (nx) (by simp [hn, hi, hne, zab, zac, zaa, getK] <;> omega) ?_); try simp)
   exact PPost.zbe rfl
 ·simp only [hw, false_and, if_false];refine RetX.runW Tryz.func145 Tryz.ntmps145 rfl (by simp) fun Γ hn hpan => ?_
  repeat' (first
  | (refine zaf rfl ?_; simp [hne, hk, hw, del, zzA])
  | ((first | refine CallP.f2 rfl (hnx) (by first | simp [hne, hk, hw, del, zzA] <;> rfl | fail) ?_ | refine CallP.f2 rfl (hm1) (by first | simp [hne, hk, hw, del, zzA] <;> rfl | fail) ?_ | refine CallP.f2 rfl (hm2) (by first | simp [hne, hk, hw, del, zzA] <;> rfl | fail) ?_ | refine CallP.f2 rfl (hnm) (by first | simp [hne, hk, hw, del, zzA] <;> rfl | fail) ?_ | fail); simp [hne, hk, hw, del, zzA])
  | (refine CallP.ok1 (hh1 _ (by first | omega | (simp <;> omega) | fail)) (by first | (simp [hne, hk, hw, del, zzA, zaa, getK, zab, zac]; done) | fail) (by rfl) (by first | assumption | (simp; done) | fail) (by rfl) (by simp) ?_; (try simp [hne, hk, hw, del, zzA]))
  | (refine CallP.ok1 (hh2 _ (by first | omega | (simp <;> omega) | fail)) (by first | (simp [hne, hk, hw, del, zzA, zaa, getK, zab, zac]; done) | fail) (by rfl) (by first | assumption | (simp; done) | fail) (by rfl) (by simp) ?_; (try simp [hne, hk, hw, del, zzA]))
  | (refine CallP.ok1 (hh3 _ (by first | omega | (simp <;> omega) | fail)) (by first | (simp [hne, hk, hw, del, zzA, zaa, getK, zab, zac]; done) | fail) (by rfl) (by first | assumption | (simp; done) | fail) (by rfl) (by simp) ?_; (try simp [hne, hk, hw, del, zzA]))
  | (refine CallP.zgg (hc2 _ (by first | omega | (simp <;> omega) | fail)) (by first | (simp [hne, hk, hw, del, zzA, zaa, getK, zab, zac]; done) | fail) (by rfl) (by first | assumption | (simp; done) | fail) (by rfl) (by simp) ?_; rintro ob' ⟨q', rfl⟩; refine ⟨_, Wk.refl _, ?_⟩)
  | fail)
  (refine hpan _ _ (PanG.k ([(i, pOb l q')]) (nx) (by simp [hn, hi, hne, zab, zac, zaa, getK] <;> omega) ?_); try simp)
  exact PPost.zbe rfl
theorem znY {l : List Tok} {p : Nat} {w : List UInt8} {t : Tok} (ht : l[p]? = some t) (h : isB l p w = true) : t.text = w := by
 unfold isB at h;rw [ht] at h;simp only [Bool.and_eq_true, decide_eq_true_eq] at h;exact h.2
theorem zlk {l : List Tok} (hl : TokOK l) {f : Nat} (hE : zhS l f) : zj5 l (f + 1) := by
 intro p i nx hi hp hf;obtain ⟨t, ht⟩ : ∃ t, l[p]? = some t := ⟨_, List.getElem?_eq_getElem hp⟩;by_cases hk : t.kind = 2
 ·exact zmK hl ht hk hi
 cases h1 : isB l p [116, 114, 117, 101] with
 | true => exact zlj hl ht hk h1 hi
 | false =>
 cases h2 : isB l p [102, 97, 108, 115, 101] with
 | true => exact zkj hl ht hk h1 h2 hi
 | false =>
 cases h3 : isB l p [109, 105, 110] with
 | true =>
  cases h4 : isB l p [109, 97, 120] with
  | true => exact absurd ((znY ht h3).symm.trans (znY ht h4)) (by decide)
  | false => exact zmL hl hE (by omega) ht hk h1 h2 h3 h4 hi
 | false =>
 cases h4 : isB l p [109, 97, 120] with
 | true => exact zmM hl hE (by omega) ht hk h1 h2 h3 h4 hi
 | false =>
 cases h5 : isB l p [40] with
 | true => exact zki hl hE (by omega) ht hk h1 h2 h3 h4 h5 hi
 | false => exact zll hl ht hk h1 h2 h3 h4 h5 hi
end Go.Proofs.YtmlpcgkaonifcaaGreatDoor
namespace Go.Proofs.YtmlpcgkaonifcaaGreatDoor
open Go Go.VL
def zmp (j : Nat) (l : List Nd) : List Int := List.replicate j 0 ++ (svs j (l.drop j)).map (·.1)
def zov (j : Nat) (l : List Nd) : List Int := List.replicate j (-1) ++ (svs j (l.drop j)).map (·.2)
theorem znA {j : Nat} {l : List Nd} (h : j <= l.length) : (zmp j l).length = l.length := by simp [zmp, zib]; omega
theorem znB {j : Nat} {l : List Nd} (h : j <= l.length) : (zov j l).length = l.length := by simp [zov, zib]; omega
theorem zsO (l : List Nd) : zmp l.length l = List.replicate l.length 0 := by simp [zmp, svs]
theorem zsP (l : List Nd) : zov l.length l = List.replicate l.length (-1) := by simp [zov, svs]
theorem zqh (l : List Nd) : zmp 0 l = zgm l := by simp [zmp, zgm]
theorem zqi (l : List Nd) : zov 0 l = zgi l := by simp [zov, zgi]
def fI (i : Nat) (l : List Nd) (t : Int) : Int := ((svs (i + 1) (l.drop (i + 1))).getD (t.toNat - (i + 1)) (0, -1)).1
def vaI (i : Nat) (v : Int) (l : List Nd) : List Int := (zmp (i + 1) l).set i v
def maI (i : Nat) (c : Int) (l : List Nd) : List Int := (zov (i + 1) l).set i c
def zhR (x : Nd) (f : Int -> Int) (k : Nat) : Int × Int × Nat := (x.moves.take k).foldl (zmb x.mine f) (0, -1, 0)
theorem zj0 {x : Nd} {k : Nat} {m : Mv} (h : x.moves[k]? = some m) (f : Int -> Int) : zhR x f (k + 1) = zmb x.mine f (zhR x f k) m := by
 unfold zhR;rw [List.take_add_one, h];simp
theorem zmc (x : Nd) (f : Int -> Int) : ∀ k, k <= x.moves.length -> (zhR x f k).2.2 = k
 | 0, _ => rfl
 | k + 1, h => by
  rw [zj0 (List.getElem?_eq_getElem (by omega)), zmb];have := zmc x f k (by omega);split <;> simp [this]
theorem zuO {i : Nat} {v : Int} {l : List Nd} (h : i < l.length) : (vaI i v l).length = l.length := by rw [vaI, List.length_set, znA h]
theorem zu8 {i : Nat} {v : Int} {l : List Nd} (h : i < l.length) : (maI i v l).length = l.length := by rw [maI, List.length_set, znB h]
theorem zuN (i : Nat) (v w : Int) (l : List Nd) : (vaI i v l).set i w = vaI i w l := by simp [vaI]
theorem zu7 (i : Nat) (v w : Int) (l : List Nd) : (maI i v l).set i w = maI i w l := by simp [maI]
theorem zsF (i : Nat) (v : Int) (l : List Nd) (h : i < (vaI i v l).length) : (vaI i v l)[i] = v := by simp [vaI]
theorem zuP {i T : Nat} {v : Int} {l : List Nd} (h1 : i < T) (h : T < (vaI i v l).length) : (vaI i v l)[T] = fI i l T := by
 have h2 : T < (zmp (i + 1) l).length := by simpa [vaI] using h
 simp only [vaI, List.getElem_set_ne (show i ≠ T by omega)];apply Option.some.inj;rw [<- List.getElem?_eq_getElem h2, fI, List.getD_eq_getElem?_getD];have h3 : T - (i + 1) < (svs (i + 1) (l.drop (i + 1))).length := by simp [zmp] at h2; omega
 simp only [zmp];rw [List.getElem?_append_right (by simp; omega), List.length_replicate, List.getElem?_map, Int.toNat_natCast, List.getElem?_eq_getElem h3];rfl
theorem zkf {α : Type} (i : Nat) (a v : α) (r : List α) : (List.replicate (i + 1) a ++ r).set i v = List.replicate i a ++ v :: r := by
 simp [List.replicate_succ', List.set_append]
theorem zsE (i : Nat) (l : List Nd) : vaI i 0 l = zmp (i + 1) l := by
 rw [vaI, zmp, zkf, List.replicate_succ', List.append_assoc];rfl
theorem zs4 (i : Nat) (l : List Nd) : maI i (-1) l = zov (i + 1) l := by
 rw [maI, zov, zkf, List.replicate_succ', List.append_assoc];rfl
theorem zrF {l : List Nd} {i : Nat} {x : Nd} (h : l[i]? = some x) : l.drop i = x :: l.drop (i + 1) := by
 obtain ⟨h1, h2⟩ := List.getElem?_eq_some_iff.1 h;rw [List.drop_eq_getElem_cons h1, h2]
theorem zuQ {l : List Nd} {i : Nat} {x : Nd} (h : l[i]? = some x) : vaI i (zhR x (fI i l) x.moves.length).1 l = zmp i l := by
 rw [vaI, zmp, zkf, zmp, zrF h, svs, zhR, List.take_length];rfl
theorem zu9 {l : List Nd} {i : Nat} {x : Nd} (h : l[i]? = some x) : maI i (zhR x (fI i l) x.moves.length).2.1 l = zov i l := by
 rw [maI, zov, zkf, zov, zrF h, svs, zhR, List.take_length];rfl
theorem zxM {l : List Nd} (hg : zfr l = true) (i : Nat) (t : Int) : -4503599627370496 <= fI i l t /\ fI i l t <= 4503599627370496 := by
 obtain ⟨_, h3, hn⟩ := (zdJ l).1 hg;have h := zqc (l.drop (i + 1)) (i + 1) (fun x hx m hm => by
  obtain ⟨j, hj⟩ := List.getElem?_of_mem (List.mem_of_mem_drop hx);have h5 := hn j x hj;unfold znM at h5;have h6 := List.all_eq_true.1 (Bool.and_eq_true_iff.1 h5).2 m hm;unfold zmr at h6;simp at h6;omega)
 have hl : ((l.drop (i + 1)).length : Int) <= 3000 := by simp; omega
 rw [fI, List.getD_eq_getElem?_getD];cases hq : (svs (i + 1) (l.drop (i + 1)))[t.toNat - (i + 1)]? with
 | none => simp
 | some q =>
  have := h q (List.mem_of_getElem? hq);simp only [Option.getD_some];omega
end Go.Proofs.YtmlpcgkaonifcaaGreatDoor
namespace Go.Proofs.YtmlpcgkaonifcaaGreatDoor
open Go Go.VL
open Df (Con)
attribute [local simp] zbu zcZ zcp evPure opd uOf zaA St.put St.at getK binD binI binS binB nilD aggD zfv zf5 lookD lookR zcm rangeS Go.VL.nextD Go.VL.nextS zco zge zgb zfp zcv mkV zbf zaS zaR zaQ zcX zaO za8 zbt mapEff zdD ze5 Key.kk shiftI arith unD convD zdq loadD cellsAt fieldAddrD fieldD indexAddrD indexSlD arrAddr indexD sliceD cutD lenD minmaxD nilCheckD buildD fillD zbY zc2 zev setAll zcT zd9 zci zfs zch St.add zaw zbz rowsOf zdf zcx zad zac zaa zbx zc8 zaZ entry zbM zbQ valD zcl zcw zft zdb zdc zb0 zbK zal zaW zbh delAll effD St.effS zcE zaT zaG zcF zaU zaI zbV zaH zaz zbW zcC zbs zbU za5 zbS zbT zar mkD zcj zbD zbI zal zcr D.ids Op.operands Call.operands zbF makeIfD makeFuncD typeAssertD zf4 zdi zdj zfR zcn IntKind.bits zct zay List.take_of_length_le List.range_succ zcN zcc zcO zcI zbB zb1 zb3 zcJ zb5 zbc zb4 zb2 zg4 zcb zcL zaX zaK zcM zaY zaM zca zaL zaD zcR zcS zgB zab frzN frz1 zav zau St.frz St.frzS frzS fv za2 zbn zbo frzObS zat zan frz zbL zbk zbl zbN zb7 zce za6 St.norm St.lp St.only zax wkE wkO wkU Ob.under D.under zaj zak zcP zcd zcQ h4s zd1 zaC zbC List.zipIdx_cons List.zipIdx_nil zzC zzD Nat.zero_add
attribute [local irreducible] V G H HD HD2 zbg Eff CallP CallV EndOK Fun Ret FinOK LoopI LoopW EndW HR vs2 RN Cnd H4
theorem zni (b : By) : Fun Tryz.prog 10 [.u (.agg (zaF b))] (· = .u (Df.consU (zkK b))) := by
 have hri := ze8 b;unfold zkK Df.consU;cases hb : zc1 b with
 | false =>
  rw [hb] at hri;rw [if_neg (by simp)];unfold zaF at hri ⊢;refine Fun.runW Tryz.func10 Tryz.ntmps10 rfl (by simp) fun Γ hn => ?_
  repeat' (first
  | (refine zaf rfl ?_; simp)
  | (refine CallP.f2 rfl (hri) (by first | simp <;> rfl | fail) ?_; simp)
  | fail)
  refine EndW.norm (EndW.here ?_)
  (refine EndOK.val (.inr rfl) ?_; simp [Tryz.results10])
 | true =>
  obtain ⟨_, h1, _, _, h2, h3⟩ := zdd hb;rw [hb] at hri;rw [if_pos rfl];clear hb;unfold zaF at hri ⊢;refine Fun.runW Tryz.func10 Tryz.ntmps10 rfl (by simp) fun Γ hn => ?_
  repeat' (first
  | (refine zaf rfl ?_; simp)
  | (refine And.intro (by omega) ?_)
  | (refine CallP.f2 rfl (hri) (by first | simp <;> rfl | fail) ?_; simp)
  | fail)
  (refine EndW.frzN 1 ?_; simp [del])
  refine EndW.norm (EndW.here ?_)
  (refine EndOK.val (.inr rfl) ?_; simp [Tryz.results10])
end Go.Proofs.YtmlpcgkaonifcaaGreatDoor
namespace Go.Proofs.YtmlpcgkaonifcaaGreatDoor
open Go Go.VL
attribute [local simp] zbu zcZ zcp evPure opd uOf zaA St.put St.at getK binD binI binS binB nilD aggD zfv zf5 lookD lookR zcm rangeS Go.VL.nextD Go.VL.nextS zco zge zgb zfp zcv mkV zbf zaS zaR zaQ zcX zaO za8 zbt mapEff zdD ze5 Key.kk shiftI arith unD convD zdq loadD cellsAt fieldAddrD fieldD indexAddrD indexSlD arrAddr indexD sliceD cutD lenD minmaxD nilCheckD buildD fillD zbY zc2 zev setAll zcT zd9 zci zfs zch St.add zaw zbz rowsOf zdf zcx zad zac zaa zbx zc8 zaZ entry zbM zbQ valD zcl zcw zft zdb zdc zb0 zbK zal zaW zbh delAll effD St.effS zcE zaT zaG zcF zaU zaI zbV zaH zaz zbW zcC zbs zbU za5 zbS zbT zar mkD zcj zbD zbI zal zcr D.ids Op.operands Call.operands zbF makeIfD makeFuncD typeAssertD zf4 zdi zdj zfR zcn IntKind.bits zct zay List.take_of_length_le List.range_succ zcN zcc zcO zcI zbB zb1 zb3 zcJ zb5 zbc zb4 zb2 zg4 zcb zcL zaX zaK zcM zaY zaM zca zaL zaD zcR zcS zgB zab frzN frz1 zav zau St.frz St.frzS frzS fv za2 zbn zbo frzObS zat zan frz zbL zbk zbl zbN zb7 zce za6 St.norm St.lp St.only zax wkE wkO wkU Ob.under D.under zaj zak zcP zcd zcQ h4s zd1 zaC zbC List.zipIdx_cons List.zipIdx_nil zzC zzD Nat.zero_add
attribute [local irreducible] V G H HD HD2 zbg Eff CallP CallV EndOK Fun Ret FinOK LoopI LoopW EndW HR vs2 RN Cnd H4
theorem zq2 (s : List UInt8) : Fun Tryz.prog 83 [.u (.str s)] (· = zjP (zpL s)) := by
 unfold zpL;by_cases hlong : 2000 < s.length
 ·have hlong2 : 2000 < (s.length : Int) := by omega
  rw [if_pos hlong];refine Fun.runW Tryz.func83 Tryz.ntmps83 rfl (by simp) fun Γ hn => ?_
  repeat' (first
  | (refine zaf rfl ?_; simp [hlong, hlong2])
  | fail)
  refine EndW.norm (EndW.here ?_)
  (refine EndOK.val (.inr rfl) ?_; simp [Tryz.results83])
  simp [zjP]
 rw [if_neg hlong];have hlong2 : ¬ 2000 < (s.length : Int) := by omega
 obtain ⟨R, hR⟩ : ∃ R, R = zq4 (s.length + 1) s 0 := ⟨_, rfl⟩;rw [<- hR];refine Fun.runW Tryz.func83 Tryz.ntmps83 rfl (by simp) fun Γ hn => ?_
 repeat' (first
  | (refine zaf rfl ?_; simp [hlong, hlong2])
  | fail)
 refine zmt _ (Wk.own 5 156 4 (by decide) rfl) ?_;simp [St.own];refine zbZ (α := { x : List Tok × Nat × Nat // x.2.1 <= s.length /\ s.length < x.2.1 + x.2.2 /\ x.1.length <= x.2.1 /\ R = zoF x.1 (zq4 x.2.2 s x.2.1) }) [0] (fun x => [(5, .vec 0 x.1.1.length), (6, .u (.int .i64 x.1.2.1))]) (fun x => [(0, .vec 156 4 (zk3 x.1.1))]) 1 (fun x => x.1.2.2) ⟨([], 0, s.length + 1), by simp, by simp, by simp, by rw [zqq, hR]⟩ ?_ ?_
 ·exact (Wk.zdz (by simp [hn, zk3] <;> grind))
 rintro ⟨⟨acc, p, f⟩, h1, h2, h3, h4⟩;simp only at h1 h2 h3 h4;simp;obtain ⟨f', rfl⟩ : ∃ f', f = f' + 1 := ⟨f - 1, by omega⟩;rw [zq4] at h4;have hsp := zgH (s.drop p) (by rw [List.length_drop]; omega) 113 zc4 (fun c _ => zr3 c) (by simp);have hle := zez zc4 (s.drop p);rw [List.length_drop] at hle;obtain ⟨b, hb⟩ : ∃ b, b = zdu zc4 (s.drop p) := ⟨_, rfl⟩;rw [<- hb] at hsp hle h4;have hp1 : (p : Int) <= s.length := by omega
 have hpb : (p : Int) + b <= s.length := by omega
 rcases hd : s.drop (p + b) with _ | ⟨c, r⟩
 ·have hdl : (s.drop (p + b)).length = 0 := by rw [hd]; rfl
  rw [List.length_drop] at hdl;have hpe : p + b = s.length := by omega
  have hpe2 : (p : Int) + b = s.length := by omega
  rw [hd] at h4;simp only at h4;have hap : zk3 acc ++ [[D.u (.int .i64 0), D.u (.str []), D.u (.int .i64 0), D.u (.int .i64 (s.length : Int))]] = zk3 (acc ++ [⟨0, [], 0, s.length⟩]) := by simp [zk3]
  have hlr : zkR 4 (zk3 acc) := fun r hr => by obtain ⟨t, _, rfl⟩ := List.mem_map.1 hr; rfl
  rw [hpe] at h4
  repeat' (first
  | (refine zaf rfl ?_; simp [h1, hp1, hpe2, zeb, hap, hlr])
  | (refine And.intro (by omega) ?_)
  | (refine CallP.f2 rfl (hsp) (by first | simp [h1, hp1, hpe2, zeb, hap, hlr] <;> rfl | fail) ?_; simp [h1, hp1, hpe2, zeb, hap, hlr])
  | fail)
  (refine EndW.frzN 3 ?_; simp [del, zny, zeb, List.length_append])
  refine EndW.norm (EndW.here ?_)
  (refine EndOK.val (.inr rfl) ?_; simp [Tryz.results83, zny, zeb, List.length_append])
  rw [h4];simp [zoF, zjP]
 ·have hdl : (s.drop (p + b)).length = r.length + 1 := by rw [hd]; rfl
  rw [List.length_drop] at hdl;have hpe : ¬ p + b = s.length := by omega
  have hpe2 : ¬ (p : Int) + b = s.length := by omega
  have hnx := zs0 (s.drop (p + b)) (by rw [hd]; simp) (by rw [List.length_drop]; omega);unfold nextD at hnx;rw [hd] at h4;simp only at h4;rw [hd] at hnx;have hpb2 : ((p : Int) + b).toNat = p + b := by omega
  have hpb3 : p + b <= s.length := by omega
  cases hno : zjb (c :: r) with
  | error e =>
   rw [hno] at h4 hnx;have he : e ≠ 0 := by
    unfold zjb at hno;simp only at hno;split at hno
    ·split at hno <;> cases hno;omega
    ·split at hno
     ·split at hno <;> cases hno;omega
     ·split at hno <;> cases hno;omega
   repeat' (first
  | (refine zaf rfl ?_; simp [h1, hp1, hpe, hpe2, hd, he, hpb, hpb2, hpb3])
  | (refine And.intro (by omega) ?_)
  | ((first | refine CallP.f2 rfl (hsp) (by first | simp [h1, hp1, hpe, hpe2, hd, he, hpb, hpb2, hpb3] <;> rfl | fail) ?_ | refine CallP.f2 rfl (hnx) (by first | simp [h1, hp1, hpe, hpe2, hd, he, hpb, hpb2, hpb3] <;> rfl | fail) ?_ | fail); simp [h1, hp1, hpe, hpe2, hd, he, hpb, hpb2, hpb3])
  | fail)
   refine EndW.norm (EndW.here ?_)
   (refine EndOK.val (.inr rfl) ?_; simp [Tryz.results83])
   rw [h4];simp [zoF, zjP]
  | ok t =>
   rw [hno] at h4 hnx;obtain ⟨ht1, ht2⟩ := zhl hno;simp only [List.length_cons] at ht2;have hap : zk3 acc ++ [[D.u (.int .i64 t.kind), D.u (.str t.text), D.u (.int .i64 t.n), D.u (.int .i64 ((p : Int) + b))]] = zk3 (acc ++ [{ t with pos := ((p + b : Nat) : Int) }]) := by simp [zk3]
   have hlr : zkR 4 (zk3 acc) := fun r hr => by obtain ⟨t, _, rfl⟩ := List.mem_map.1 hr; rfl
   repeat' (first
  | (refine zaf rfl ?_; simp [h1, hp1, hpe, hpe2, hd, hpb, hpb2, hpb3, zeb, hap, hlr])
  | (refine And.intro (by omega) ?_)
  | ((first | refine CallP.f2 rfl (hsp) (by first | simp [h1, hp1, hpe, hpe2, hd, hpb, hpb2, hpb3, zeb, hap, hlr] <;> rfl | fail) ?_ | refine CallP.f2 rfl (hnx) (by first | simp [h1, hp1, hpe, hpe2, hd, hpb, hpb2, hpb3, zeb, hap, hlr] <;> rfl | fail) ?_ | fail); simp [h1, hp1, hpe, hpe2, hd, hpb, hpb2, hpb3, zeb, hap, hlr])
  | fail)
   refine LoopW.next ⟨(acc ++ [{ t with pos := ((p + b : Nat) : Int) }], p + b + t.text.length, f'), by simp; omega, by simp; omega, by simp; omega, ?_⟩ (by simp) ?_
   ·rw [h4];simp only;cases zq4 f' s (p + b + t.text.length) <;> simp [zoF]
   ·skip
    exact (Wk.ren ((fun i => if i = 0 then 3 else i)) rfl (by first | (simp [hn]; done) | (intro i hi; rw [hn] at hi; constructor <;> (try simp) <;> (try (intro _)) <;> omega)) (by simp [zi6, St.lp, zax, zaa, getK, zac, zad, D.under, D.le, D.ren, zij, zhb] <;> (try (intros; simp_all; done)) <;> (try omega)) (by simp [wkR, St.lp, zaa, getK, zac, zad, obR, leU, zcu, za7, Ob.under, D.under, D.le, D.ren, zij, zhb] <;> (try (intros; simp_all; done)) <;> (try omega)) (by simp [zij, zhb]))
abbrev zw0 (o : Opr) : D := .u (.agg [.str o.text, .int .i64 o.op, .int .i64 o.form])
abbrev zqC (l : List Opr) : U := .sl (l.map fun o => [.str o.text, .int .i64 o.op, .int .i64 o.form])
theorem zkk : Fun Tryz.prog 138 [] (· = .u (zqC oprs)) := by
 unfold zqC oprs;refine Fun.runW Tryz.func138 Tryz.ntmps138 rfl (by simp) fun Γ hn => ?_
 repeat' (first
  | (refine zaf rfl ?_; simp [zbQ, zbM])
  | fail)
 (refine EndW.frzN 1 ?_; simp [del])
 refine EndW.here ?_
 (refine EndOK.val (.inr rfl) ?_; simp [Tryz.results138])
theorem ztA (l : List Tok) (q : Nat) (o : Opr) (hq : q < l.length) (hl : l.length <= 1000000) : Fun Tryz.prog 139 (zw0 o :: [U.row [zuo l q] 0].map .u) (· = .u (.bool (isB l q o.text))) := by
 have h1 := zfq l q o.text hq hl;simp only [zzC, zzD, zw0];refine Fun.run Tryz.func139 Tryz.ntmps139 Tryz.results139 rfl (by simp) fun Γ hn => ?_
 repeat' (first
  | (refine zaf rfl ?_; simp)
  | (refine CallP.f2 rfl (h1) (by first | simp <;> rfl | fail) ?_; simp)
  | fail)
 (refine Pst.of ?_; simp)
theorem zo6 (l : List (Opr)) (f : FuncId) (caps : List U) (p : Opr -> Bool) (hf : ∀ n ∈ l, Fun Tryz.prog f (zw0 n :: caps.map .u) (· = .u (.bool (p n)))) (hcl : zae Tryz.prog f = true)
  (hca : ∀ o, zcw o (caps.map .u) = some (caps.map .u, [])) : Fun Tryz.prog 137 [.u (zqC l), .fnc (.func f) (caps.map .u)] (· = .u (.int .i64 (zfX p l 0))) := by
 refine Fun.run Tryz.func137 Tryz.ntmps137 Tryz.results137 rfl (by simp) fun Γ hn => ?_; simp only [zzE, zzC, zzD];simp only [zqC];refine zg3 (x := 0) rfl fun hl => ?_;simp at hl
 repeat' (first
  | (refine zaf rfl ?_; simp)
  | fail)
 refine zc7 (α := { i : Nat // i <= l.length /\ ∀ c ∈ l.take i, p c = false }) [0, 1, 7] (fun i => [(8, .u (.int .i64 i.1))]) (fun i => l.length - i.1) ⟨0, by omega, by simp⟩ ?_ ?_
 ·exact (Wk.env rfl rfl rfl (by simp [wkE, St.lp, zax, zaa, getK] <;> (try (intros; simp_all; done)) <;> (try (intros; omega)) <;> (try grind)))
 rintro ⟨i, hi, hb⟩;simp;rcases hx : l[i]? with _ | n
 ·have hge : l.length <= i := by simpa using hx
  repeat' (first
  | (refine Cnd.of (fun hc => ?_) (fun hc => ?_) <;> (try (exfalso; omega)) <;> (try simp [hx]))
  | (refine zaf rfl ?_; simp [hx])
  | fail)
  (refine Pst.of ?_; simp)
  rw [List.take_of_length_le hge] at hb;exact (zd5 hb).symm
 ·have hlt : i < l.length := (List.getElem?_eq_some_iff.1 hx).1;have h1 := hf n (List.mem_of_getElem? hx);simp only [zw0] at h1;cases hp : p n
  ·rw [hp] at h1
   repeat' (first
  | (refine Cnd.of (fun hc => ?_) (fun hc => ?_) <;> (try (exfalso; omega)) <;> (try simp [hx, hca]))
  | (refine zaf rfl ?_; simp [hx, hca])
  | (refine And.intro (by omega) ?_)
  | (refine CallP.f2 rfl (h1) (by first | simp [hx, hca] <;> rfl | fail) ?_; simp [hx, hca])
  | fail)
   refine LoopW.next ⟨i + 1, by omega, zbd hx hb hp⟩ (by simp; omega) ?_
   exact (Wk.env rfl rfl rfl (by simp [wkE, St.lp, zax, zaa, getK] <;> (try (intros; simp_all; done)) <;> (try (intros; omega)) <;> (try grind)))
  ·rw [hp] at h1
   repeat' (first
  | (refine Cnd.of (fun hc => ?_) (fun hc => ?_) <;> (try (exfalso; omega)) <;> (try simp [hx, hca]))
  | (refine zaf rfl ?_; simp [hx, hca])
  | (refine And.intro (by omega) ?_)
  | (refine CallP.f2 rfl (h1) (by first | simp [hx, hca] <;> rfl | fail) ?_; simp [hx, hca])
  | fail)
   (refine Pst.of ?_; simp)
   rw [zfH hb hx hp];omega
theorem ziG {p : Opr -> Bool} : ∀ (L : List Opr) (k : Int), (L.find? p = none -> zfX p L k = -1) /\ ∀ x, L.find? p = some x -> ∃ j : Nat, L[j]? = some x /\ zfX p L k = k + j
 | [], k => ⟨fun _ => rfl, fun x h => by simp at h⟩
 | a :: L, k => by
  by_cases h : p a = true
  ·refine ⟨fun h1 => by simp [h] at h1, fun x h1 => ?_⟩;rw [List.find?_cons, h] at h1;cases h1;exact ⟨0, rfl, by rw [zfX, if_pos h]; simp⟩
  ·have h' : p a = false := by simpa using h
   obtain ⟨h1, h2⟩ := ziG L (k + 1);refine ⟨fun h3 => ?_, fun x h3 => ?_⟩
   ·rw [List.find?_cons, h'] at h3;rw [zfX, if_neg h];exact h1 h3
   ·rw [List.find?_cons, h'] at h3;obtain ⟨j, h4, h5⟩ := h2 x h3;exact ⟨j + 1, h4, by rw [zfX, if_neg h, h5]; omega⟩
theorem zo5 (l : List Tok) (q : Nat) (hq : q < l.length) (hl : l.length <= 1000000) : Fun Tryz.prog 137 [.u (zqC oprs), .fnc (.func 139) [.u (.row [zuo l q] 0)]]
  (· = .u (.int .i64 (zfX (fun o => isB l q o.text) oprs 0))) :=
 zo6 oprs 139 [U.row [zuo l q] 0] (fun o => isB l q o.text) (fun o _ => ztA l q o hq hl) rfl (fun o => rfl)
end Go.Proofs.YtmlpcgkaonifcaaGreatDoor
namespace Go.Proofs.YtmlpcgkaonifcaaGreatDoor
open Go Go.VL
attribute [local simp] HS zbu zcZ zcp evPure opd uOf zaA St.put St.at getK binD binI binS binB nilD aggD zfv zf5 lookD lookR zcm rangeS Go.VL.nextD Go.VL.nextS zco zge zgb zfp zcv mkV zbf zaS zaR zaQ zcX zaO za8 zbt mapEff zdD ze5 Key.kk shiftI arith unD convD zdq loadD cellsAt fieldAddrD fieldD indexAddrD indexSlD arrAddr indexD sliceD cutD lenD minmaxD nilCheckD buildD fillD zbY zc2 zev setAll zcT zd9 zci zfs zch St.add zaw zbz rowsOf zdf zcx zad zac zaa zbx zc8 zaZ entry zbM zbQ valD zcl zcw zft zdb zdc zb0 zbK zal zaW zbh delAll effD St.effS zcE zaT zaG zcF zaU zaI zbV zaH zaz zbW zcC zbs zbU za5 zbS zbT zar mkD zcj zbD zbI zal zcr D.ids Op.operands Call.operands zbF makeIfD makeFuncD typeAssertD zf4 zdi zdj zfR zcn IntKind.bits zct zay List.take_of_length_le List.range_succ zcN zcc zcO zcI zbB zb1 zb3 zcJ zb5 zbc zb4 zb2 zg4 zcb zcL zaX zaK zcM zaY zaM zca zaL zaD zcR zcS zgB zab frzN frz1 zav zau St.frz St.frzS frzS fv za2 zbn zbo frzObS zat zan frz zbL zbk zbl zbN zb7 zce za6 St.norm St.lp St.only zax wkE wkO wkU Ob.under D.under zaj zak zcP zcd zcQ h4s zd1 zaC zbC List.zipIdx_cons List.zipIdx_nil zzC zzD Nat.zero_add
attribute [local irreducible] V G H HD HD2 HD4 zg6 RetX zbg Eff CallP CallV EndOK Fun Ret FinOK LoopI LoopW EndW HR vs2 RN Cnd H4
open Df in
theorem zqe (l : List Nd) (hg : zfr l = true) : RetX Tryz.prog 45 [.u (zcG l)] [] 1 fun r o n => r = .val (.tup [.vec 1 l.length, .vec 3 l.length]) /\ o = [(1, .vec 3 1 (intR (zgm l))), (3, .vec 3 1 (intR (zgi l)))] /\ n = 4 := by
 obtain ⟨hl0, hl3, hnd⟩ := (zdJ l).1 hg;simp only [zcG];refine RetX.runW Tryz.func45 Tryz.ntmps45 rfl (by simp) fun Γ hn hpan => ?_; simp only [zzE, zzC, zzD];have k0 : intR [-1] = [[D.u (.int .i64 (-1))]] := rfl
 repeat' (first
  | (refine zml [(2, .vec 3 1 (intR [-1]))] ⟨[], some (.vec 3 1 (intR (List.replicate l.length (-1)))), .vec l.length⟩ (.vec 3 1 (intR (List.replicate l.length (-1)))) (fun nx' h' => znE 2 nx' l.length (-1) (by omega)) ⟨rfl, rfl⟩ (by rfl) (by first | assumption | (simp; done) | fail) (by rfl) (by first | (simp [k0, zai, zaa, getK, zab, zac, zad, zar, del]; done) | fail) (by first | (simp [k0, zai, D.under, Ob.under, zaj]; done) | fail) (by simp) ?_; (try simp [k0, zai]))
  | (refine zaf rfl ?_; simp [k0, zai])
  | (refine And.intro (by omega) ?_)
  | (refine ⟨hC _ (by kernel_rfl), hk _ (zdG 8 _ _ _ ?_)⟩; clear hC hk C k; simp [k0, zai])
  | (refine zdv rfl (by kernel_rfl) (by first | (simp [hn] <;> omega) | fail) fun C k hC hk => ?_; simp [k0, zai])
  | (refine zcB rfl ?_; simp [k0, zai])
  | fail)
 refine zbZ (α := { j : Nat // j <= l.length }) [0, 4, 5] (fun j => [(6, .u (.int .i64 ((j.1 : Int) - 1)))]) (fun j => [(1, .vec 3 1 (intR (zmp j.1 l))), (3, .vec 3 1 (intR (zov j.1 l)))]) 4 (fun j => j.1) ⟨l.length, Nat.le_refl _⟩ ?_ ?_
 ·have q1 := zsO l;have q2 := zsP l;have q3 := zku l.length 0;exact (Wk.zdz (by simp [hn, zam, zai, q1, q2, q3] <;> grind))
 rintro ⟨j, hj⟩;simp;rcases j with _ | i
 ·have q1 := zqh l;have q2 := zqi l;have q3 := znA (Nat.zero_le l.length);have q4 := znB (Nat.zero_le l.length)
  repeat' (first
  | (refine zaf rfl ?_; simp)
  | fail)
  (refine EndW.h Tryz.results45 ?_; simp)
  all_goals simp [q1, q2, q3, q4, zag]
 have hi : i < l.length := by omega
 obtain ⟨x, hx⟩ : ∃ x, l[i]? = some x := ⟨_, List.getElem?_eq_getElem hi⟩;have hok := hnd i x hx;obtain ⟨h8, hmv⟩ : x.moves.length <= 8 /\ ∀ m ∈ x.moves, zmr i l.length m = true := by unfold znM at hok; simpa using hok
 have e1 : (((i + 1 : Nat) : Int)) - 1 = i := by omega
 have f1 := zsE i l;have f2 := zs4 i l;have f3 := zuQ hx;have f4 := zu9 hx;have f5 := zmc x (fI i l);have f6 := zxM hg i;have f7 := fun (m : Mv) k (h : x.moves[k]? = some m) => zj0 h (fI i l);have f0 : zhR x (fI i l) 0 = (0, -1, 0) := rfl
 repeat' (first
  | (refine zaf rfl ?_; simp [hx, e1])
  | fail)
 refine zbZ (α := { k : Nat // k <= x.moves.length }) [0, 4, 5, 6, 28, 29] (fun k => [(30, .u (.int .i64 k.1))]) (fun k => [(1, .vec 3 1 (intR (vaI i (zhR x (fI i l) k.1).1 l))), (3, .vec 3 1 (intR (maI i (zhR x (fI i l) k.1).2.1 l)))]) 4 (fun k => x.moves.length - k.1) ⟨0, by omega⟩ ?_ ?_
 ·exact (Wk.zdz (by simp [hn, zam, zai, f0, f1, f2] <;> grind))
 rintro ⟨k, hk⟩;simp;rcases hm : x.moves[k]? with _ | m
 ·have hge : x.moves.length <= k := by simpa using hm
  obtain rfl : k = x.moves.length := by omega
  repeat' (first
  | (refine zaf rfl ?_; simp [hm])
  | (refine And.intro (by omega) ?_)
  | fail)
  refine LoopW.next ⟨i, by omega⟩ (by simp) ?_
  exact (Wk.zdz (by simp [hn, zam, zai, f3, f4] <;> grind))
 have hmo := hmv m (List.mem_of_getElem? hm);have f8 := f7 m k hm;obtain ⟨t, g⟩ := m;unfold zmr at hmo;simp at hmo;obtain ⟨⟨⟨h1, h2⟩, h3⟩, h4⟩ := hmo;obtain ⟨T, rfl⟩ := Int.eq_ofNat_of_zero_le (show 0 <= t by omega);have hk2 := f5 k hk;have f9 := f6 T;have hiT : i < T := by omega
 have hTl : T < l.length := by omega
 have hneT : ¬ i = T := by omega
 simp only [zmb] at f8;generalize zhR x (fI i l) k = s at *;obtain ⟨v, c, k'⟩ := s;simp only at hk2 f8 ⊢;subst hk2;have g1 := fun h => zuP (v := v) (l := l) hiT h;have g2 := fun h => zsF i v l h;have g3 := zuO (v := v) hi;have g4 := zu8 (v := c) hi;have g5 := fun w => zuN i v w l;have g6 := fun w => zu7 i c w l;have hkl : k' < x.moves.length := (List.getElem?_eq_some_iff.1 hm).1;generalize fI i l (T : Int) = F at *;have hne : ¬ x.moves = [] := fun h => by simp [h] at hkl
 have hxe := (List.getElem?_eq_some_iff.1 hx).2;by_cases c0 : k' = 0
 ·subst c0;simp only [if_pos, true_or] at f8
  repeat' (first
  | (refine Cnd.of (fun hc => ?_) (fun hc => ?_) <;> (try (exfalso; omega)) <;> (try simp [hx, hxe, hm, hne, zag, zah, zap, g1, g2, g3, g4, g5, g6, hTl, hi, hneT]))
  | (refine zaf rfl ?_; simp [hx, hxe, hm, hne, zag, zah, zap, g1, g2, g3, g4, g5, g6, hTl, hi, hneT])
  | (refine And.intro (by omega) ?_)
  | (refine ⟨hC _ (by kernel_rfl), hk _ (zdG 8 _ _ _ ?_)⟩; clear hC hk C k; simp [hx, hxe, hm, hne, zag, zah, zap, g1, g2, g3, g4, g5, g6, hTl, hi, hneT])
  | (refine zdv rfl (by kernel_rfl) (by first | (simp [hn] <;> omega) | fail) fun C k hC hk => ?_; simp [hx, hxe, hm, hne, zag, zah, zap, g1, g2, g3, g4, g5, g6, hTl, hi, hneT])
  | fail)
  refine LoopW.next ⟨0 + 1, by omega⟩ (by simp; omega) ?_
  exact (Wk.zdz (by simp [hn, zam, zai, f8] <;> grind))
 cases hmi : x.mine with
 | true =>
  simp only [hmi] at f8;by_cases hlt : v < g + F
  ·rw [if_pos (by simp [hlt])] at f8
   repeat' (first
  | (refine Cnd.of (fun hc => ?_) (fun hc => ?_) <;> (try (exfalso; omega)) <;> (try simp [hx, hxe, hm, hne, hmi, c0, hlt, zag, zah, zap, g1, g2, g3, g4, g5, g6, hTl, hi, hneT]))
  | (refine zaf rfl ?_; simp [hx, hxe, hm, hne, hmi, c0, hlt, zag, zah, zap, g1, g2, g3, g4, g5, g6, hTl, hi, hneT])
  | (refine And.intro (by omega) ?_)
  | (refine ⟨hC _ (by kernel_rfl), hk _ (zdG 8 _ _ _ ?_)⟩; clear hC hk C k; simp [hx, hxe, hm, hne, hmi, c0, hlt, zag, zah, zap, g1, g2, g3, g4, g5, g6, hTl, hi, hneT])
  | (refine zdv rfl (by kernel_rfl) (by first | (simp [hn] <;> omega) | fail) fun C k hC hk => ?_; simp [hx, hxe, hm, hne, hmi, c0, hlt, zag, zah, zap, g1, g2, g3, g4, g5, g6, hTl, hi, hneT])
  | fail)
   refine LoopW.next ⟨k' + 1, by omega⟩ (by simp; omega) ?_
   exact (Wk.zdz (by simp [hn, zam, zai, f8] <;> grind))
  ·rw [if_neg (by simp [c0, hlt])] at f8
   repeat' (first
  | (refine Cnd.of (fun hc => ?_) (fun hc => ?_) <;> (try (exfalso; omega)) <;> (try simp [hx, hxe, hm, hne, hmi, c0, hlt, zag, zah, zap, g1, g2, g3, g4, g5, g6, hTl, hi, hneT]))
  | (refine zaf rfl ?_; simp [hx, hxe, hm, hne, hmi, c0, hlt, zag, zah, zap, g1, g2, g3, g4, g5, g6, hTl, hi, hneT])
  | (refine And.intro (by omega) ?_)
  | (refine ⟨hC _ (by kernel_rfl), hk _ (zdG 8 _ _ _ ?_)⟩; clear hC hk C k; simp [hx, hxe, hm, hne, hmi, c0, hlt, zag, zah, zap, g1, g2, g3, g4, g5, g6, hTl, hi, hneT])
  | (refine zdv rfl (by kernel_rfl) (by first | (simp [hn] <;> omega) | fail) fun C k hC hk => ?_; simp [hx, hxe, hm, hne, hmi, c0, hlt, zag, zah, zap, g1, g2, g3, g4, g5, g6, hTl, hi, hneT])
  | fail)
   refine LoopW.next ⟨k' + 1, by omega⟩ (by simp; omega) ?_
   exact (Wk.zdz (by simp [hn, zam, zai, f8] <;> grind))
 | false =>
  simp only [hmi] at f8;by_cases hlt : g + F < v
  ·rw [if_pos (by simp [hlt])] at f8
   repeat' (first
  | (refine Cnd.of (fun hc => ?_) (fun hc => ?_) <;> (try (exfalso; omega)) <;> (try simp [hx, hxe, hm, hne, hmi, c0, hlt, zag, zah, zap, g1, g2, g3, g4, g5, g6, hTl, hi, hneT]))
  | (refine zaf rfl ?_; simp [hx, hxe, hm, hne, hmi, c0, hlt, zag, zah, zap, g1, g2, g3, g4, g5, g6, hTl, hi, hneT])
  | (refine And.intro (by omega) ?_)
  | (refine ⟨hC _ (by kernel_rfl), hk _ (zdG 8 _ _ _ ?_)⟩; clear hC hk C k; simp [hx, hxe, hm, hne, hmi, c0, hlt, zag, zah, zap, g1, g2, g3, g4, g5, g6, hTl, hi, hneT])
  | (refine zdv rfl (by kernel_rfl) (by first | (simp [hn] <;> omega) | fail) fun C k hC hk => ?_; simp [hx, hxe, hm, hne, hmi, c0, hlt, zag, zah, zap, g1, g2, g3, g4, g5, g6, hTl, hi, hneT])
  | fail)
   refine LoopW.next ⟨k' + 1, by omega⟩ (by simp; omega) ?_
   exact (Wk.zdz (by simp [hn, zam, zai, f8] <;> grind))
  ·rw [if_neg (by simp [c0, hlt])] at f8
   repeat' (first
  | (refine Cnd.of (fun hc => ?_) (fun hc => ?_) <;> (try (exfalso; omega)) <;> (try simp [hx, hxe, hm, hne, hmi, c0, hlt, zag, zah, zap, g1, g2, g3, g4, g5, g6, hTl, hi, hneT]))
  | (refine zaf rfl ?_; simp [hx, hxe, hm, hne, hmi, c0, hlt, zag, zah, zap, g1, g2, g3, g4, g5, g6, hTl, hi, hneT])
  | (refine And.intro (by omega) ?_)
  | (refine ⟨hC _ (by kernel_rfl), hk _ (zdG 8 _ _ _ ?_)⟩; clear hC hk C k; simp [hx, hxe, hm, hne, hmi, c0, hlt, zag, zah, zap, g1, g2, g3, g4, g5, g6, hTl, hi, hneT])
  | (refine zdv rfl (by kernel_rfl) (by first | (simp [hn] <;> omega) | fail) fun C k hC hk => ?_; simp [hx, hxe, hm, hne, hmi, c0, hlt, zag, zah, zap, g1, g2, g3, g4, g5, g6, hTl, hi, hneT])
  | fail)
   refine LoopW.next ⟨k' + 1, by omega⟩ (by simp; omega) ?_
   exact (Wk.zdz (by simp [hn, zam, zai, f8] <;> grind))
end Go.Proofs.YtmlpcgkaonifcaaGreatDoor
namespace Go.Proofs.YtmlpcgkaonifcaaGreatDoor
open Go Go.VL
attribute [local simp] HS zbu zcZ zcp evPure opd uOf zaA St.put St.at getK binD binI binS binB nilD aggD zfv zf5 lookD lookR zcm rangeS Go.VL.nextD Go.VL.nextS zco zge zgb zfp zcv mkV zbf zaS zaR zaQ zcX zaO za8 zbt mapEff zdD ze5 Key.kk shiftI arith unD convD zdq loadD cellsAt fieldAddrD fieldD indexAddrD indexSlD arrAddr indexD sliceD cutD lenD minmaxD nilCheckD buildD fillD zbY zc2 zev setAll zcT zd9 zci zfs zch St.add zaw zbz rowsOf zdf zcx zad zac zaa zbx zc8 zaZ entry zbM zbQ valD zcl zcw zft zdb zdc zb0 zbK zal zaW zbh delAll effD St.effS zcE zaT zaG zcF zaU zaI zbV zaH zaz zbW zcC zbs zbU za5 zbS zbT zar mkD zcj zbD zbI zal zcr D.ids Op.operands Call.operands zbF makeIfD makeFuncD typeAssertD zf4 zdi zdj zfR zcn IntKind.bits zct zay List.take_of_length_le List.range_succ zcN zcc zcO zcI zbB zb1 zb3 zcJ zb5 zbc zb4 zb2 zg4 zcb zcL zaX zaK zcM zaY zaM zca zaL zaD zcR zcS zgB zab frzN frz1 zav zau St.frz St.frzS frzS fv za2 zbn zbo frzObS zat zan frz zbL zbk zbl zbN zb7 zce za6 St.norm St.lp St.only zax wkE wkO wkU Ob.under D.under zaj zak zcP zcd zcQ h4s zd1 zaC zbC List.zipIdx_cons List.zipIdx_nil zzC zzD Nat.zero_add
attribute [local irreducible] V G H HD HD2 HD4 zg6 RetX zbg Eff CallP CallV EndOK Fun Ret FinOK LoopI LoopW EndW HR vs2 RN Cnd H4
open Df in
theorem zvh (l : List Nd) (ms : List Int) (mine : Bool) (hm : ms.length = l.length) (hl : l.length <= 3000) : RetX Tryz.prog 46 [.u (zcG l), .vec 3 l.length, .u (.bool mine)] [(3, .vec 3 1 (intR ms))] 4 fun r o n => r = .val (.vec 3 l.length) /\ o = [(3, .vec 3 1 (intR (ofP l ms mine)))] /\ n = 4 := by
 simp only [zcG];have k0 := zqE mine;refine RetX.runW Tryz.func46 Tryz.ntmps46 rfl (by simp) fun Γ hn hpan => ?_
 repeat' (first
  | (refine zaf rfl ?_; simp [zag, hm])
  | fail)
 refine zbZ (α := { k : Nat // k <= l.length }) [1, 2, 9, 10] (fun k => [(11, .u (.int .i64 k.1))]) (fun k => [(3, .vec 3 1 (intR (ofK mine k.1 l ms)))]) 4 (fun k => l.length - k.1) ⟨0, by omega⟩ ?_ ?_
 ·exact (Wk.zdz (by simp [hn, zam, zai, ofK] <;> grind))
 rintro ⟨k, hk⟩;simp;rcases hx : l[k]? with _ | x
 ·have hge : l.length <= k := by simpa using hx
  obtain rfl : k = l.length := by omega
  have k1 := zqF mine l ms hm
  repeat' (first
  | (refine zaf rfl ?_; simp [hx])
  | fail)
  (refine EndW.h Tryz.results46 ?_; simp)
  all_goals simp [k1]
 ·have hlt : k < l.length := (List.getElem?_eq_some_iff.1 hx).1;have k1 := znK mine k l ms x hx hm;have k2 := k0 k l ms;have hxe := (List.getElem?_eq_some_iff.1 hx).2;by_cases he : x.mine = mine
  ·rw [if_pos he] at k1
   repeat' (first
  | (refine zaf rfl ?_; simp [hx, hxe, he, zag, zah, zap, k2, hm, hlt])
  | (refine And.intro (by omega) ?_)
  | fail)
   refine LoopW.next ⟨k + 1, by omega⟩ (by simp; omega) ?_
   exact (Wk.zdz (by simp [hn, zam, zai, k1] <;> grind))
  ·rw [if_neg he] at k1
   repeat' (first
  | (refine zaf rfl ?_; simp [hx, hxe, he, zag, zah, zap, k2, hm, hlt])
  | (refine And.intro (by omega) ?_)
  | fail)
   refine LoopW.next ⟨k + 1, by omega⟩ (by simp; omega) ?_
   exact (Wk.zdz (by simp [hn, zam, zai, k1] <;> grind))
theorem zh0 (S : D -> Option U) (l : List Int) : (intR l).map (fun r => r.map (frzS S)) = intR l := by simp [intR, frzS]
open Df in
theorem zpd (l : List Nd) (hg : zfr l = true) : Fun Tryz.prog 23 [.u (zcG l)] (· = .tup [.u (.agg [ints (zgm l), ints (ofP l (zgi l) false)]), .u (.int .i64 0)]) := by
 have h0 := zjS l;rw [hg] at h0;have h1 := zqe l hg;have hl3 := ((zdJ l).1 hg).2.1;have h2 := zvh l (zgi l) false (zjJ l) hl3;have e1 := zkX l;have e2 := zu1 (zjJ l) false;simp only [zcG] at h0 h1 h2 ⊢;refine Fun.runW Tryz.func23 Tryz.ntmps23 rfl (by simp) fun Γ hn => ?_
 repeat' (first
  | (refine zaf rfl ?_; simp [e1, e2])
  | (refine CallP.f2 rfl (h0) (by first | simp [e1, e2] <;> rfl | fail) ?_; simp [e1, e2])
  | (refine CallP.okL (h1) (by first | (simp [e1, e2, zaa, getK, zab, zac, zad, zar, del]; done) | fail) (by rfl) (by first | assumption | (simp; done) | fail) (by rfl) (by simp) ?_; (try simp [e1, e2, zc0, del]))
  | (refine CallP.okL (h2) (by first | (simp [e1, e2, zaa, getK, zab, zac, zad, zar, del]; done) | fail) (by rfl) (by first | assumption | (simp; done) | fail) (by rfl) (by simp) ?_; (try simp [e1, e2, zc0, del]))
  | fail)
 (refine EndW.frzN 4 ?_; simp [del, zh0, zcg, zag, e1, e2])
 refine EndW.norm (EndW.here ?_)
 (refine EndOK.val (.inr rfl) ?_; simp [Tryz.results23, zcg, zag, e1, e2])
 all_goals simp [ints, Go.VL.intR]
end Go.Proofs.YtmlpcgkaonifcaaGreatDoor
namespace Go.Proofs.YtmlpcgkaonifcaaGreatDoor
open Go Go.VL
attribute [local simp] HS zbu zcZ zcp evPure opd uOf zaA St.put St.at getK binD binI binS binB nilD aggD zfv zf5 lookD lookR zcm rangeS Go.VL.nextD Go.VL.nextS zco zge zgb zfp zcv mkV zbf zaS zaR zaQ zcX zaO za8 zbt mapEff zdD ze5 Key.kk shiftI arith unD convD zdq loadD cellsAt fieldAddrD fieldD indexAddrD indexSlD arrAddr indexD sliceD cutD lenD minmaxD nilCheckD buildD fillD zbY zc2 zev setAll zcT zd9 zci zfs zch St.add zaw zbz rowsOf zdf zcx zad zac zaa zbx zc8 zaZ entry zbM zbQ valD zcl zcw zft zdb zdc zb0 zbK zal zaW zbh delAll effD St.effS zcE zaT zaG zcF zaU zaI zbV zaH zaz zbW zcC zbs zbU za5 zbS zbT zar mkD zcj zbD zbI zal zcr D.ids Op.operands Call.operands zbF makeIfD makeFuncD typeAssertD zf4 zdi zdj zfR zcn IntKind.bits zct zay List.take_of_length_le List.range_succ zcN zcc zcO zcI zbB zb1 zb3 zcJ zb5 zbc zb4 zb2 zg4 zcb zcL zaX zaK zcM zaY zaM zca zaL zaD zcR zcS zgB zab frzN frz1 zav zau St.frz St.frzS frzS fv za2 zbn zbo frzObS zat zan frz zbL zbk zbl zbN zb7 zce za6 St.norm St.lp St.only zax wkE wkO wkU Ob.under D.under zaj zak zcP zcd zcQ h4s zd1 zaC zbC List.zipIdx_cons List.zipIdx_nil zzC zzD Nat.zero_add
attribute [local irreducible] V G H HD HD2 HD4 zg6 RetX zbg Eff CallP CallV EndOK Fun Ret FinOK LoopI LoopW EndW HR vs2 RN Cnd H4
open Df in
theorem zrx (b : By) (n : Int) (k p : Nat) (hr : zc1 b = true) (hn : 1 <= n /\ n <= 60) (hk : k <= 7 /\ (k : Int) <= n) (hp : p < 1000) : Fun Tryz.prog 67 [.u (zgf b n k), .u (.int .i64 p)] (· = .tup [.u (ints (zen b n k p).1), .u (.int .i64 (zen b n k p).2)]) := by
 obtain ⟨hlast, hper, hfund, _⟩ := zdd hr;have hc1 := zgX znN n;have hc2 := zgX zso p;have hc3 := zgX zw1 b.last;have hd1 : Fun Tryz.prog 19 [.u (zgf b n k), .u (.str zqk), .u (zei [⟨znN, 1, n⟩, ⟨zso, 1, p⟩, ⟨zw1, 1, b.last⟩, ⟨zu5, 2, p * b.period⟩])] (· = .tup [.u (.int .i64 (ztG b n p).1), .u (.int .i64 (ztG b n p).2)]) := zhU b n k zqk _;have hd2 : 0 <= (ztG b n p).1 /\ (ztG b n p).1 <= 1099511627776 := znu b zqk _;have hpp := zeH (x := (p : Int)) (y := b.period) (B := 1000) (C := 1000) (by omega) (by omega) (by omega);unfold zen;generalize ztG b n p = DU at *;obtain ⟨due, e⟩ := DU;simp only at hd2 hd1 ⊢;simp only [zgf, zul, zei, zaF, znN, zso, zw1, zu5, zqk, List.cons_append, List.nil_append, zzC, zzD] at hc1 hc2 hc3 hd1 ⊢;have q3 := zku (k + 1) 0;by_cases hki : b.kind = 2
 ·rw [if_pos hki];refine Fun.runW Tryz.func67 Tryz.ntmps67 rfl (by simp) fun Γ hn => ?_
  repeat' (first
  | (refine zaf rfl ?_; simp [hki, hk, q3])
  | (refine And.intro (by omega) ?_)
  | fail)
  (refine EndW.frzN 1 ?_; simp [del, zh0, zcg, zag, q3])
  refine EndW.norm (EndW.here ?_)
  (refine EndOK.val (.inr rfl) ?_; simp [Tryz.results67, zcg, zag])
  all_goals simp [ints, Go.VL.intR]
 rw [if_neg hki];by_cases he : e = 0
 rotate_left
 ·rw [if_pos he];refine Fun.runW Tryz.func67 Tryz.ntmps67 rfl (by simp) fun Γ hn => ?_
  repeat' (first
  | (refine zaf rfl ?_; simp [hki, hk, he, q3])
  | (refine And.intro (by omega) ?_)
  | (refine ⟨hC _ (by kernel_rfl), hk _ (zdG 8 _ _ _ ?_)⟩; clear hC hk C k; simp [hki, hk, he, q3])
  | (refine zdv rfl (by kernel_rfl) (by first | (simp [hn] <;> omega) | fail) fun C k hC hk => ?_; simp [hki, hk, he, q3])
  | (refine zcB rfl ?_; simp [hki, hk, he, q3])
  | (refine zbP rfl ?_; simp [hki, hk, he, q3])
  | ((first | refine CallV.f2 rfl (hc1) (by first | simp [hki, hk, he, q3] <;> rfl | fail) ?_ | refine CallV.f2 rfl (hc2) (by first | simp [hki, hk, he, q3] <;> rfl | fail) ?_ | refine CallV.f2 rfl (hc3) (by first | simp [hki, hk, he, q3] <;> rfl | fail) ?_ | refine CallV.f2 rfl (hd1) (by first | simp [hki, hk, he, q3] <;> rfl | fail) ?_ | fail); simp [hki, hk, he, q3])
  | fail)
  refine EndW.norm (EndW.here ?_)
  (refine EndOK.val (.inr rfl) ?_; simp [Tryz.results67, zcg, zag])
  all_goals simp [ints]
 rw [if_neg (by simp [he])];have hnd := zeH (x := n) (y := due) (B := 1099511627776) (C := 60) (by omega) (by omega) (by omega);by_cases hr3 : 1099511627776 < n * due
 ·rw [if_pos hr3];refine Fun.runW Tryz.func67 Tryz.ntmps67 rfl (by simp) fun Γ hn => ?_
  repeat' (first
  | (refine zaf rfl ?_; simp [hki, hk, he, q3, hr3])
  | (refine And.intro (by omega) ?_)
  | (refine ⟨hC _ (by kernel_rfl), hk _ (zdG 8 _ _ _ ?_)⟩; clear hC hk C k; simp [hki, hk, he, q3, hr3])
  | (refine zdv rfl (by kernel_rfl) (by first | (simp [hn] <;> omega) | fail) fun C k hC hk => ?_; simp [hki, hk, he, q3, hr3])
  | (refine zcB rfl ?_; simp [hki, hk, he, q3, hr3])
  | (refine zbP rfl ?_; simp [hki, hk, he, q3, hr3])
  | ((first | refine CallV.f2 rfl (hc1) (by first | simp [hki, hk, he, q3, hr3] <;> rfl | fail) ?_ | refine CallV.f2 rfl (hc2) (by first | simp [hki, hk, he, q3, hr3] <;> rfl | fail) ?_ | refine CallV.f2 rfl (hc3) (by first | simp [hki, hk, he, q3, hr3] <;> rfl | fail) ?_ | refine CallV.f2 rfl (hd1) (by first | simp [hki, hk, he, q3, hr3] <;> rfl | fail) ?_ | fail); simp [hki, hk, he, q3, hr3])
  | fail)
  refine EndW.norm (EndW.here ?_)
  (refine EndOK.val (.inr rfl) ?_; simp [Tryz.results67, zcg, zag])
  all_goals simp [ints]
 rw [if_neg hr3];generalize hG : zgQ b n k p due (k + 1) [] = G;have hD := zeH (x := b.fund) (y := due) (B := 1099511627776) (C := 1000) (by omega) (by omega) (by omega);rw [Int.mul_comm b.fund due] at hD;have hD0 : 0 <= due * b.fund := Int.mul_nonneg hd2.1 hfund.1;have hQ := zuU hD0;refine Fun.runW Tryz.func67 Tryz.ntmps67 rfl (by simp) fun Γ hn => ?_
 repeat' (first
  | (refine zaf rfl ?_; simp [hki, hk, he, q3, hr3])
  | (refine And.intro (by omega) ?_)
  | (refine ⟨hC _ (by kernel_rfl), hk _ (zdG 8 _ _ _ ?_)⟩; clear hC hk C k; simp [hki, hk, he, q3, hr3])
  | (refine zdv rfl (by kernel_rfl) (by first | (simp [hn] <;> omega) | fail) fun C k hC hk => ?_; simp [hki, hk, he, q3, hr3])
  | (refine zcB rfl ?_; simp [hki, hk, he, q3, hr3])
  | (refine zbP rfl ?_; simp [hki, hk, he, q3, hr3])
  | ((first | refine CallV.f2 rfl (hc1) (by first | simp [hki, hk, he, q3, hr3] <;> rfl | fail) ?_ | refine CallV.f2 rfl (hc2) (by first | simp [hki, hk, he, q3, hr3] <;> rfl | fail) ?_ | refine CallV.f2 rfl (hc3) (by first | simp [hki, hk, he, q3, hr3] <;> rfl | fail) ?_ | refine CallV.f2 rfl (hd1) (by first | simp [hki, hk, he, q3, hr3] <;> rfl | fail) ?_ | fail); simp [hki, hk, he, q3, hr3])
  | fail)
 refine zi1 0 ?_;simp [frzB, zav, zau, St.frzS, frzS, fv, za2, zbn, zbo, frzObS, zat, zan, del, zh0, q3];refine zbZ (α := { s : Nat × List Int // s.1 + s.2.length = k + 1 /\ zgQ b n k p due s.1 s.2 = G }) [1, 2, 6, 7] (fun s => [(9, .u (.int .i64 ((s.1.1 : Int) - 1)))]) (fun s => [(1, .vec 3 1 (intR (gaA s.1.1 s.1.2)))]) 2 (fun s => s.1.1) ⟨(k + 1, []), by simp, hG⟩ ?_ ?_
 ·have q4 := zry (k + 1);exact (Wk.zdz (by simp [hn, zam, zai, q3, q4] <;> grind))
 rintro ⟨⟨j, out⟩, hjl, hgG⟩;simp;simp only at hjl hgG;rcases j with _ | i
 ·have q5 := zts out;have hgG' : G = (out, 0) := hgG.symm;have hol : k + 1 = out.length := by omega
  repeat' (first
  | (refine zaf rfl ?_; simp [q5])
  | fail)
  (refine EndW.frzN 1 ?_; simp [del, zh0, zcg, zag, q5, hol])
  refine EndW.norm (EndW.here ?_)
  (refine EndOK.val (.inr rfl) ?_; simp [Tryz.results67, zcg, zag])
  all_goals simp [ints, hgG']
 rw [zm4] at hgG;have q5 := ztt i out;have e1 : (((i + 1 : Nat) : Int)) - 1 = i := by omega
 have g1 := fun v => zvl i v out;have g2 := fun v h => zvm i v out h;have g3 := fun v w => zvk i v w out;have g4 := fun v => zvn i v out;have hik : i < i + 1 + out.length := by omega
 have hid := zeH (x := (i : Int)) (y := due) (B := 1099511627776) (C := 7) (by omega) (by omega) (by omega);have hid0 : 0 <= (i : Int) * due := Int.mul_nonneg (by omega) hd2.1;unfold zhP at hgG;by_cases hpk : (p : Int) < k
 ·by_cases hi0 : 0 < i
  ·simp only [if_pos (And.intro hpk hi0)] at hgG;unfold zsV at hgG;by_cases hbk : b.backs = 0
   ·simp only [if_pos hbk] at hgG;have hP := zeH (x := n - k + i) (y := due - (due * b.fund).tdiv 1000) (B := 1099511627776000) (C := 60) (by omega) (by omega) (by omega);generalize hPG : (n - k + i) * (due - (due * b.fund).tdiv 1000) = P at *;have hp1 := zfO zur P;have hp2 := zfO zus 0;have hp3 : Fun Tryz.prog 19 [.u (zgf b n k), .u (.str zlc), .u (zei [⟨zur, 3, P⟩, ⟨zus, 3, 0⟩, ⟨znN, 1, n⟩, ⟨zso, 1, p⟩])] (· = .tup [.u (.int .i64 (znG b n p P).1), .u (.int .i64 (znG b n p P).2)]) := zhU b n k zlc _;have hp4 : 0 <= (znG b n p P).1 /\ (znG b n p P).1 <= 1099511627776 := znu b zlc _;generalize znG b n p P = PY at *;obtain ⟨pay, f⟩ := PY;simp only [zgf, zul, zei, zaF, znN, zso, zur, zus, zlc, List.cons_append, List.nil_append, zzC, zzD] at hp1 hp2 hp3 hp4 hgG;by_cases hf : f = 0
    ·simp only [if_pos hf] at hgG
     repeat' (first
  | (refine zaf rfl ?_; simp [q5, e1, hpk, hi0, hbk, hPG, hf, hik, g1, g2, g3, zag, zah, zap])
  | (refine And.intro (by omega) ?_)
  | (refine ⟨hC _ (by kernel_rfl), hk _ (zdG 8 _ _ _ ?_)⟩; clear hC hk C k; simp [q5, e1, hpk, hi0, hbk, hPG, hf, hik, g1, g2, g3, zag, zah, zap])
  | (refine zdv rfl (by kernel_rfl) (by first | (simp [hn] <;> omega) | fail) fun C k hC hk => ?_; simp [q5, e1, hpk, hi0, hbk, hPG, hf, hik, g1, g2, g3, zag, zah, zap])
  | (refine zcB rfl ?_; simp [q5, e1, hpk, hi0, hbk, hPG, hf, hik, g1, g2, g3, zag, zah, zap])
  | (refine zbP rfl ?_; simp [q5, e1, hpk, hi0, hbk, hPG, hf, hik, g1, g2, g3, zag, zah, zap])
  | (refine And.intro ?_ (by omega))
  | ((first | refine CallV.f2 rfl (hc1) (by first | simp [q5, e1, hpk, hi0, hbk, hPG, hf, hik, g1, g2, g3, zag, zah, zap] <;> rfl | fail) ?_ | refine CallV.f2 rfl (hc2) (by first | simp [q5, e1, hpk, hi0, hbk, hPG, hf, hik, g1, g2, g3, zag, zah, zap] <;> rfl | fail) ?_ | refine CallV.f2 rfl (hp1) (by first | simp [q5, e1, hpk, hi0, hbk, hPG, hf, hik, g1, g2, g3, zag, zah, zap] <;> rfl | fail) ?_ | refine CallV.f2 rfl (hp2) (by first | simp [q5, e1, hpk, hi0, hbk, hPG, hf, hik, g1, g2, g3, zag, zah, zap] <;> rfl | fail) ?_ | refine CallV.f2 rfl (hp3) (by first | simp [q5, e1, hpk, hi0, hbk, hPG, hf, hik, g1, g2, g3, zag, zah, zap] <;> rfl | fail) ?_ | fail); simp [q5, e1, hpk, hi0, hbk, hPG, hf, hik, g1, g2, g3, zag, zah, zap])
  | fail)
     refine LoopW.next ⟨(i, (min pay P - i * due) :: out), by simp; omega, hgG⟩ (by simp) ?_
     exact (Wk.zdz (by simp [hn, zam, zai, g4] <;> grind))
    ·simp only [if_neg hf] at hgG
     repeat' (first
  | (refine zaf rfl ?_; simp [q5, e1, hpk, hi0, hbk, hPG, hf, hik, g1, g2, g3, zag, zah, zap])
  | (refine And.intro (by omega) ?_)
  | (refine ⟨hC _ (by kernel_rfl), hk _ (zdG 8 _ _ _ ?_)⟩; clear hC hk C k; simp [q5, e1, hpk, hi0, hbk, hPG, hf, hik, g1, g2, g3, zag, zah, zap])
  | (refine zdv rfl (by kernel_rfl) (by first | (simp [hn] <;> omega) | fail) fun C k hC hk => ?_; simp [q5, e1, hpk, hi0, hbk, hPG, hf, hik, g1, g2, g3, zag, zah, zap])
  | (refine zcB rfl ?_; simp [q5, e1, hpk, hi0, hbk, hPG, hf, hik, g1, g2, g3, zag, zah, zap])
  | (refine zbP rfl ?_; simp [q5, e1, hpk, hi0, hbk, hPG, hf, hik, g1, g2, g3, zag, zah, zap])
  | ((first | refine CallV.f2 rfl (hc1) (by first | simp [q5, e1, hpk, hi0, hbk, hPG, hf, hik, g1, g2, g3, zag, zah, zap] <;> rfl | fail) ?_ | refine CallV.f2 rfl (hc2) (by first | simp [q5, e1, hpk, hi0, hbk, hPG, hf, hik, g1, g2, g3, zag, zah, zap] <;> rfl | fail) ?_ | refine CallV.f2 rfl (hp1) (by first | simp [q5, e1, hpk, hi0, hbk, hPG, hf, hik, g1, g2, g3, zag, zah, zap] <;> rfl | fail) ?_ | refine CallV.f2 rfl (hp2) (by first | simp [q5, e1, hpk, hi0, hbk, hPG, hf, hik, g1, g2, g3, zag, zah, zap] <;> rfl | fail) ?_ | refine CallV.f2 rfl (hp3) (by first | simp [q5, e1, hpk, hi0, hbk, hPG, hf, hik, g1, g2, g3, zag, zah, zap] <;> rfl | fail) ?_ | fail); simp [q5, e1, hpk, hi0, hbk, hPG, hf, hik, g1, g2, g3, zag, zah, zap])
  | fail)
     refine EndW.norm (EndW.here ?_)
     (refine EndOK.val (.inr rfl) ?_; simp [Tryz.results67, zcg, zag])
     all_goals simp [ints, <- hgG]
   ·simp only [if_neg hbk] at hgG;have hP := zeH (x := n) (y := due - (due * b.fund).tdiv 1000) (B := 1099511627776000) (C := 60) (by omega) (by omega) (by omega);generalize hPG : (n) * (due - (due * b.fund).tdiv 1000) = P at *;have hp1 := zfO zur P;have hp2 := zfO zus 0;have hp3 : Fun Tryz.prog 19 [.u (zgf b n k), .u (.str zlc), .u (zei [⟨zur, 3, P⟩, ⟨zus, 3, 0⟩, ⟨znN, 1, n⟩, ⟨zso, 1, p⟩])] (· = .tup [.u (.int .i64 (znG b n p P).1), .u (.int .i64 (znG b n p P).2)]) := zhU b n k zlc _;have hp4 : 0 <= (znG b n p P).1 /\ (znG b n p P).1 <= 1099511627776 := znu b zlc _;generalize znG b n p P = PY at *;obtain ⟨pay, f⟩ := PY;simp only [zgf, zul, zei, zaF, znN, zso, zur, zus, zlc, List.cons_append, List.nil_append, zzC, zzD] at hp1 hp2 hp3 hp4 hgG;by_cases hf : f = 0
    ·simp only [if_pos hf] at hgG
     repeat' (first
  | (refine zaf rfl ?_; simp [q5, e1, hpk, hi0, hbk, hPG, hf, hik, g1, g2, g3, zag, zah, zap])
  | (refine And.intro (by omega) ?_)
  | (refine ⟨hC _ (by kernel_rfl), hk _ (zdG 8 _ _ _ ?_)⟩; clear hC hk C k; simp [q5, e1, hpk, hi0, hbk, hPG, hf, hik, g1, g2, g3, zag, zah, zap])
  | (refine zdv rfl (by kernel_rfl) (by first | (simp [hn] <;> omega) | fail) fun C k hC hk => ?_; simp [q5, e1, hpk, hi0, hbk, hPG, hf, hik, g1, g2, g3, zag, zah, zap])
  | (refine zcB rfl ?_; simp [q5, e1, hpk, hi0, hbk, hPG, hf, hik, g1, g2, g3, zag, zah, zap])
  | (refine zbP rfl ?_; simp [q5, e1, hpk, hi0, hbk, hPG, hf, hik, g1, g2, g3, zag, zah, zap])
  | (refine And.intro ?_ (by omega))
  | ((first | refine CallV.f2 rfl (hc1) (by first | simp [q5, e1, hpk, hi0, hbk, hPG, hf, hik, g1, g2, g3, zag, zah, zap] <;> rfl | fail) ?_ | refine CallV.f2 rfl (hc2) (by first | simp [q5, e1, hpk, hi0, hbk, hPG, hf, hik, g1, g2, g3, zag, zah, zap] <;> rfl | fail) ?_ | refine CallV.f2 rfl (hp1) (by first | simp [q5, e1, hpk, hi0, hbk, hPG, hf, hik, g1, g2, g3, zag, zah, zap] <;> rfl | fail) ?_ | refine CallV.f2 rfl (hp2) (by first | simp [q5, e1, hpk, hi0, hbk, hPG, hf, hik, g1, g2, g3, zag, zah, zap] <;> rfl | fail) ?_ | refine CallV.f2 rfl (hp3) (by first | simp [q5, e1, hpk, hi0, hbk, hPG, hf, hik, g1, g2, g3, zag, zah, zap] <;> rfl | fail) ?_ | fail); simp [q5, e1, hpk, hi0, hbk, hPG, hf, hik, g1, g2, g3, zag, zah, zap])
  | fail)
     refine LoopW.next ⟨(i, (min pay P - i * due) :: out), by simp; omega, hgG⟩ (by simp) ?_
     exact (Wk.zdz (by simp [hn, zam, zai, g4] <;> grind))
    ·simp only [if_neg hf] at hgG
     repeat' (first
  | (refine zaf rfl ?_; simp [q5, e1, hpk, hi0, hbk, hPG, hf, hik, g1, g2, g3, zag, zah, zap])
  | (refine And.intro (by omega) ?_)
  | (refine ⟨hC _ (by kernel_rfl), hk _ (zdG 8 _ _ _ ?_)⟩; clear hC hk C k; simp [q5, e1, hpk, hi0, hbk, hPG, hf, hik, g1, g2, g3, zag, zah, zap])
  | (refine zdv rfl (by kernel_rfl) (by first | (simp [hn] <;> omega) | fail) fun C k hC hk => ?_; simp [q5, e1, hpk, hi0, hbk, hPG, hf, hik, g1, g2, g3, zag, zah, zap])
  | (refine zcB rfl ?_; simp [q5, e1, hpk, hi0, hbk, hPG, hf, hik, g1, g2, g3, zag, zah, zap])
  | (refine zbP rfl ?_; simp [q5, e1, hpk, hi0, hbk, hPG, hf, hik, g1, g2, g3, zag, zah, zap])
  | ((first | refine CallV.f2 rfl (hc1) (by first | simp [q5, e1, hpk, hi0, hbk, hPG, hf, hik, g1, g2, g3, zag, zah, zap] <;> rfl | fail) ?_ | refine CallV.f2 rfl (hc2) (by first | simp [q5, e1, hpk, hi0, hbk, hPG, hf, hik, g1, g2, g3, zag, zah, zap] <;> rfl | fail) ?_ | refine CallV.f2 rfl (hp1) (by first | simp [q5, e1, hpk, hi0, hbk, hPG, hf, hik, g1, g2, g3, zag, zah, zap] <;> rfl | fail) ?_ | refine CallV.f2 rfl (hp2) (by first | simp [q5, e1, hpk, hi0, hbk, hPG, hf, hik, g1, g2, g3, zag, zah, zap] <;> rfl | fail) ?_ | refine CallV.f2 rfl (hp3) (by first | simp [q5, e1, hpk, hi0, hbk, hPG, hf, hik, g1, g2, g3, zag, zah, zap] <;> rfl | fail) ?_ | fail); simp [q5, e1, hpk, hi0, hbk, hPG, hf, hik, g1, g2, g3, zag, zah, zap])
  | fail)
     refine EndW.norm (EndW.here ?_)
     (refine EndOK.val (.inr rfl) ?_; simp [Tryz.results67, zcg, zag])
     all_goals simp [ints, <- hgG]
  ·simp only [if_neg (fun h : (p : Int) < k /\ 0 < i => hi0 h.2)] at hgG;obtain rfl : i = 0 := by omega
   repeat' (first
  | (refine zaf rfl ?_; simp [q5, e1, hpk, hik, g1, g2, g3, zag, zah, zap])
  | (refine And.intro ?_ (by omega))
  | fail)
   refine LoopW.next ⟨(0, (-(((0 : Nat) : Int) * due)) :: out), by simp; omega, hgG⟩ (by simp) ?_
   exact (Wk.zdz (by simp [hn, zam, zai, g4] <;> grind))
 ·simp only [if_neg (fun h : (p : Int) < k /\ 0 < i => hpk h.1)] at hgG
  repeat' (first
  | (refine zaf rfl ?_; simp [q5, e1, hpk, hik, g1, g2, g3, zag, zah, zap])
  | (refine And.intro (by omega) ?_)
  | (refine And.intro ?_ (by omega))
  | fail)
  refine LoopW.next ⟨(i, (-((i : Int) * due)) :: out), by simp; omega, hgG⟩ (by simp) ?_
  exact (Wk.zdz (by simp [hn, zam, zai, g4] <;> grind))
end Go.Proofs.YtmlpcgkaonifcaaGreatDoor
namespace Go.Proofs.YtmlpcgkaonifcaaGreatDoor
open Go Go.VL
attribute [local simp] HS zbu zcZ zcp evPure opd uOf zaA St.put St.at getK binD binI binS binB nilD aggD zfv zf5 lookD lookR zcm rangeS Go.VL.nextD Go.VL.nextS zco zge zgb zfp zcv mkV zbf zaS zaR zaQ zcX zaO za8 zbt mapEff zdD ze5 Key.kk shiftI arith unD convD zdq loadD cellsAt fieldAddrD fieldD indexAddrD indexSlD arrAddr indexD sliceD cutD lenD minmaxD nilCheckD buildD fillD zbY zc2 zev setAll zcT zd9 zci zfs zch St.add zaw zbz rowsOf zdf zcx zad zac zaa zbx zc8 zaZ entry zbM zbQ valD zcl zcw zft zdb zdc zb0 zbK zal zaW zbh delAll effD St.effS zcE zaT zaG zcF zaU zaI zbV zaH zaz zbW zcC zbs zbU za5 zbS zbT zar mkD zcj zbD zbI zal zcr D.ids Op.operands Call.operands zbF makeIfD makeFuncD typeAssertD zf4 zdi zdj zfR zcn IntKind.bits zct zay List.take_of_length_le List.range_succ zcN zcc zcO zcI zbB zb1 zb3 zcJ zb5 zbc zb4 zb2 zg4 zcb zcL zaX zaK zcM zaY zaM zca zaL zaD zcR zcS zgB zab frzN frz1 zav zau St.frz St.frzS frzS fv za2 zbn zbo frzObS zat zan frz zbL zbk zbl zbN zb7 zce za6 St.norm St.lp St.only zax wkE wkO wkU Ob.under D.under zaj zak zcP zcd zcQ h4s zd1 zaC zbC List.zipIdx_cons List.zipIdx_nil zzC zzD Nat.zero_add
attribute [local irreducible] V G H HD HD2 HD4 zg6 RetX zbg Eff CallP CallV EndOK Fun Ret FinOK LoopI LoopW EndW HR vs2 RN Cnd H4
theorem zto (b : By) (m : Int) (c : List Int) (hl : c.length <= 1000000) : Fun Tryz.prog 43 [.u (.agg (zaF b)), .u (.int .i64 m), .u (ints c)] (· = .tup [.u (zcG (zd8 b m c).1), .u (.int .i64 (zd8 b m c).2)]) := by
 cases hR : zeO b m c with
 | false => exact ztp b m c hl hR
 | true =>
 by_cases h78 : 7 < c.length \/ 3000 <= 2 * ((c.length : Int) + 1) * b.last
 ·exact zrw b m c hl hR h78
 have h1 := ze9 b m c hl;unfold zd8;rw [hR] at h1;rw [hR, if_pos rfl];obtain ⟨hk, hr, hn1, hn2⟩ := zfy hR;have hn : 1 <= m /\ m <= 60 := ⟨hn1, hn2⟩;obtain ⟨hlast, _, hfund, _⟩ := zdd hr;obtain ⟨k, hkc⟩ : ∃ k, k = c.length := ⟨_, rfl⟩;rw [<- hkc] at hk ⊢;obtain ⟨L, hL⟩ := Int.eq_ofNat_of_zero_le (show 0 <= b.last by omega);have hE := zeH (x := 2 * ((k : Int) + 1)) (y := (L : Int)) (B := 1000) (C := 200) (by omega) (by omega) (by omega);have hE0 : 0 <= 2 * ((k : Int) + 1) * L := Int.mul_nonneg (by omega) (by omega);have hgf := fun (hk7 : k <= 7) (p : Nat) (hp : p < 1000) => zrx b m k p hr hn ⟨hk7, hk⟩ hp;have hnf := fun (hk7 : k <= 7) (p : Nat) (hp : p < 1000) (a e : Int) (ha : 0 <= a /\ a <= 100000) (he : 0 <= e /\ e <= 100000) (g : List Int) (hg : g.length = k + 1) => zpt b m k p a e g hr hn ⟨hk7, hk⟩ hp ha he hg;unfold zph;rw [hL, Int.toNat_natCast];simp only [zgf, zaF, ints, zcG, hL, List.cons_append, List.nil_append] at h1 hgf hnf ⊢;have h7n : k <= 7 := by omega
 have h7 : ¬ 7 < k := by omega
 have hgf := hgf h7n;have hnf := hnf h7n;subst hkc;have h3 : ¬ 3000 <= 2 * ((c.length : Int) + 1) * L := by rw [hL] at h78; omega
 have h7' : ¬ (7 : Int) < c.length := by omega
 rw [if_neg (by omega)];obtain ⟨G, hG⟩ : ∃ G, G = ziI b m c.length (2 * ((c.length : Int) + 1) * L) 0 [] L := ⟨_, rfl⟩;rw [<- hG];refine Fun.runW Tryz.func43 Tryz.ntmps43 rfl (by simp) fun Γ hn => ?_
 repeat' (first
  | (refine CallP.f2 rfl (h1) (by first | simp <;> rfl | fail) ?_; simp (config := { maxSteps := 1000000 }) [h7, h7', h3])
  | (refine Cnd.of (fun hc => ?_) (fun hc => ?_) <;> (try (exfalso; omega)) <;> (try simp [h7, h7', h3]))
  | (refine zaf rfl ?_; simp [h7, h7', h3])
  | (refine And.intro (by omega) ?_)
  | fail)
 refine zi1 0 ?_;simp [frzB, zav, zau, St.frzS, frzS, fv, za2, zbn, zbo, frzObS, zat, zan, del];refine zi1 1 ?_;simp [frzB, zav, zau, St.frzS, frzS, fv, za2, zbn, zbo, frzObS, zat, zan, del];refine zmt _ (Wk.own 10 119 2 (by decide) rfl) ?_;simp [St.own];refine zbZ (α := { s : Nat × List Nd // s.1 <= L /\ s.2.length = 2 * (c.length + 1) * s.1 /\ ziI b m c.length (2 * ((c.length : Int) + 1) * L) s.1 s.2 (L - s.1) = G }) [3, 8, 9, 39] (fun s => [(10, .vec 2 s.1.2.length), (40, .u (.int .i64 s.1.1))]) (fun s => [(2, .vec 119 2 (zdL s.1.2))]) 3 (fun s => L - s.1.1) ⟨(0, []), by omega, by simp, hG.symm⟩ ?_ ?_
 ·exact (Wk.zdz (by simp [hn, zdL] <;> grind))
 rintro ⟨⟨p, out⟩, hpL, hol, hoG⟩;simp;simp only at hpL hol hoG;have hln := zeS out;have hlr := zhk out;have hob : out.length <= 3000 := by
  have := Nat.mul_le_mul_left (2 * (c.length + 1)) hpL;have h4 : ((2 * (c.length + 1) * L : Nat) : Int) = 2 * ((c.length : Int) + 1) * L := by push_cast; rfl
  omega
 by_cases hp : p < L
 ·have hg := hgf p (by omega);have hL1 : L - p = (L - (p + 1)) + 1 := by omega
  rw [hL1, zpi] at hoG;rcases hgp : zen b m c.length p with ⟨g, e⟩
  rw [hgp] at hg hoG;simp only at hg hoG;have hpi : (p : Int) < L := by omega
  by_cases he : e = 0
  ·subst he;have hgl := (zn0 hgp hfund hn1 hk).1;have hno := hnf p (by omega) out.length (2 * ((c.length : Int) + 1) * L) ⟨by omega, by omega⟩ ⟨hE0, by omega⟩ g hgl;have hNl := zjI b m c.length p out.length (2 * ((c.length : Int) + 1) * L) g;rw [if_pos rfl] at hoG;generalize zgK b m c.length p out.length (2 * ((c.length : Int) + 1) * L) g = N at hno hNl hoG;have hap := zqJ out N
   repeat' (first
  | (refine zaf rfl ?_; simp [hp, hpi, hln, hlr, hap])
  | (refine And.intro (by omega) ?_)
  | ((first | refine CallP.f2 rfl (hg) (by first | simp [hp, hpi, hln, hlr, hap] <;> rfl | fail) ?_ | refine CallP.f2 rfl (hno) (by first | simp [hp, hpi, hln, hlr, hap] <;> rfl | fail) ?_ | fail); simp [hp, hpi, hln, hlr, hap])
  | fail)
   refine LoopW.next ⟨(p + 1, out ++ N), by omega, by show (out ++ N).length = 2 * (c.length + 1) * (p + 1); rw [List.length_append, hol, hNl, Nat.mul_succ (2 * (c.length + 1)) p], hoG⟩ (by simp; omega) ?_
   exact (Wk.ren ((fun i => if i = 2 then 3 else i)) rfl (by first | (simp [hn]; done) | (intro i hi; rw [hn] at hi; constructor <;> (try simp) <;> (try (intro _)) <;> omega)) (by simp [zi6, St.lp, zax, zaa, getK, zac, zad, D.under, D.le, D.ren, hap, zbq, zba] <;> (try (intros; simp_all; done)) <;> (try omega)) (by simp [wkR, St.lp, zaa, getK, zac, zad, obR, leU, zcu, za7, Ob.under, D.under, D.le, D.ren, hap, zbq, zba] <;> (try (intros; simp_all; done)) <;> (try omega)) (by simp [hap, zbq, zba]))
  ·rw [if_neg he] at hoG;subst hoG
   repeat' (first
  | (refine zaf rfl ?_; simp [hp, hpi, hln, hlr, he])
  | (refine CallP.f2 rfl (hg) (by first | simp [hp, hpi, hln, hlr, he] <;> rfl | fail) ?_; simp [hp, hpi, hln, hlr, he])
  | fail)
   refine EndW.norm (EndW.here ?_)
   (refine EndOK.val (.inr rfl) ?_; simp [Tryz.results43])
   all_goals simp
 ·obtain rfl : p = L := by omega
  rw [Nat.sub_self, ziI] at hoG;have hpi : ¬ (p : Int) < p := Int.lt_irrefl _
  repeat' (first
  | (refine zaf rfl ?_; simp [hp, hpi, hln, hlr])
  | (refine And.intro (by omega) ?_)
  | fail)
  refine EndW.wk _ (Wk.normV _) ?_;simp [St.normV, zin, zbN, zb7, zce, zoO];have hfr := zd3
  (refine EndW.frzN 4 ?_; simp [del, zd3, zlw, zeS])
  refine EndW.norm (EndW.here ?_)
  (refine EndOK.val (.inr rfl) ?_; simp [Tryz.results43])
  all_goals simp [zcG, <- hoG, zd4]
end Go.Proofs.YtmlpcgkaonifcaaGreatDoor
