/- Texts joined by a program of mine: Ei Ej Ek El Em En Eo Yk Yl Ym Yn Yo Zh Zi Zj. -/
import Derived.Test.YthnemhfamhnfjaaGreatDoorK4
set_option linter.all false
set_option maxRecDepth 100000
set_option maxHeartbeats 8000000
namespace Go.Proofs.YthnemhfamhnfjaaGreatDoor
open Go Go.VL
attribute [local simp] HS zcR zb0 evPure opd uOf zaH St.put St.at getK binD binI binS binB nilD aggD zgp zhi lookD lookR zcm Go.VL.nextD zcq zhv zhu zfX zcs mkV zdb zbj zbr mapEff zd1 zfM Key.kk shiftI arith unD convD zdH loadD cellsAt fieldAddrD fieldD indexAddrD indexD sliceD cutD lenD minmaxD nilCheckD buildD fillD zbH zcW zes setAll zcE zeJ zch zgC zcd St.add zaM zbB rowsOf zdw zcA zak zac zaa zba zcz zaR entry zbo zbq valD zb5 zcu zgh zc8 zda zbO zbG zau za2 zbm delAll effD St.effS zcM za6 zaY zcN za7 za0 zbY zaZ zaS zbZ zcH zbv zbV zbi zbT zbU zaJ mkD zbI zbs zbF zau zcf D.ids Op.operands Call.operands zbx makeIfD makeFuncD typeAssertD zhh zds zdt zgK zcn IntKind.bits zcG List.take_of_length_le List.range_succ
attribute [local irreducible] V G H HD HD2 HD4 zkk RetX zao Eff CallP CallV EndOK Fun Ret FinOK LoopI LoopW EndW
theorem zkz {l : List Tok} (hl : TokOK l) {f p : Nat} (hE : zht l f) (hf : 4 * (l.length - p) ≤ f) {t : Tok} (ht : l[p]? = some t) (hk : ¬ t.kind = 2) (h1 : isB l p [116, 114, 117, 101] = false) (h2 : isB l p [102, 97, 108, 115, 101] = false)
  (h3 : isB l p [109, 105, 110] = false) (h4 : isB l p [109, 97, 120] = true) {i nx : Nat} (hi : i < nx) :
  RetX Tryz.prog 133 [.ptr i 0] [(i, pOb l p)] nx (PPost l i nx zer (zaO l (f + 1) p)) := by
 have hne := zaB hi
 have hp := (List.getElem?_eq_some_iff.1 ht).1
 have hnx := zbW l p t ht hl.len
 have hll := hl.len
 have hp2 := zbf hl h4
 rw [zaO, ht]
 have hh1 := fun nx' (h : nx ≤ nx') => zbg l p [116, 114, 117, 101] i nx' (by omega) hp hl.len
 have hh2 := fun nx' (h : nx ≤ nx') => zbg l p [102, 97, 108, 115, 101] i nx' (by omega) hp hl.len
 have hm1 := zdR l p [109, 105, 110] hp hl.len
 have hm2 := zdR l p [109, 97, 120] hp hl.len
 simp only [hk, h1, h2, h3, h4, if_false, if_true, Bool.false_eq_true, or_true, true_or] at hh1 hh2 hm1 hm2 ⊢
 have hw1 := fun nx' (h : nx ≤ nx') => zeq hl [40] (q := (p + 1)) (i := i) (nx := nx') (by omega) hp2
 cases hr0 : zbu l (p + 1) [[40]] with
 | stop pos e =>
  simp only [hr0] at hw1
  (refine RetX.of_bodyW Tryz.func133 rfl (by simp) fun Γ hn hpan => ?_); simp only [entry, List.zipIdx_cons, List.zipIdx_nil, List.map_cons, List.map_nil, Nat.zero_add, Tryz.ntmps133]
  repeat' (first
  | (refine zaf ?_; simp [hne, hk, del, Nat.add_assoc])
  | (refine zal ?_; simp [hne, hk, del, Nat.add_assoc])
  | (refine ⟨by omega, ?_⟩)
  | (refine zah ?_; simp [hne, hk, del, Nat.add_assoc])
  | (refine zai ?_; simp [hne, hk, del, Nat.add_assoc])
  | (refine zaC ?_; simp [hne, hk, del, Nat.add_assoc])
  | (refine CallP.fE (hnx) (by first | rfl | fail) (by first | (simp [hne, hk, del, Nat.add_assoc]; done) | (simp [hne, hk, del, Nat.add_assoc]; rfl) | fail) ?_; (try simp [hne, hk, del, Nat.add_assoc]))
  | (refine CallP.fE (hm1) (by first | rfl | fail) (by first | (simp [hne, hk, del, Nat.add_assoc]; done) | (simp [hne, hk, del, Nat.add_assoc]; rfl) | fail) ?_; (try simp [hne, hk, del, Nat.add_assoc]))
  | (refine CallP.fE (hm2) (by first | rfl | fail) (by first | (simp [hne, hk, del, Nat.add_assoc]; done) | (simp [hne, hk, del, Nat.add_assoc]; rfl) | fail) ?_; (try simp [hne, hk, del, Nat.add_assoc]))
  | (refine CallP.ok1 (hh1 _ (by first | omega | (simp; done) | (simp; omega) | fail)) (by first | (simp [hne, hk, del, Nat.add_assoc, zaa, getK, zab, zac]; done) | fail) (by rfl) (by rfl) ?_; (try simp [hne, hk, del, Nat.add_assoc]))
  | (refine CallP.ok1 (hh2 _ (by first | omega | (simp; done) | (simp; omega) | fail)) (by first | (simp [hne, hk, del, Nat.add_assoc, zaa, getK, zab, zac]; done) | fail) (by rfl) (by rfl) ?_; (try simp [hne, hk, del, Nat.add_assoc]))
  | (refine CallP.zeb (hw1 _ (by first | omega | (simp; done) | (simp; omega) | fail)) (by first | (simp [hne, hk, del, Nat.add_assoc, zaa, getK, zab, zac]; done) | fail) (by rfl) (by first | assumption | (simp; done) | fail) (by rfl) (by simp) ?_; rintro ob' ⟨q', rfl⟩; refine ⟨_, Wk.refl _, ?_⟩)
  | (refine zaq (by first | rfl | fail) ?_; simp [hne, hk, del, Nat.add_assoc, frzN, frz1, zay, zax, St.frz, St.frzS, frzS, fv, zaz, za5, za8, zaF, zat, zaj, del, frz, za9])
  | fail)
  (refine hpan _ _ ⟨{ n := _, env := [], obs := [(i, pOb l q')], next := nx }, (Wk.cut rfl (by simp [hn]) (by simp [wkO, zaa, getK, zab, zac, Ob.under, D.under, zad, zae, hi, hne, zab, zac, zaa, getK]) (by simp [wkU, zan, zaa, getK, D.under, hi, hne, zab, zac, zaa, getK]) (by simp [wkE, zan, zaa, getK, hi, hne, zab, zac, zaa, getK])), by simp [hn], ?_⟩; try simp)
  exact PPost.zaw (by simp [PR.bind, *])
 | ok v0 q0 =>
  simp only [hr0] at hw1
  obtain ⟨g0a, g0b⟩ := za1 hl _ hr0 hp2
  have ha := fun nx' (h : nx ≤ nx') => hE q0 0 i nx' (by omega) g0b (by omega) (by omega) (by omega)
  cases hr1 : zc6 l f q0 0 with
  | stop pos e =>
   simp only [hr1] at ha
   (refine RetX.of_bodyW Tryz.func133 rfl (by simp) fun Γ hn hpan => ?_); simp only [entry, List.zipIdx_cons, List.zipIdx_nil, List.map_cons, List.map_nil, Nat.zero_add, Tryz.ntmps133]
   repeat' (first
  | (refine zaf ?_; simp [hne, hk, del, Nat.add_assoc])
  | (refine zal ?_; simp [hne, hk, del, Nat.add_assoc])
  | (refine ⟨by omega, ?_⟩)
  | (refine zah ?_; simp [hne, hk, del, Nat.add_assoc])
  | (refine zai ?_; simp [hne, hk, del, Nat.add_assoc])
  | (refine zaC ?_; simp [hne, hk, del, Nat.add_assoc])
  | (refine CallP.fE (hnx) (by first | rfl | fail) (by first | (simp [hne, hk, del, Nat.add_assoc]; done) | (simp [hne, hk, del, Nat.add_assoc]; rfl) | fail) ?_; (try simp [hne, hk, del, Nat.add_assoc]))
  | (refine CallP.fE (hm1) (by first | rfl | fail) (by first | (simp [hne, hk, del, Nat.add_assoc]; done) | (simp [hne, hk, del, Nat.add_assoc]; rfl) | fail) ?_; (try simp [hne, hk, del, Nat.add_assoc]))
  | (refine CallP.fE (hm2) (by first | rfl | fail) (by first | (simp [hne, hk, del, Nat.add_assoc]; done) | (simp [hne, hk, del, Nat.add_assoc]; rfl) | fail) ?_; (try simp [hne, hk, del, Nat.add_assoc]))
  | (refine CallP.ok1 (hh1 _ (by first | omega | (simp; done) | (simp; omega) | fail)) (by first | (simp [hne, hk, del, Nat.add_assoc, zaa, getK, zab, zac]; done) | fail) (by rfl) (by rfl) ?_; (try simp [hne, hk, del, Nat.add_assoc]))
  | (refine CallP.ok1 (hh2 _ (by first | omega | (simp; done) | (simp; omega) | fail)) (by first | (simp [hne, hk, del, Nat.add_assoc, zaa, getK, zab, zac]; done) | fail) (by rfl) (by rfl) ?_; (try simp [hne, hk, del, Nat.add_assoc]))
  | (refine CallP.ok1 (hw1 _ (by first | omega | (simp; done) | (simp; omega) | fail)) (by first | (simp [hne, hk, del, Nat.add_assoc, zaa, getK, zab, zac]; done) | fail) (by rfl) (by rfl) ?_; (try simp [hne, hk, del, Nat.add_assoc]))
  | (refine CallP.zeb (ha _ (by first | omega | (simp; done) | (simp; omega) | fail)) (by first | (simp [hne, hk, del, Nat.add_assoc, zaa, getK, zab, zac]; done) | fail) (by rfl) (by first | assumption | (simp; done) | fail) (by rfl) (by simp) ?_; rintro ob' ⟨q', rfl⟩; refine ⟨_, Wk.refl _, ?_⟩)
  | (refine zaq (by first | rfl | fail) ?_; simp [hne, hk, del, Nat.add_assoc, frzN, frz1, zay, zax, St.frz, St.frzS, frzS, fv, zaz, za5, za8, zaF, zat, zaj, del, frz, za9])
  | fail)
   (refine hpan _ _ ⟨{ n := _, env := [], obs := [(i, pOb l q')], next := nx }, (Wk.cut rfl (by simp [hn]) (by simp [wkO, zaa, getK, zab, zac, Ob.under, D.under, zad, zae, hi, hne, zab, zac, zaa, getK]) (by simp [wkU, zan, zaa, getK, D.under, hi, hne, zab, zac, zaa, getK]) (by simp [wkE, zan, zaa, getK, hi, hne, zab, zac, zaa, getK])), by simp [hn], ?_⟩; try simp)
   exact PPost.zaw (by simp [PR.bind, *])
  | ok v1 q1 =>
   have ha := fun nx' h => zcY (ha nx' h) hr1
   obtain ⟨g1a, g1b⟩ := (zb2 hl f).1 _ _ _ _ hr1 g0b
   have hw2 := fun nx' (h : nx ≤ nx') => zeq hl [44] (q := q1) (i := i) (nx := nx') (by omega) g1b
   cases hr2 : zbu l q1 [[44]] with
   | stop pos e =>
    simp only [hr2] at hw2
    (refine RetX.of_bodyW Tryz.func133 rfl (by simp) fun Γ hn hpan => ?_); simp only [entry, List.zipIdx_cons, List.zipIdx_nil, List.map_cons, List.map_nil, Nat.zero_add, Tryz.ntmps133]
    repeat' (first
  | (refine zaf ?_; simp [hne, hk, del, Nat.add_assoc])
  | (refine zal ?_; simp [hne, hk, del, Nat.add_assoc])
  | (refine ⟨by omega, ?_⟩)
  | (refine zah ?_; simp [hne, hk, del, Nat.add_assoc])
  | (refine zai ?_; simp [hne, hk, del, Nat.add_assoc])
  | (refine zaC ?_; simp [hne, hk, del, Nat.add_assoc])
  | (refine CallP.fE (hnx) (by first | rfl | fail) (by first | (simp [hne, hk, del, Nat.add_assoc]; done) | (simp [hne, hk, del, Nat.add_assoc]; rfl) | fail) ?_; (try simp [hne, hk, del, Nat.add_assoc]))
  | (refine CallP.fE (hm1) (by first | rfl | fail) (by first | (simp [hne, hk, del, Nat.add_assoc]; done) | (simp [hne, hk, del, Nat.add_assoc]; rfl) | fail) ?_; (try simp [hne, hk, del, Nat.add_assoc]))
  | (refine CallP.fE (hm2) (by first | rfl | fail) (by first | (simp [hne, hk, del, Nat.add_assoc]; done) | (simp [hne, hk, del, Nat.add_assoc]; rfl) | fail) ?_; (try simp [hne, hk, del, Nat.add_assoc]))
  | (refine CallP.ok1 (hh1 _ (by first | omega | (simp; done) | (simp; omega) | fail)) (by first | (simp [hne, hk, del, Nat.add_assoc, zaa, getK, zab, zac]; done) | fail) (by rfl) (by rfl) ?_; (try simp [hne, hk, del, Nat.add_assoc]))
  | (refine CallP.ok1 (hh2 _ (by first | omega | (simp; done) | (simp; omega) | fail)) (by first | (simp [hne, hk, del, Nat.add_assoc, zaa, getK, zab, zac]; done) | fail) (by rfl) (by rfl) ?_; (try simp [hne, hk, del, Nat.add_assoc]))
  | (refine CallP.ok1 (hw1 _ (by first | omega | (simp; done) | (simp; omega) | fail)) (by first | (simp [hne, hk, del, Nat.add_assoc, zaa, getK, zab, zac]; done) | fail) (by rfl) (by rfl) ?_; (try simp [hne, hk, del, Nat.add_assoc]))
  | (refine CallP.ok1 (ha _ (by first | omega | (simp; done) | (simp; omega) | fail)) (by first | (simp [hne, hk, del, Nat.add_assoc, zaa, getK, zab, zac]; done) | fail) (by rfl) (by rfl) ?_; (try simp [hne, hk, del, Nat.add_assoc]))
  | (refine CallP.zeb (hw2 _ (by first | omega | (simp; done) | (simp; omega) | fail)) (by first | (simp [hne, hk, del, Nat.add_assoc, zaa, getK, zab, zac]; done) | fail) (by rfl) (by first | assumption | (simp; done) | fail) (by rfl) (by simp) ?_; rintro ob' ⟨q', rfl⟩; refine ⟨_, Wk.refl _, ?_⟩)
  | (refine zaq (by first | rfl | fail) ?_; simp [hne, hk, del, Nat.add_assoc, frzN, frz1, zay, zax, St.frz, St.frzS, frzS, fv, zaz, za5, za8, zaF, zat, zaj, del, frz, za9])
  | fail)
    (refine hpan _ _ ⟨{ n := _, env := [], obs := [(i, pOb l q')], next := nx }, (Wk.cut rfl (by simp [hn]) (by simp [wkO, zaa, getK, zab, zac, Ob.under, D.under, zad, zae, hi, hne, zab, zac, zaa, getK]) (by simp [wkU, zan, zaa, getK, D.under, hi, hne, zab, zac, zaa, getK]) (by simp [wkE, zan, zaa, getK, hi, hne, zab, zac, zaa, getK])), by simp [hn], ?_⟩; try simp)
    exact PPost.zaw (by simp [PR.bind, *])
   | ok v2 q2 =>
    simp only [hr2] at hw2
    obtain ⟨g2a, g2b⟩ := za1 hl _ hr2 g1b
    have hb := fun nx' (h : nx ≤ nx') => hE q2 0 i nx' (by omega) g2b (by omega) (by omega) (by omega)
    cases hr3 : zc6 l f q2 0 with
    | stop pos e =>
     simp only [hr3] at hb
     (refine RetX.of_bodyW Tryz.func133 rfl (by simp) fun Γ hn hpan => ?_); simp only [entry, List.zipIdx_cons, List.zipIdx_nil, List.map_cons, List.map_nil, Nat.zero_add, Tryz.ntmps133]
     repeat' (first
  | (refine zaf ?_; simp [hne, hk, del, Nat.add_assoc])
  | (refine zal ?_; simp [hne, hk, del, Nat.add_assoc])
  | (refine ⟨by omega, ?_⟩)
  | (refine zah ?_; simp [hne, hk, del, Nat.add_assoc])
  | (refine zai ?_; simp [hne, hk, del, Nat.add_assoc])
  | (refine zaC ?_; simp [hne, hk, del, Nat.add_assoc])
  | (refine CallP.fE (hnx) (by first | rfl | fail) (by first | (simp [hne, hk, del, Nat.add_assoc]; done) | (simp [hne, hk, del, Nat.add_assoc]; rfl) | fail) ?_; (try simp [hne, hk, del, Nat.add_assoc]))
  | (refine CallP.fE (hm1) (by first | rfl | fail) (by first | (simp [hne, hk, del, Nat.add_assoc]; done) | (simp [hne, hk, del, Nat.add_assoc]; rfl) | fail) ?_; (try simp [hne, hk, del, Nat.add_assoc]))
  | (refine CallP.fE (hm2) (by first | rfl | fail) (by first | (simp [hne, hk, del, Nat.add_assoc]; done) | (simp [hne, hk, del, Nat.add_assoc]; rfl) | fail) ?_; (try simp [hne, hk, del, Nat.add_assoc]))
  | (refine CallP.ok1 (hh1 _ (by first | omega | (simp; done) | (simp; omega) | fail)) (by first | (simp [hne, hk, del, Nat.add_assoc, zaa, getK, zab, zac]; done) | fail) (by rfl) (by rfl) ?_; (try simp [hne, hk, del, Nat.add_assoc]))
  | (refine CallP.ok1 (hh2 _ (by first | omega | (simp; done) | (simp; omega) | fail)) (by first | (simp [hne, hk, del, Nat.add_assoc, zaa, getK, zab, zac]; done) | fail) (by rfl) (by rfl) ?_; (try simp [hne, hk, del, Nat.add_assoc]))
  | (refine CallP.ok1 (hw1 _ (by first | omega | (simp; done) | (simp; omega) | fail)) (by first | (simp [hne, hk, del, Nat.add_assoc, zaa, getK, zab, zac]; done) | fail) (by rfl) (by rfl) ?_; (try simp [hne, hk, del, Nat.add_assoc]))
  | (refine CallP.ok1 (ha _ (by first | omega | (simp; done) | (simp; omega) | fail)) (by first | (simp [hne, hk, del, Nat.add_assoc, zaa, getK, zab, zac]; done) | fail) (by rfl) (by rfl) ?_; (try simp [hne, hk, del, Nat.add_assoc]))
  | (refine CallP.ok1 (hw2 _ (by first | omega | (simp; done) | (simp; omega) | fail)) (by first | (simp [hne, hk, del, Nat.add_assoc, zaa, getK, zab, zac]; done) | fail) (by rfl) (by rfl) ?_; (try simp [hne, hk, del, Nat.add_assoc]))
  | (refine CallP.zeb (hb _ (by first | omega | (simp; done) | (simp; omega) | fail)) (by first | (simp [hne, hk, del, Nat.add_assoc, zaa, getK, zab, zac]; done) | fail) (by rfl) (by first | assumption | (simp; done) | fail) (by rfl) (by simp) ?_; rintro ob' ⟨q', rfl⟩; refine ⟨_, Wk.refl _, ?_⟩)
  | (refine zaq (by first | rfl | fail) ?_; simp [hne, hk, del, Nat.add_assoc, frzN, frz1, zay, zax, St.frz, St.frzS, frzS, fv, zaz, za5, za8, zaF, zat, zaj, del, frz, za9])
  | fail)
     (refine hpan _ _ ⟨{ n := _, env := [], obs := [(i, pOb l q')], next := nx }, (Wk.cut rfl (by simp [hn]) (by simp [wkO, zaa, getK, zab, zac, Ob.under, D.under, zad, zae, hi, hne, zab, zac, zaa, getK]) (by simp [wkU, zan, zaa, getK, D.under, hi, hne, zab, zac, zaa, getK]) (by simp [wkE, zan, zaa, getK, hi, hne, zab, zac, zaa, getK])), by simp [hn], ?_⟩; try simp)
     exact PPost.zaw (by simp [PR.bind, *])
    | ok v3 q3 =>
     have hb := fun nx' h => zcY (hb nx' h) hr3
     obtain ⟨g3a, g3b⟩ := (zb2 hl f).1 _ _ _ _ hr3 g2b
     have hw3 := fun nx' (h : nx ≤ nx') => zeq hl [41] (q := q3) (i := i) (nx := nx') (by omega) g3b
     cases hr4 : zbu l q3 [[41]] with
     | stop pos e =>
      simp only [hr4] at hw3
      (refine RetX.of_bodyW Tryz.func133 rfl (by simp) fun Γ hn hpan => ?_); simp only [entry, List.zipIdx_cons, List.zipIdx_nil, List.map_cons, List.map_nil, Nat.zero_add, Tryz.ntmps133]
      repeat' (first
  | (refine zaf ?_; simp [hne, hk, del, Nat.add_assoc])
  | (refine zal ?_; simp [hne, hk, del, Nat.add_assoc])
  | (refine ⟨by omega, ?_⟩)
  | (refine zah ?_; simp [hne, hk, del, Nat.add_assoc])
  | (refine zai ?_; simp [hne, hk, del, Nat.add_assoc])
  | (refine zaC ?_; simp [hne, hk, del, Nat.add_assoc])
  | (refine CallP.fE (hnx) (by first | rfl | fail) (by first | (simp [hne, hk, del, Nat.add_assoc]; done) | (simp [hne, hk, del, Nat.add_assoc]; rfl) | fail) ?_; (try simp [hne, hk, del, Nat.add_assoc]))
  | (refine CallP.fE (hm1) (by first | rfl | fail) (by first | (simp [hne, hk, del, Nat.add_assoc]; done) | (simp [hne, hk, del, Nat.add_assoc]; rfl) | fail) ?_; (try simp [hne, hk, del, Nat.add_assoc]))
  | (refine CallP.fE (hm2) (by first | rfl | fail) (by first | (simp [hne, hk, del, Nat.add_assoc]; done) | (simp [hne, hk, del, Nat.add_assoc]; rfl) | fail) ?_; (try simp [hne, hk, del, Nat.add_assoc]))
  | (refine CallP.ok1 (hh1 _ (by first | omega | (simp; done) | (simp; omega) | fail)) (by first | (simp [hne, hk, del, Nat.add_assoc, zaa, getK, zab, zac]; done) | fail) (by rfl) (by rfl) ?_; (try simp [hne, hk, del, Nat.add_assoc]))
  | (refine CallP.ok1 (hh2 _ (by first | omega | (simp; done) | (simp; omega) | fail)) (by first | (simp [hne, hk, del, Nat.add_assoc, zaa, getK, zab, zac]; done) | fail) (by rfl) (by rfl) ?_; (try simp [hne, hk, del, Nat.add_assoc]))
  | (refine CallP.ok1 (hw1 _ (by first | omega | (simp; done) | (simp; omega) | fail)) (by first | (simp [hne, hk, del, Nat.add_assoc, zaa, getK, zab, zac]; done) | fail) (by rfl) (by rfl) ?_; (try simp [hne, hk, del, Nat.add_assoc]))
  | (refine CallP.ok1 (ha _ (by first | omega | (simp; done) | (simp; omega) | fail)) (by first | (simp [hne, hk, del, Nat.add_assoc, zaa, getK, zab, zac]; done) | fail) (by rfl) (by rfl) ?_; (try simp [hne, hk, del, Nat.add_assoc]))
  | (refine CallP.ok1 (hw2 _ (by first | omega | (simp; done) | (simp; omega) | fail)) (by first | (simp [hne, hk, del, Nat.add_assoc, zaa, getK, zab, zac]; done) | fail) (by rfl) (by rfl) ?_; (try simp [hne, hk, del, Nat.add_assoc]))
  | (refine CallP.ok1 (hb _ (by first | omega | (simp; done) | (simp; omega) | fail)) (by first | (simp [hne, hk, del, Nat.add_assoc, zaa, getK, zab, zac]; done) | fail) (by rfl) (by rfl) ?_; (try simp [hne, hk, del, Nat.add_assoc]))
  | (refine CallP.zeb (hw3 _ (by first | omega | (simp; done) | (simp; omega) | fail)) (by first | (simp [hne, hk, del, Nat.add_assoc, zaa, getK, zab, zac]; done) | fail) (by rfl) (by first | assumption | (simp; done) | fail) (by rfl) (by simp) ?_; rintro ob' ⟨q', rfl⟩; refine ⟨_, Wk.refl _, ?_⟩)
  | (refine zaq (by first | rfl | fail) ?_; simp [hne, hk, del, Nat.add_assoc, frzN, frz1, zay, zax, St.frz, St.frzS, frzS, fv, zaz, za5, za8, zaF, zat, zaj, del, frz, za9])
  | fail)
      (refine hpan _ _ ⟨{ n := _, env := [], obs := [(i, pOb l q')], next := nx }, (Wk.cut rfl (by simp [hn]) (by simp [wkO, zaa, getK, zab, zac, Ob.under, D.under, zad, zae, hi, hne, zab, zac, zaa, getK]) (by simp [wkU, zan, zaa, getK, D.under, hi, hne, zab, zac, zaa, getK]) (by simp [wkE, zan, zaa, getK, hi, hne, zab, zac, zaa, getK])), by simp [hn], ?_⟩; try simp)
      exact PPost.zaw (by simp [PR.bind, *])
     | ok v4 q4 =>
      simp only [hr4] at hw3
      obtain ⟨g4a, g4b⟩ := za1 hl _ hr4 g3b
      (refine RetX.of_bodyW Tryz.func133 rfl (by simp) fun Γ hn hpan => ?_); simp only [entry, List.zipIdx_cons, List.zipIdx_nil, List.map_cons, List.map_nil, Nat.zero_add, Tryz.ntmps133]
      repeat' (first
  | (refine zaf ?_; simp [hne, hk, del, Nat.add_assoc])
  | (refine zal ?_; simp [hne, hk, del, Nat.add_assoc])
  | (refine ⟨by omega, ?_⟩)
  | (refine zah ?_; simp [hne, hk, del, Nat.add_assoc])
  | (refine zai ?_; simp [hne, hk, del, Nat.add_assoc])
  | (refine zaC ?_; simp [hne, hk, del, Nat.add_assoc])
  | (refine zar ?_; simp only [zao])
  | (refine CallP.fE (hnx) (by first | rfl | fail) (by first | (simp [hne, hk, del, Nat.add_assoc]; done) | (simp [hne, hk, del, Nat.add_assoc]; rfl) | fail) ?_; (try simp [hne, hk, del, Nat.add_assoc]))
  | (refine CallP.fE (hm1) (by first | rfl | fail) (by first | (simp [hne, hk, del, Nat.add_assoc]; done) | (simp [hne, hk, del, Nat.add_assoc]; rfl) | fail) ?_; (try simp [hne, hk, del, Nat.add_assoc]))
  | (refine CallP.fE (hm2) (by first | rfl | fail) (by first | (simp [hne, hk, del, Nat.add_assoc]; done) | (simp [hne, hk, del, Nat.add_assoc]; rfl) | fail) ?_; (try simp [hne, hk, del, Nat.add_assoc]))
  | (refine CallP.ok1 (hh1 _ (by first | omega | (simp; done) | (simp; omega) | fail)) (by first | (simp [hne, hk, del, Nat.add_assoc, zaa, getK, zab, zac]; done) | fail) (by rfl) (by rfl) ?_; (try simp [hne, hk, del, Nat.add_assoc]))
  | (refine CallP.ok1 (hh2 _ (by first | omega | (simp; done) | (simp; omega) | fail)) (by first | (simp [hne, hk, del, Nat.add_assoc, zaa, getK, zab, zac]; done) | fail) (by rfl) (by rfl) ?_; (try simp [hne, hk, del, Nat.add_assoc]))
  | (refine CallP.ok1 (hw1 _ (by first | omega | (simp; done) | (simp; omega) | fail)) (by first | (simp [hne, hk, del, Nat.add_assoc, zaa, getK, zab, zac]; done) | fail) (by rfl) (by rfl) ?_; (try simp [hne, hk, del, Nat.add_assoc]))
  | (refine CallP.ok1 (ha _ (by first | omega | (simp; done) | (simp; omega) | fail)) (by first | (simp [hne, hk, del, Nat.add_assoc, zaa, getK, zab, zac]; done) | fail) (by rfl) (by rfl) ?_; (try simp [hne, hk, del, Nat.add_assoc]))
  | (refine CallP.ok1 (hw2 _ (by first | omega | (simp; done) | (simp; omega) | fail)) (by first | (simp [hne, hk, del, Nat.add_assoc, zaa, getK, zab, zac]; done) | fail) (by rfl) (by rfl) ?_; (try simp [hne, hk, del, Nat.add_assoc]))
  | (refine CallP.ok1 (hb _ (by first | omega | (simp; done) | (simp; omega) | fail)) (by first | (simp [hne, hk, del, Nat.add_assoc, zaa, getK, zab, zac]; done) | fail) (by rfl) (by rfl) ?_; (try simp [hne, hk, del, Nat.add_assoc]))
  | (refine CallP.ok1 (hw3 _ (by first | omega | (simp; done) | (simp; omega) | fail)) (by first | (simp [hne, hk, del, Nat.add_assoc, zaa, getK, zab, zac]; done) | fail) (by rfl) (by rfl) ?_; (try simp [hne, hk, del, Nat.add_assoc]))
  | (refine zaq (by first | rfl | fail) ?_; simp [hne, hk, del, Nat.add_assoc, frzN, frz1, zay, zax, St.frz, St.frzS, frzS, fv, zaz, za5, za8, zaF, zat, zaj, del, frz, za9])
  | fail)
      (refine EndW.frzN 1 ?_; simp [frzN, frz1, zay, zax, St.frz, St.frzS, frzS, fv, zaz, za5, za8, zaF, zat, zaj, del, frz, za9, hne, Nat.add_assoc])
      refine EndW.norm ?_
      simp [St.norm, zbl, zb8, zcx, zcy, hne, Nat.add_assoc]
      (refine EndW.here ?_; (first | (refine EndOK.fin (.inr rfl) ?_) | (refine EndOK.fin (.inl rfl) ?_)); simp [zaL, zag, Tryz.results133, hne, hi]; refine FinOK.cut [(i, pOb l q4)] (nx) (by simp [zaa, getK, zab, zac, Ob.under, D.under, zad, zae, hne, hi] <;> omega) (by simp [D.under]) (by simp [hn]) ?_; try simp)
      exact PPost.zcw (by simp [PR.bind, *]; rfl) (by simp [Exp.row_eq, Exp.op, Exp.n, Exp.unit, Exp.s, Exp.args]) rfl
theorem zky {l : List Tok} (hl : TokOK l) {f p : Nat} (hE : zht l f) (hf : 4 * (l.length - p) ≤ f) {t : Tok} (ht : l[p]? = some t) (hk : ¬ t.kind = 2) (h1 : isB l p [116, 114, 117, 101] = false) (h2 : isB l p [102, 97, 108, 115, 101] = false)
  (h3 : isB l p [109, 105, 110] = true) (h4 : isB l p [109, 97, 120] = false) {i nx : Nat} (hi : i < nx) :
  RetX Tryz.prog 133 [.ptr i 0] [(i, pOb l p)] nx (PPost l i nx zer (zaO l (f + 1) p)) := by
 have hne := zaB hi
 have hp := (List.getElem?_eq_some_iff.1 ht).1
 have hnx := zbW l p t ht hl.len
 have hll := hl.len
 have hp2 := zbf hl h3
 rw [zaO, ht]
 have hh1 := fun nx' (h : nx ≤ nx') => zbg l p [116, 114, 117, 101] i nx' (by omega) hp hl.len
 have hh2 := fun nx' (h : nx ≤ nx') => zbg l p [102, 97, 108, 115, 101] i nx' (by omega) hp hl.len
 have hm1 := zdR l p [109, 105, 110] hp hl.len
 have hm2 := zdR l p [109, 97, 120] hp hl.len
 simp only [hk, h1, h2, h3, h4, if_false, if_true, Bool.false_eq_true, or_true, true_or] at hh1 hh2 hm1 hm2 ⊢
 have hw1 := fun nx' (h : nx ≤ nx') => zeq hl [40] (q := (p + 1)) (i := i) (nx := nx') (by omega) hp2
 cases hr0 : zbu l (p + 1) [[40]] with
 | stop pos e =>
  simp only [hr0] at hw1
  (refine RetX.of_bodyW Tryz.func133 rfl (by simp) fun Γ hn hpan => ?_); simp only [entry, List.zipIdx_cons, List.zipIdx_nil, List.map_cons, List.map_nil, Nat.zero_add, Tryz.ntmps133]
  repeat' (first
  | (refine zaf ?_; simp [hne, hk, del, Nat.add_assoc])
  | (refine zal ?_; simp [hne, hk, del, Nat.add_assoc])
  | (refine ⟨by omega, ?_⟩)
  | (refine zah ?_; simp [hne, hk, del, Nat.add_assoc])
  | (refine zai ?_; simp [hne, hk, del, Nat.add_assoc])
  | (refine zap ?_; simp only [zao])
  | (refine CallP.fE (hnx) (by first | rfl | fail) (by first | (simp [hne, hk, del, Nat.add_assoc]; done) | (simp [hne, hk, del, Nat.add_assoc]; rfl) | fail) ?_; (try simp [hne, hk, del, Nat.add_assoc]))
  | (refine CallP.fE (hm1) (by first | rfl | fail) (by first | (simp [hne, hk, del, Nat.add_assoc]; done) | (simp [hne, hk, del, Nat.add_assoc]; rfl) | fail) ?_; (try simp [hne, hk, del, Nat.add_assoc]))
  | (refine CallP.fE (hm2) (by first | rfl | fail) (by first | (simp [hne, hk, del, Nat.add_assoc]; done) | (simp [hne, hk, del, Nat.add_assoc]; rfl) | fail) ?_; (try simp [hne, hk, del, Nat.add_assoc]))
  | (refine CallP.ok1 (hh1 _ (by first | omega | (simp; done) | (simp; omega) | fail)) (by first | (simp [hne, hk, del, Nat.add_assoc, zaa, getK, zab, zac]; done) | fail) (by rfl) (by rfl) ?_; (try simp [hne, hk, del, Nat.add_assoc]))
  | (refine CallP.ok1 (hh2 _ (by first | omega | (simp; done) | (simp; omega) | fail)) (by first | (simp [hne, hk, del, Nat.add_assoc, zaa, getK, zab, zac]; done) | fail) (by rfl) (by rfl) ?_; (try simp [hne, hk, del, Nat.add_assoc]))
  | (refine CallP.zeb (hw1 _ (by first | omega | (simp; done) | (simp; omega) | fail)) (by first | (simp [hne, hk, del, Nat.add_assoc, zaa, getK, zab, zac]; done) | fail) (by rfl) (by first | assumption | (simp; done) | fail) (by rfl) (by simp) ?_; rintro ob' ⟨q', rfl⟩; refine ⟨_, Wk.refl _, ?_⟩)
  | (refine zaq (by first | rfl | fail) ?_; simp [hne, hk, del, Nat.add_assoc, frzN, frz1, zay, zax, St.frz, St.frzS, frzS, fv, zaz, za5, za8, zaF, zat, zaj, del, frz, za9])
  | fail)
  (refine hpan _ _ ⟨{ n := _, env := [], obs := [(i, pOb l q')], next := nx }, (Wk.cut rfl (by simp [hn]) (by simp [wkO, zaa, getK, zab, zac, Ob.under, D.under, zad, zae, hi, hne, zab, zac, zaa, getK]) (by simp [wkU, zan, zaa, getK, D.under, hi, hne, zab, zac, zaa, getK]) (by simp [wkE, zan, zaa, getK, hi, hne, zab, zac, zaa, getK])), by simp [hn], ?_⟩; try simp)
  exact PPost.zaw (by simp [PR.bind, *])
 | ok v0 q0 =>
  simp only [hr0] at hw1
  obtain ⟨g0a, g0b⟩ := za1 hl _ hr0 hp2
  have ha := fun nx' (h : nx ≤ nx') => hE q0 0 i nx' (by omega) g0b (by omega) (by omega) (by omega)
  cases hr1 : zc6 l f q0 0 with
  | stop pos e =>
   simp only [hr1] at ha
   (refine RetX.of_bodyW Tryz.func133 rfl (by simp) fun Γ hn hpan => ?_); simp only [entry, List.zipIdx_cons, List.zipIdx_nil, List.map_cons, List.map_nil, Nat.zero_add, Tryz.ntmps133]
   repeat' (first
  | (refine zaf ?_; simp [hne, hk, del, Nat.add_assoc])
  | (refine zal ?_; simp [hne, hk, del, Nat.add_assoc])
  | (refine ⟨by omega, ?_⟩)
  | (refine zah ?_; simp [hne, hk, del, Nat.add_assoc])
  | (refine zai ?_; simp [hne, hk, del, Nat.add_assoc])
  | (refine zap ?_; simp only [zao])
  | (refine CallP.fE (hnx) (by first | rfl | fail) (by first | (simp [hne, hk, del, Nat.add_assoc]; done) | (simp [hne, hk, del, Nat.add_assoc]; rfl) | fail) ?_; (try simp [hne, hk, del, Nat.add_assoc]))
  | (refine CallP.fE (hm1) (by first | rfl | fail) (by first | (simp [hne, hk, del, Nat.add_assoc]; done) | (simp [hne, hk, del, Nat.add_assoc]; rfl) | fail) ?_; (try simp [hne, hk, del, Nat.add_assoc]))
  | (refine CallP.fE (hm2) (by first | rfl | fail) (by first | (simp [hne, hk, del, Nat.add_assoc]; done) | (simp [hne, hk, del, Nat.add_assoc]; rfl) | fail) ?_; (try simp [hne, hk, del, Nat.add_assoc]))
  | (refine CallP.ok1 (hh1 _ (by first | omega | (simp; done) | (simp; omega) | fail)) (by first | (simp [hne, hk, del, Nat.add_assoc, zaa, getK, zab, zac]; done) | fail) (by rfl) (by rfl) ?_; (try simp [hne, hk, del, Nat.add_assoc]))
  | (refine CallP.ok1 (hh2 _ (by first | omega | (simp; done) | (simp; omega) | fail)) (by first | (simp [hne, hk, del, Nat.add_assoc, zaa, getK, zab, zac]; done) | fail) (by rfl) (by rfl) ?_; (try simp [hne, hk, del, Nat.add_assoc]))
  | (refine CallP.ok1 (hw1 _ (by first | omega | (simp; done) | (simp; omega) | fail)) (by first | (simp [hne, hk, del, Nat.add_assoc, zaa, getK, zab, zac]; done) | fail) (by rfl) (by rfl) ?_; (try simp [hne, hk, del, Nat.add_assoc]))
  | (refine CallP.zeb (ha _ (by first | omega | (simp; done) | (simp; omega) | fail)) (by first | (simp [hne, hk, del, Nat.add_assoc, zaa, getK, zab, zac]; done) | fail) (by rfl) (by first | assumption | (simp; done) | fail) (by rfl) (by simp) ?_; rintro ob' ⟨q', rfl⟩; refine ⟨_, Wk.refl _, ?_⟩)
  | (refine zaq (by first | rfl | fail) ?_; simp [hne, hk, del, Nat.add_assoc, frzN, frz1, zay, zax, St.frz, St.frzS, frzS, fv, zaz, za5, za8, zaF, zat, zaj, del, frz, za9])
  | fail)
   (refine hpan _ _ ⟨{ n := _, env := [], obs := [(i, pOb l q')], next := nx }, (Wk.cut rfl (by simp [hn]) (by simp [wkO, zaa, getK, zab, zac, Ob.under, D.under, zad, zae, hi, hne, zab, zac, zaa, getK]) (by simp [wkU, zan, zaa, getK, D.under, hi, hne, zab, zac, zaa, getK]) (by simp [wkE, zan, zaa, getK, hi, hne, zab, zac, zaa, getK])), by simp [hn], ?_⟩; try simp)
   exact PPost.zaw (by simp [PR.bind, *])
  | ok v1 q1 =>
   have ha := fun nx' h => zcY (ha nx' h) hr1
   obtain ⟨g1a, g1b⟩ := (zb2 hl f).1 _ _ _ _ hr1 g0b
   have hw2 := fun nx' (h : nx ≤ nx') => zeq hl [44] (q := q1) (i := i) (nx := nx') (by omega) g1b
   cases hr2 : zbu l q1 [[44]] with
   | stop pos e =>
    simp only [hr2] at hw2
    (refine RetX.of_bodyW Tryz.func133 rfl (by simp) fun Γ hn hpan => ?_); simp only [entry, List.zipIdx_cons, List.zipIdx_nil, List.map_cons, List.map_nil, Nat.zero_add, Tryz.ntmps133]
    repeat' (first
  | (refine zaf ?_; simp [hne, hk, del, Nat.add_assoc])
  | (refine zal ?_; simp [hne, hk, del, Nat.add_assoc])
  | (refine ⟨by omega, ?_⟩)
  | (refine zah ?_; simp [hne, hk, del, Nat.add_assoc])
  | (refine zai ?_; simp [hne, hk, del, Nat.add_assoc])
  | (refine zap ?_; simp only [zao])
  | (refine CallP.fE (hnx) (by first | rfl | fail) (by first | (simp [hne, hk, del, Nat.add_assoc]; done) | (simp [hne, hk, del, Nat.add_assoc]; rfl) | fail) ?_; (try simp [hne, hk, del, Nat.add_assoc]))
  | (refine CallP.fE (hm1) (by first | rfl | fail) (by first | (simp [hne, hk, del, Nat.add_assoc]; done) | (simp [hne, hk, del, Nat.add_assoc]; rfl) | fail) ?_; (try simp [hne, hk, del, Nat.add_assoc]))
  | (refine CallP.fE (hm2) (by first | rfl | fail) (by first | (simp [hne, hk, del, Nat.add_assoc]; done) | (simp [hne, hk, del, Nat.add_assoc]; rfl) | fail) ?_; (try simp [hne, hk, del, Nat.add_assoc]))
  | (refine CallP.ok1 (hh1 _ (by first | omega | (simp; done) | (simp; omega) | fail)) (by first | (simp [hne, hk, del, Nat.add_assoc, zaa, getK, zab, zac]; done) | fail) (by rfl) (by rfl) ?_; (try simp [hne, hk, del, Nat.add_assoc]))
  | (refine CallP.ok1 (hh2 _ (by first | omega | (simp; done) | (simp; omega) | fail)) (by first | (simp [hne, hk, del, Nat.add_assoc, zaa, getK, zab, zac]; done) | fail) (by rfl) (by rfl) ?_; (try simp [hne, hk, del, Nat.add_assoc]))
  | (refine CallP.ok1 (hw1 _ (by first | omega | (simp; done) | (simp; omega) | fail)) (by first | (simp [hne, hk, del, Nat.add_assoc, zaa, getK, zab, zac]; done) | fail) (by rfl) (by rfl) ?_; (try simp [hne, hk, del, Nat.add_assoc]))
  | (refine CallP.ok1 (ha _ (by first | omega | (simp; done) | (simp; omega) | fail)) (by first | (simp [hne, hk, del, Nat.add_assoc, zaa, getK, zab, zac]; done) | fail) (by rfl) (by rfl) ?_; (try simp [hne, hk, del, Nat.add_assoc]))
  | (refine CallP.zeb (hw2 _ (by first | omega | (simp; done) | (simp; omega) | fail)) (by first | (simp [hne, hk, del, Nat.add_assoc, zaa, getK, zab, zac]; done) | fail) (by rfl) (by first | assumption | (simp; done) | fail) (by rfl) (by simp) ?_; rintro ob' ⟨q', rfl⟩; refine ⟨_, Wk.refl _, ?_⟩)
  | (refine zaq (by first | rfl | fail) ?_; simp [hne, hk, del, Nat.add_assoc, frzN, frz1, zay, zax, St.frz, St.frzS, frzS, fv, zaz, za5, za8, zaF, zat, zaj, del, frz, za9])
  | fail)
    (refine hpan _ _ ⟨{ n := _, env := [], obs := [(i, pOb l q')], next := nx }, (Wk.cut rfl (by simp [hn]) (by simp [wkO, zaa, getK, zab, zac, Ob.under, D.under, zad, zae, hi, hne, zab, zac, zaa, getK]) (by simp [wkU, zan, zaa, getK, D.under, hi, hne, zab, zac, zaa, getK]) (by simp [wkE, zan, zaa, getK, hi, hne, zab, zac, zaa, getK])), by simp [hn], ?_⟩; try simp)
    exact PPost.zaw (by simp [PR.bind, *])
   | ok v2 q2 =>
    simp only [hr2] at hw2
    obtain ⟨g2a, g2b⟩ := za1 hl _ hr2 g1b
    have hb := fun nx' (h : nx ≤ nx') => hE q2 0 i nx' (by omega) g2b (by omega) (by omega) (by omega)
    cases hr3 : zc6 l f q2 0 with
    | stop pos e =>
     simp only [hr3] at hb
     (refine RetX.of_bodyW Tryz.func133 rfl (by simp) fun Γ hn hpan => ?_); simp only [entry, List.zipIdx_cons, List.zipIdx_nil, List.map_cons, List.map_nil, Nat.zero_add, Tryz.ntmps133]
     repeat' (first
  | (refine zaf ?_; simp [hne, hk, del, Nat.add_assoc])
  | (refine zal ?_; simp [hne, hk, del, Nat.add_assoc])
  | (refine ⟨by omega, ?_⟩)
  | (refine zah ?_; simp [hne, hk, del, Nat.add_assoc])
  | (refine zai ?_; simp [hne, hk, del, Nat.add_assoc])
  | (refine zap ?_; simp only [zao])
  | (refine CallP.fE (hnx) (by first | rfl | fail) (by first | (simp [hne, hk, del, Nat.add_assoc]; done) | (simp [hne, hk, del, Nat.add_assoc]; rfl) | fail) ?_; (try simp [hne, hk, del, Nat.add_assoc]))
  | (refine CallP.fE (hm1) (by first | rfl | fail) (by first | (simp [hne, hk, del, Nat.add_assoc]; done) | (simp [hne, hk, del, Nat.add_assoc]; rfl) | fail) ?_; (try simp [hne, hk, del, Nat.add_assoc]))
  | (refine CallP.fE (hm2) (by first | rfl | fail) (by first | (simp [hne, hk, del, Nat.add_assoc]; done) | (simp [hne, hk, del, Nat.add_assoc]; rfl) | fail) ?_; (try simp [hne, hk, del, Nat.add_assoc]))
  | (refine CallP.ok1 (hh1 _ (by first | omega | (simp; done) | (simp; omega) | fail)) (by first | (simp [hne, hk, del, Nat.add_assoc, zaa, getK, zab, zac]; done) | fail) (by rfl) (by rfl) ?_; (try simp [hne, hk, del, Nat.add_assoc]))
  | (refine CallP.ok1 (hh2 _ (by first | omega | (simp; done) | (simp; omega) | fail)) (by first | (simp [hne, hk, del, Nat.add_assoc, zaa, getK, zab, zac]; done) | fail) (by rfl) (by rfl) ?_; (try simp [hne, hk, del, Nat.add_assoc]))
  | (refine CallP.ok1 (hw1 _ (by first | omega | (simp; done) | (simp; omega) | fail)) (by first | (simp [hne, hk, del, Nat.add_assoc, zaa, getK, zab, zac]; done) | fail) (by rfl) (by rfl) ?_; (try simp [hne, hk, del, Nat.add_assoc]))
  | (refine CallP.ok1 (ha _ (by first | omega | (simp; done) | (simp; omega) | fail)) (by first | (simp [hne, hk, del, Nat.add_assoc, zaa, getK, zab, zac]; done) | fail) (by rfl) (by rfl) ?_; (try simp [hne, hk, del, Nat.add_assoc]))
  | (refine CallP.ok1 (hw2 _ (by first | omega | (simp; done) | (simp; omega) | fail)) (by first | (simp [hne, hk, del, Nat.add_assoc, zaa, getK, zab, zac]; done) | fail) (by rfl) (by rfl) ?_; (try simp [hne, hk, del, Nat.add_assoc]))
  | (refine CallP.zeb (hb _ (by first | omega | (simp; done) | (simp; omega) | fail)) (by first | (simp [hne, hk, del, Nat.add_assoc, zaa, getK, zab, zac]; done) | fail) (by rfl) (by first | assumption | (simp; done) | fail) (by rfl) (by simp) ?_; rintro ob' ⟨q', rfl⟩; refine ⟨_, Wk.refl _, ?_⟩)
  | (refine zaq (by first | rfl | fail) ?_; simp [hne, hk, del, Nat.add_assoc, frzN, frz1, zay, zax, St.frz, St.frzS, frzS, fv, zaz, za5, za8, zaF, zat, zaj, del, frz, za9])
  | fail)
     (refine hpan _ _ ⟨{ n := _, env := [], obs := [(i, pOb l q')], next := nx }, (Wk.cut rfl (by simp [hn]) (by simp [wkO, zaa, getK, zab, zac, Ob.under, D.under, zad, zae, hi, hne, zab, zac, zaa, getK]) (by simp [wkU, zan, zaa, getK, D.under, hi, hne, zab, zac, zaa, getK]) (by simp [wkE, zan, zaa, getK, hi, hne, zab, zac, zaa, getK])), by simp [hn], ?_⟩; try simp)
     exact PPost.zaw (by simp [PR.bind, *])
    | ok v3 q3 =>
     have hb := fun nx' h => zcY (hb nx' h) hr3
     obtain ⟨g3a, g3b⟩ := (zb2 hl f).1 _ _ _ _ hr3 g2b
     have hw3 := fun nx' (h : nx ≤ nx') => zeq hl [41] (q := q3) (i := i) (nx := nx') (by omega) g3b
     cases hr4 : zbu l q3 [[41]] with
     | stop pos e =>
      simp only [hr4] at hw3
      (refine RetX.of_bodyW Tryz.func133 rfl (by simp) fun Γ hn hpan => ?_); simp only [entry, List.zipIdx_cons, List.zipIdx_nil, List.map_cons, List.map_nil, Nat.zero_add, Tryz.ntmps133]
      repeat' (first
  | (refine zaf ?_; simp [hne, hk, del, Nat.add_assoc])
  | (refine zal ?_; simp [hne, hk, del, Nat.add_assoc])
  | (refine ⟨by omega, ?_⟩)
  | (refine zah ?_; simp [hne, hk, del, Nat.add_assoc])
  | (refine zai ?_; simp [hne, hk, del, Nat.add_assoc])
  | (refine zap ?_; simp only [zao])
  | (refine CallP.fE (hnx) (by first | rfl | fail) (by first | (simp [hne, hk, del, Nat.add_assoc]; done) | (simp [hne, hk, del, Nat.add_assoc]; rfl) | fail) ?_; (try simp [hne, hk, del, Nat.add_assoc]))
  | (refine CallP.fE (hm1) (by first | rfl | fail) (by first | (simp [hne, hk, del, Nat.add_assoc]; done) | (simp [hne, hk, del, Nat.add_assoc]; rfl) | fail) ?_; (try simp [hne, hk, del, Nat.add_assoc]))
  | (refine CallP.fE (hm2) (by first | rfl | fail) (by first | (simp [hne, hk, del, Nat.add_assoc]; done) | (simp [hne, hk, del, Nat.add_assoc]; rfl) | fail) ?_; (try simp [hne, hk, del, Nat.add_assoc]))
  | (refine CallP.ok1 (hh1 _ (by first | omega | (simp; done) | (simp; omega) | fail)) (by first | (simp [hne, hk, del, Nat.add_assoc, zaa, getK, zab, zac]; done) | fail) (by rfl) (by rfl) ?_; (try simp [hne, hk, del, Nat.add_assoc]))
  | (refine CallP.ok1 (hh2 _ (by first | omega | (simp; done) | (simp; omega) | fail)) (by first | (simp [hne, hk, del, Nat.add_assoc, zaa, getK, zab, zac]; done) | fail) (by rfl) (by rfl) ?_; (try simp [hne, hk, del, Nat.add_assoc]))
  | (refine CallP.ok1 (hw1 _ (by first | omega | (simp; done) | (simp; omega) | fail)) (by first | (simp [hne, hk, del, Nat.add_assoc, zaa, getK, zab, zac]; done) | fail) (by rfl) (by rfl) ?_; (try simp [hne, hk, del, Nat.add_assoc]))
  | (refine CallP.ok1 (ha _ (by first | omega | (simp; done) | (simp; omega) | fail)) (by first | (simp [hne, hk, del, Nat.add_assoc, zaa, getK, zab, zac]; done) | fail) (by rfl) (by rfl) ?_; (try simp [hne, hk, del, Nat.add_assoc]))
  | (refine CallP.ok1 (hw2 _ (by first | omega | (simp; done) | (simp; omega) | fail)) (by first | (simp [hne, hk, del, Nat.add_assoc, zaa, getK, zab, zac]; done) | fail) (by rfl) (by rfl) ?_; (try simp [hne, hk, del, Nat.add_assoc]))
  | (refine CallP.ok1 (hb _ (by first | omega | (simp; done) | (simp; omega) | fail)) (by first | (simp [hne, hk, del, Nat.add_assoc, zaa, getK, zab, zac]; done) | fail) (by rfl) (by rfl) ?_; (try simp [hne, hk, del, Nat.add_assoc]))
  | (refine CallP.zeb (hw3 _ (by first | omega | (simp; done) | (simp; omega) | fail)) (by first | (simp [hne, hk, del, Nat.add_assoc, zaa, getK, zab, zac]; done) | fail) (by rfl) (by first | assumption | (simp; done) | fail) (by rfl) (by simp) ?_; rintro ob' ⟨q', rfl⟩; refine ⟨_, Wk.refl _, ?_⟩)
  | (refine zaq (by first | rfl | fail) ?_; simp [hne, hk, del, Nat.add_assoc, frzN, frz1, zay, zax, St.frz, St.frzS, frzS, fv, zaz, za5, za8, zaF, zat, zaj, del, frz, za9])
  | fail)
      (refine hpan _ _ ⟨{ n := _, env := [], obs := [(i, pOb l q')], next := nx }, (Wk.cut rfl (by simp [hn]) (by simp [wkO, zaa, getK, zab, zac, Ob.under, D.under, zad, zae, hi, hne, zab, zac, zaa, getK]) (by simp [wkU, zan, zaa, getK, D.under, hi, hne, zab, zac, zaa, getK]) (by simp [wkE, zan, zaa, getK, hi, hne, zab, zac, zaa, getK])), by simp [hn], ?_⟩; try simp)
      exact PPost.zaw (by simp [PR.bind, *])
     | ok v4 q4 =>
      simp only [hr4] at hw3
      obtain ⟨g4a, g4b⟩ := za1 hl _ hr4 g3b
      (refine RetX.of_bodyW Tryz.func133 rfl (by simp) fun Γ hn hpan => ?_); simp only [entry, List.zipIdx_cons, List.zipIdx_nil, List.map_cons, List.map_nil, Nat.zero_add, Tryz.ntmps133]
      repeat' (first
  | (refine zaf ?_; simp [hne, hk, del, Nat.add_assoc])
  | (refine zal ?_; simp [hne, hk, del, Nat.add_assoc])
  | (refine ⟨by omega, ?_⟩)
  | (refine zah ?_; simp [hne, hk, del, Nat.add_assoc])
  | (refine zai ?_; simp [hne, hk, del, Nat.add_assoc])
  | (refine zar ?_; simp only [zao])
  | (refine zap ?_; simp only [zao])
  | (refine CallP.fE (hnx) (by first | rfl | fail) (by first | (simp [hne, hk, del, Nat.add_assoc]; done) | (simp [hne, hk, del, Nat.add_assoc]; rfl) | fail) ?_; (try simp [hne, hk, del, Nat.add_assoc]))
  | (refine CallP.fE (hm1) (by first | rfl | fail) (by first | (simp [hne, hk, del, Nat.add_assoc]; done) | (simp [hne, hk, del, Nat.add_assoc]; rfl) | fail) ?_; (try simp [hne, hk, del, Nat.add_assoc]))
  | (refine CallP.fE (hm2) (by first | rfl | fail) (by first | (simp [hne, hk, del, Nat.add_assoc]; done) | (simp [hne, hk, del, Nat.add_assoc]; rfl) | fail) ?_; (try simp [hne, hk, del, Nat.add_assoc]))
  | (refine CallP.ok1 (hh1 _ (by first | omega | (simp; done) | (simp; omega) | fail)) (by first | (simp [hne, hk, del, Nat.add_assoc, zaa, getK, zab, zac]; done) | fail) (by rfl) (by rfl) ?_; (try simp [hne, hk, del, Nat.add_assoc]))
  | (refine CallP.ok1 (hh2 _ (by first | omega | (simp; done) | (simp; omega) | fail)) (by first | (simp [hne, hk, del, Nat.add_assoc, zaa, getK, zab, zac]; done) | fail) (by rfl) (by rfl) ?_; (try simp [hne, hk, del, Nat.add_assoc]))
  | (refine CallP.ok1 (hw1 _ (by first | omega | (simp; done) | (simp; omega) | fail)) (by first | (simp [hne, hk, del, Nat.add_assoc, zaa, getK, zab, zac]; done) | fail) (by rfl) (by rfl) ?_; (try simp [hne, hk, del, Nat.add_assoc]))
  | (refine CallP.ok1 (ha _ (by first | omega | (simp; done) | (simp; omega) | fail)) (by first | (simp [hne, hk, del, Nat.add_assoc, zaa, getK, zab, zac]; done) | fail) (by rfl) (by rfl) ?_; (try simp [hne, hk, del, Nat.add_assoc]))
  | (refine CallP.ok1 (hw2 _ (by first | omega | (simp; done) | (simp; omega) | fail)) (by first | (simp [hne, hk, del, Nat.add_assoc, zaa, getK, zab, zac]; done) | fail) (by rfl) (by rfl) ?_; (try simp [hne, hk, del, Nat.add_assoc]))
  | (refine CallP.ok1 (hb _ (by first | omega | (simp; done) | (simp; omega) | fail)) (by first | (simp [hne, hk, del, Nat.add_assoc, zaa, getK, zab, zac]; done) | fail) (by rfl) (by rfl) ?_; (try simp [hne, hk, del, Nat.add_assoc]))
  | (refine CallP.ok1 (hw3 _ (by first | omega | (simp; done) | (simp; omega) | fail)) (by first | (simp [hne, hk, del, Nat.add_assoc, zaa, getK, zab, zac]; done) | fail) (by rfl) (by rfl) ?_; (try simp [hne, hk, del, Nat.add_assoc]))
  | (refine zaq (by first | rfl | fail) ?_; simp [hne, hk, del, Nat.add_assoc, frzN, frz1, zay, zax, St.frz, St.frzS, frzS, fv, zaz, za5, za8, zaF, zat, zaj, del, frz, za9])
  | fail)
      (refine EndW.frzN 1 ?_; simp [frzN, frz1, zay, zax, St.frz, St.frzS, frzS, fv, zaz, za5, za8, zaF, zat, zaj, del, frz, za9, hne, Nat.add_assoc])
      refine EndW.norm ?_
      simp [St.norm, zbl, zb8, zcx, zcy, hne, Nat.add_assoc]
      (refine EndW.here ?_; (first | (refine EndOK.fin (.inr rfl) ?_) | (refine EndOK.fin (.inl rfl) ?_)); simp [zaL, zag, Tryz.results133, hne, hi]; refine FinOK.cut [(i, pOb l q4)] (nx) (by simp [zaa, getK, zab, zac, Ob.under, D.under, zad, zae, hne, hi] <;> omega) (by simp [D.under]) (by simp [hn]) ?_; try simp)
      exact PPost.zcw (by simp [PR.bind, *]; rfl) (by simp [Exp.row_eq, Exp.op, Exp.n, Exp.unit, Exp.s, Exp.args]) rfl
theorem zjo {l : List Tok} (hl : TokOK l) {f p : Nat} {t : Tok} (ht : l[p]? = some t) (hk : ¬ t.kind = 2) (h1 : isB l p [116, 114, 117, 101] = false) (h2 : isB l p [102, 97, 108, 115, 101] = false)
  (h3 : isB l p [109, 105, 110] = false) (h4 : isB l p [109, 97, 120] = false) (h5 : isB l p [40] = false) {i nx : Nat} (hi : i < nx) :
  RetX Tryz.prog 133 [.ptr i 0] [(i, pOb l p)] nx (PPost l i nx zer (zaO l (f + 1) p)) := by
 have hne := zaB hi
 have hp := (List.getElem?_eq_some_iff.1 ht).1
 have hnx := zbW l p t ht hl.len
 have hll := hl.len
 rw [zaO, ht]
 have hh1 := fun nx' (h : nx ≤ nx') => zbg l p [116, 114, 117, 101] i nx' (by omega) hp hl.len
 have hh2 := fun nx' (h : nx ≤ nx') => zbg l p [102, 97, 108, 115, 101] i nx' (by omega) hp hl.len
 have hm1 := zdR l p [109, 105, 110] hp hl.len
 have hm2 := zdR l p [109, 97, 120] hp hl.len
 have hh3 := fun nx' (h : nx ≤ nx') => zbg l p [40] i nx' (by omega) hp hl.len
 have hnm := zeN t.text
 have hc1 := fun nx' (h : nx ≤ nx') => zdU l p 12 i nx' (by omega)
 have hc2 := fun nx' (h : nx ≤ nx') => zcS l p t 12 i nx' (by omega) ht hl.len
 simp only [hk, h1, h2, h3, h4, h5, if_false, if_true, Bool.false_eq_true, or_self] at hh1 hh2 hm1 hm2 hh3 ⊢
 by_cases hw : t.kind = 1
 ·cases hb : zbD t.text with
  | true =>
   simp only [hb, hw, and_self, if_true] at hnm ⊢
   (refine RetX.of_bodyW Tryz.func133 rfl (by simp) fun Γ hn hpan => ?_); simp only [entry, List.zipIdx_cons, List.zipIdx_nil, List.map_cons, List.map_nil, Nat.zero_add, Tryz.ntmps133]
   repeat' (first
  | (refine zaf ?_; simp [hne, hk, hw, del, Nat.add_assoc])
  | (refine zal ?_; simp [hne, hk, hw, del, Nat.add_assoc])
  | (refine ⟨by omega, ?_⟩)
  | (refine zah ?_; simp [hne, hk, hw, del, Nat.add_assoc])
  | (refine zai ?_; simp [hne, hk, hw, del, Nat.add_assoc])
  | (refine zar ?_; simp only [zao])
  | (refine zap ?_; simp only [zao])
  | (refine CallP.fE (hnx) (by first | rfl | fail) (by first | (simp [hne, hk, hw, del, Nat.add_assoc]; done) | (simp [hne, hk, hw, del, Nat.add_assoc]; rfl) | fail) ?_; (try simp [hne, hk, hw, del, Nat.add_assoc]))
  | (refine CallP.fE (hm1) (by first | rfl | fail) (by first | (simp [hne, hk, hw, del, Nat.add_assoc]; done) | (simp [hne, hk, hw, del, Nat.add_assoc]; rfl) | fail) ?_; (try simp [hne, hk, hw, del, Nat.add_assoc]))
  | (refine CallP.fE (hm2) (by first | rfl | fail) (by first | (simp [hne, hk, hw, del, Nat.add_assoc]; done) | (simp [hne, hk, hw, del, Nat.add_assoc]; rfl) | fail) ?_; (try simp [hne, hk, hw, del, Nat.add_assoc]))
  | (refine CallP.fE (hnm) (by first | rfl | fail) (by first | (simp [hne, hk, hw, del, Nat.add_assoc]; done) | (simp [hne, hk, hw, del, Nat.add_assoc]; rfl) | fail) ?_; (try simp [hne, hk, hw, del, Nat.add_assoc]))
  | (refine CallP.ok1 (hh1 _ (by first | omega | (simp; done) | (simp; omega) | fail)) (by first | (simp [hne, hk, hw, del, Nat.add_assoc, zaa, getK, zab, zac]; done) | fail) (by rfl) (by rfl) ?_; (try simp [hne, hk, hw, del, Nat.add_assoc]))
  | (refine CallP.ok1 (hh2 _ (by first | omega | (simp; done) | (simp; omega) | fail)) (by first | (simp [hne, hk, hw, del, Nat.add_assoc, zaa, getK, zab, zac]; done) | fail) (by rfl) (by rfl) ?_; (try simp [hne, hk, hw, del, Nat.add_assoc]))
  | (refine CallP.ok1 (hh3 _ (by first | omega | (simp; done) | (simp; omega) | fail)) (by first | (simp [hne, hk, hw, del, Nat.add_assoc, zaa, getK, zab, zac]; done) | fail) (by rfl) (by rfl) ?_; (try simp [hne, hk, hw, del, Nat.add_assoc]))
  | (refine CallP.ok1 (hc1 _ (by first | omega | (simp; done) | (simp; omega) | fail)) (by first | (simp [hne, hk, hw, del, Nat.add_assoc, zaa, getK, zab, zac]; done) | fail) (by rfl) (by rfl) ?_; (try simp [hne, hk, hw, del, Nat.add_assoc]))
  | fail)
   refine EndW.norm ?_
   simp [St.norm, zbl, zb8, zcx, zcy, hne]
   (refine EndW.here ?_; (first | (refine EndOK.fin (.inr rfl) ?_) | (refine EndOK.fin (.inl rfl) ?_)); simp [zaL, zag, Tryz.results133, hne, hi]; refine FinOK.cut [(i, pOb l (p + 1))] (nx) (by simp [zaa, getK, zab, zac, Ob.under, D.under, zad, zae, hne, hi] <;> omega) (by simp [D.under]) (by simp [hn]) ?_; try simp)
   exact PPost.zcw rfl (by simp [Exp.row]) rfl
  | false =>
   simp only [hb, hw, Bool.false_eq_true, and_false, if_false] at hnm ⊢
   (refine RetX.of_bodyW Tryz.func133 rfl (by simp) fun Γ hn hpan => ?_); simp only [entry, List.zipIdx_cons, List.zipIdx_nil, List.map_cons, List.map_nil, Nat.zero_add, Tryz.ntmps133]
   repeat' (first
  | (refine zaf ?_; simp [hne, hk, hw, del, Nat.add_assoc])
  | (refine zal ?_; simp [hne, hk, hw, del, Nat.add_assoc])
  | (refine zah ?_; simp [hne, hk, hw, del, Nat.add_assoc])
  | (refine zai ?_; simp [hne, hk, hw, del, Nat.add_assoc])
  | (refine zap ?_; simp only [zao])
  | (refine CallP.fE (hnx) (by first | rfl | fail) (by first | (simp [hne, hk, hw, del, Nat.add_assoc]; done) | (simp [hne, hk, hw, del, Nat.add_assoc]; rfl) | fail) ?_; (try simp [hne, hk, hw, del, Nat.add_assoc]))
  | (refine CallP.fE (hm1) (by first | rfl | fail) (by first | (simp [hne, hk, hw, del, Nat.add_assoc]; done) | (simp [hne, hk, hw, del, Nat.add_assoc]; rfl) | fail) ?_; (try simp [hne, hk, hw, del, Nat.add_assoc]))
  | (refine CallP.fE (hm2) (by first | rfl | fail) (by first | (simp [hne, hk, hw, del, Nat.add_assoc]; done) | (simp [hne, hk, hw, del, Nat.add_assoc]; rfl) | fail) ?_; (try simp [hne, hk, hw, del, Nat.add_assoc]))
  | (refine CallP.fE (hnm) (by first | rfl | fail) (by first | (simp [hne, hk, hw, del, Nat.add_assoc]; done) | (simp [hne, hk, hw, del, Nat.add_assoc]; rfl) | fail) ?_; (try simp [hne, hk, hw, del, Nat.add_assoc]))
  | (refine CallP.ok1 (hh1 _ (by first | omega | (simp; done) | (simp; omega) | fail)) (by first | (simp [hne, hk, hw, del, Nat.add_assoc, zaa, getK, zab, zac]; done) | fail) (by rfl) (by rfl) ?_; (try simp [hne, hk, hw, del, Nat.add_assoc]))
  | (refine CallP.ok1 (hh2 _ (by first | omega | (simp; done) | (simp; omega) | fail)) (by first | (simp [hne, hk, hw, del, Nat.add_assoc, zaa, getK, zab, zac]; done) | fail) (by rfl) (by rfl) ?_; (try simp [hne, hk, hw, del, Nat.add_assoc]))
  | (refine CallP.ok1 (hh3 _ (by first | omega | (simp; done) | (simp; omega) | fail)) (by first | (simp [hne, hk, hw, del, Nat.add_assoc, zaa, getK, zab, zac]; done) | fail) (by rfl) (by rfl) ?_; (try simp [hne, hk, hw, del, Nat.add_assoc]))
  | (refine CallP.zeb (hc2 _ (by first | omega | (simp; done) | (simp; omega) | fail)) (by first | (simp [hne, hk, hw, del, Nat.add_assoc, zaa, getK, zab, zac]; done) | fail) (by rfl) (by first | assumption | (simp; done) | fail) (by rfl) (by simp) ?_; rintro ob' ⟨q', rfl⟩; refine ⟨_, Wk.refl _, ?_⟩)
  | fail)
   (refine hpan _ _ ⟨{ n := _, env := [], obs := [(i, pOb l q')], next := nx }, (Wk.cut rfl (by simp [hn]) (by simp [wkO, zaa, getK, zab, zac, Ob.under, D.under, zad, zae, hi, hne, zab, zac, zaa, getK]) (by simp [wkU, zan, zaa, getK, D.under, hi, hne, zab, zac, zaa, getK]) (by simp [wkE, zan, zaa, getK, hi, hne, zab, zac, zaa, getK])), by simp [hn], ?_⟩; try simp)
   exact PPost.zaw rfl
 ·simp only [hw, false_and, if_false]
  (refine RetX.of_bodyW Tryz.func133 rfl (by simp) fun Γ hn hpan => ?_); simp only [entry, List.zipIdx_cons, List.zipIdx_nil, List.map_cons, List.map_nil, Nat.zero_add, Tryz.ntmps133]
  repeat' (first
  | (refine zaf ?_; simp [hne, hk, hw, del, Nat.add_assoc])
  | (refine zal ?_; simp [hne, hk, hw, del, Nat.add_assoc])
  | (refine zah ?_; simp [hne, hk, hw, del, Nat.add_assoc])
  | (refine zai ?_; simp [hne, hk, hw, del, Nat.add_assoc])
  | (refine zap ?_; simp only [zao])
  | (refine CallP.fE (hnx) (by first | rfl | fail) (by first | (simp [hne, hk, hw, del, Nat.add_assoc]; done) | (simp [hne, hk, hw, del, Nat.add_assoc]; rfl) | fail) ?_; (try simp [hne, hk, hw, del, Nat.add_assoc]))
  | (refine CallP.fE (hm1) (by first | rfl | fail) (by first | (simp [hne, hk, hw, del, Nat.add_assoc]; done) | (simp [hne, hk, hw, del, Nat.add_assoc]; rfl) | fail) ?_; (try simp [hne, hk, hw, del, Nat.add_assoc]))
  | (refine CallP.fE (hm2) (by first | rfl | fail) (by first | (simp [hne, hk, hw, del, Nat.add_assoc]; done) | (simp [hne, hk, hw, del, Nat.add_assoc]; rfl) | fail) ?_; (try simp [hne, hk, hw, del, Nat.add_assoc]))
  | (refine CallP.ok1 (hh1 _ (by first | omega | (simp; done) | (simp; omega) | fail)) (by first | (simp [hne, hk, hw, del, Nat.add_assoc, zaa, getK, zab, zac]; done) | fail) (by rfl) (by rfl) ?_; (try simp [hne, hk, hw, del, Nat.add_assoc]))
  | (refine CallP.ok1 (hh2 _ (by first | omega | (simp; done) | (simp; omega) | fail)) (by first | (simp [hne, hk, hw, del, Nat.add_assoc, zaa, getK, zab, zac]; done) | fail) (by rfl) (by rfl) ?_; (try simp [hne, hk, hw, del, Nat.add_assoc]))
  | (refine CallP.ok1 (hh3 _ (by first | omega | (simp; done) | (simp; omega) | fail)) (by first | (simp [hne, hk, hw, del, Nat.add_assoc, zaa, getK, zab, zac]; done) | fail) (by rfl) (by rfl) ?_; (try simp [hne, hk, hw, del, Nat.add_assoc]))
  | (refine CallP.zeb (hc2 _ (by first | omega | (simp; done) | (simp; omega) | fail)) (by first | (simp [hne, hk, hw, del, Nat.add_assoc, zaa, getK, zab, zac]; done) | fail) (by rfl) (by first | assumption | (simp; done) | fail) (by rfl) (by simp) ?_; rintro ob' ⟨q', rfl⟩; refine ⟨_, Wk.refl _, ?_⟩)
  | fail)
  (refine hpan _ _ ⟨{ n := _, env := [], obs := [(i, pOb l q')], next := nx }, (Wk.cut rfl (by simp [hn]) (by simp [wkO, zaa, getK, zab, zac, Ob.under, D.under, zad, zae, hi, hne, zab, zac, zaa, getK]) (by simp [wkU, zan, zaa, getK, D.under, hi, hne, zab, zac, zaa, getK]) (by simp [wkE, zan, zaa, getK, hi, hne, zab, zac, zaa, getK])), by simp [hn], ?_⟩; try simp)
  exact PPost.zaw rfl
theorem zlp {l : List Tok} {p : Nat} {w : List UInt8} {t : Tok} (ht : l[p]? = some t) (h : isB l p w = true) : t.text = w := by
 unfold isB at h
 rw [ht] at h
 simp only [Bool.and_eq_true, decide_eq_true_eq] at h
 exact h.2
theorem zjn {l : List Tok} (hl : TokOK l) {f : Nat} (hE : zht l f) : zib l (f + 1) := by
 intro p i nx hi hp hf
 obtain ⟨t, ht⟩ : ∃ t, l[p]? = some t := ⟨_, List.getElem?_eq_getElem hp⟩
 by_cases hk : t.kind = 2
 ·exact zkx hl ht hk hi
 cases h1 : isB l p [116, 114, 117, 101] with
 | true => exact zjm hl ht hk h1 hi
 | false =>
 cases h2 : isB l p [102, 97, 108, 115, 101] with
 | true => exact zio hl ht hk h1 h2 hi
 | false =>
 cases h3 : isB l p [109, 105, 110] with
 | true =>
  cases h4 : isB l p [109, 97, 120] with
  | true => exact absurd ((zlp ht h3).symm.trans (zlp ht h4)) (by decide)
  | false => exact zky hl hE (by omega) ht hk h1 h2 h3 h4 hi
 | false =>
 cases h4 : isB l p [109, 97, 120] with
 | true => exact zkz hl hE (by omega) ht hk h1 h2 h3 h4 hi
 | false =>
 cases h5 : isB l p [40] with
 | true => exact zin hl hE (by omega) ht hk h1 h2 h3 h4 h5 hi
 | false => exact zjo hl ht hk h1 h2 h3 h4 h5 hi
theorem zm8 {l : List Tok} (hl : TokOK l) {f p : Nat} {form : Int} (hE : zht l f) (hp : p < l.length) (hf : 4 * (l.length - p) + 1 ≤ f)
  (hf0 : form = 0) (h1 : isB l p [105, 102] = true) {i nx : Nat} (hi : i < nx) :
  RetX Tryz.prog 95 [.ptr i 0, ziD form] [(i, pOb l p)] nx (PPost l i nx zjz (za4 l (f + 1) p form)) := by
 have hne := zaB hi
 have hll := hl.len
 rw [za4]
 have hp2 := zbf hl h1
 subst hf0
 have hf0 : (0 : Int) = 0 := rfl
 have hf3 : (0 : Int) ≤ 3 := by omega
 have hh1 := fun nx' (h : nx ≤ nx') => zbg l p [105, 102] i nx' (by omega) hp hl.len
 simp only [h1, if_true] at hh1
 rw [if_pos ⟨rfl, h1⟩]
 have ha := fun nx' (h : nx ≤ nx') => hE (p + 1) 0 i nx' (by omega) hp2 (by omega) (by omega) (by omega)
 cases hr0 : zc6 l f (p + 1) 0 with
 | stop pos e =>
  simp only [hr0] at ha
  (refine RetX.of_bodyW Tryz.func95 rfl (by simp) fun Γ hn hpan => ?_); simp only [entry, List.zipIdx_cons, List.zipIdx_nil, List.map_cons, List.map_nil, Nat.zero_add, Tryz.ntmps95]
  repeat' (first
  | (refine zaf ?_; simp [hne, hf0, hf3, del, Nat.add_assoc])
  | (refine zal ?_; simp [hne, hf0, hf3, del, Nat.add_assoc])
  | (refine zah ?_; simp [hne, hf0, hf3, del, Nat.add_assoc])
  | (refine zai ?_; simp [hne, hf0, hf3, del, Nat.add_assoc])
  | (refine CallP.ok1 (hh1 _ (by first | omega | (simp; done) | (simp; omega) | fail)) (by first | (simp [hne, hf0, hf3, del, Nat.add_assoc, zaa, getK, zab, zac]; done) | fail) (by rfl) (by rfl) ?_; (try simp [hne, hf0, hf3, del, Nat.add_assoc]))
  | (refine CallP.zeb (ha _ (by first | omega | (simp; done) | (simp; omega) | fail)) (by first | (simp [hne, hf0, hf3, del, Nat.add_assoc, zaa, getK, zab, zac]; done) | fail) (by rfl) (by first | assumption | (simp; done) | fail) (by rfl) (by simp) ?_; rintro ob' ⟨q', rfl⟩; refine ⟨_, Wk.refl _, ?_⟩)
  | fail)
  (refine hpan _ _ ⟨{ n := _, env := [], obs := [(i, pOb l q')], next := nx }, (Wk.cut rfl (by simp [hn]) (by simp [wkO, zaa, getK, zab, zac, Ob.under, D.under, zad, zae, hi, hne, zab, zac, zaa, getK]) (by simp [wkU, zan, zaa, getK, D.under, hi, hne, zab, zac, zaa, getK]) (by simp [wkE, zan, zaa, getK, hi, hne, zab, zac, zaa, getK])), by simp [hn], ?_⟩; try simp)
  exact PPost.zaw (by simp [PR.bind, *])
 | ok v0 q0 =>
  have ha := fun nx' h => zcY (ha nx' h) hr0
  obtain ⟨g0a, g0b⟩ := (zb2 hl f).1 _ _ _ _ hr0 hp2
  have hw1 := fun nx' (h : nx ≤ nx') => zeq hl [116, 104, 101, 110] (q := q0) (i := i) (nx := nx') (by omega) g0b
  cases hr1 : zbu l q0 [[116, 104, 101, 110]] with
  | stop pos e =>
   simp only [hr1] at hw1
   (refine RetX.of_bodyW Tryz.func95 rfl (by simp) fun Γ hn hpan => ?_); simp only [entry, List.zipIdx_cons, List.zipIdx_nil, List.map_cons, List.map_nil, Nat.zero_add, Tryz.ntmps95]
   repeat' (first
  | (refine zaf ?_; simp [hne, hf0, hf3, del, Nat.add_assoc])
  | (refine zal ?_; simp [hne, hf0, hf3, del, Nat.add_assoc])
  | (refine zah ?_; simp [hne, hf0, hf3, del, Nat.add_assoc])
  | (refine zai ?_; simp [hne, hf0, hf3, del, Nat.add_assoc])
  | (refine CallP.ok1 (hh1 _ (by first | omega | (simp; done) | (simp; omega) | fail)) (by first | (simp [hne, hf0, hf3, del, Nat.add_assoc, zaa, getK, zab, zac]; done) | fail) (by rfl) (by rfl) ?_; (try simp [hne, hf0, hf3, del, Nat.add_assoc]))
  | (refine CallP.ok1 (ha _ (by first | omega | (simp; done) | (simp; omega) | fail)) (by first | (simp [hne, hf0, hf3, del, Nat.add_assoc, zaa, getK, zab, zac]; done) | fail) (by rfl) (by rfl) ?_; (try simp [hne, hf0, hf3, del, Nat.add_assoc]))
  | (refine CallP.zeb (hw1 _ (by first | omega | (simp; done) | (simp; omega) | fail)) (by first | (simp [hne, hf0, hf3, del, Nat.add_assoc, zaa, getK, zab, zac]; done) | fail) (by rfl) (by first | assumption | (simp; done) | fail) (by rfl) (by simp) ?_; rintro ob' ⟨q', rfl⟩; refine ⟨_, Wk.refl _, ?_⟩)
  | (refine zaq (by first | rfl | fail) ?_; simp [hne, hf0, hf3, del, Nat.add_assoc, frzN, frz1, zay, zax, St.frz, St.frzS, frzS, fv, zaz, za5, za8, zaF, zat, zaj, del, frz, za9])
  | fail)
   (refine hpan _ _ ⟨{ n := _, env := [], obs := [(i, pOb l q')], next := nx }, (Wk.cut rfl (by simp [hn]) (by simp [wkO, zaa, getK, zab, zac, Ob.under, D.under, zad, zae, hi, hne, zab, zac, zaa, getK]) (by simp [wkU, zan, zaa, getK, D.under, hi, hne, zab, zac, zaa, getK]) (by simp [wkE, zan, zaa, getK, hi, hne, zab, zac, zaa, getK])), by simp [hn], ?_⟩; try simp)
   exact PPost.zaw (by simp [PR.bind, *])
  | ok v1 q1 =>
   simp only [hr1] at hw1
   obtain ⟨g1a, g1b⟩ := za1 hl _ hr1 g0b
   have hb := fun nx' (h : nx ≤ nx') => hE q1 0 i nx' (by omega) g1b (by omega) (by omega) (by omega)
   cases hr2 : zc6 l f q1 0 with
   | stop pos e =>
    simp only [hr2] at hb
    (refine RetX.of_bodyW Tryz.func95 rfl (by simp) fun Γ hn hpan => ?_); simp only [entry, List.zipIdx_cons, List.zipIdx_nil, List.map_cons, List.map_nil, Nat.zero_add, Tryz.ntmps95]
    repeat' (first
  | (refine zaf ?_; simp [hne, hf0, hf3, del, Nat.add_assoc])
  | (refine zal ?_; simp [hne, hf0, hf3, del, Nat.add_assoc])
  | (refine zah ?_; simp [hne, hf0, hf3, del, Nat.add_assoc])
  | (refine zai ?_; simp [hne, hf0, hf3, del, Nat.add_assoc])
  | (refine CallP.ok1 (hh1 _ (by first | omega | (simp; done) | (simp; omega) | fail)) (by first | (simp [hne, hf0, hf3, del, Nat.add_assoc, zaa, getK, zab, zac]; done) | fail) (by rfl) (by rfl) ?_; (try simp [hne, hf0, hf3, del, Nat.add_assoc]))
  | (refine CallP.ok1 (ha _ (by first | omega | (simp; done) | (simp; omega) | fail)) (by first | (simp [hne, hf0, hf3, del, Nat.add_assoc, zaa, getK, zab, zac]; done) | fail) (by rfl) (by rfl) ?_; (try simp [hne, hf0, hf3, del, Nat.add_assoc]))
  | (refine CallP.ok1 (hw1 _ (by first | omega | (simp; done) | (simp; omega) | fail)) (by first | (simp [hne, hf0, hf3, del, Nat.add_assoc, zaa, getK, zab, zac]; done) | fail) (by rfl) (by rfl) ?_; (try simp [hne, hf0, hf3, del, Nat.add_assoc]))
  | (refine CallP.zeb (hb _ (by first | omega | (simp; done) | (simp; omega) | fail)) (by first | (simp [hne, hf0, hf3, del, Nat.add_assoc, zaa, getK, zab, zac]; done) | fail) (by rfl) (by first | assumption | (simp; done) | fail) (by rfl) (by simp) ?_; rintro ob' ⟨q', rfl⟩; refine ⟨_, Wk.refl _, ?_⟩)
  | (refine zaq (by first | rfl | fail) ?_; simp [hne, hf0, hf3, del, Nat.add_assoc, frzN, frz1, zay, zax, St.frz, St.frzS, frzS, fv, zaz, za5, za8, zaF, zat, zaj, del, frz, za9])
  | fail)
    (refine hpan _ _ ⟨{ n := _, env := [], obs := [(i, pOb l q')], next := nx }, (Wk.cut rfl (by simp [hn]) (by simp [wkO, zaa, getK, zab, zac, Ob.under, D.under, zad, zae, hi, hne, zab, zac, zaa, getK]) (by simp [wkU, zan, zaa, getK, D.under, hi, hne, zab, zac, zaa, getK]) (by simp [wkE, zan, zaa, getK, hi, hne, zab, zac, zaa, getK])), by simp [hn], ?_⟩; try simp)
    exact PPost.zaw (by simp [PR.bind, *])
   | ok v2 q2 =>
    have hb := fun nx' h => zcY (hb nx' h) hr2
    obtain ⟨g2a, g2b⟩ := (zb2 hl f).1 _ _ _ _ hr2 g1b
    have hw2 := fun nx' (h : nx ≤ nx') => zeq hl [101, 108, 115, 101] (q := q2) (i := i) (nx := nx') (by omega) g2b
    cases hr3 : zbu l q2 [[101, 108, 115, 101]] with
    | stop pos e =>
     simp only [hr3] at hw2
     (refine RetX.of_bodyW Tryz.func95 rfl (by simp) fun Γ hn hpan => ?_); simp only [entry, List.zipIdx_cons, List.zipIdx_nil, List.map_cons, List.map_nil, Nat.zero_add, Tryz.ntmps95]
     repeat' (first
  | (refine zaf ?_; simp [hne, hf0, hf3, del, Nat.add_assoc])
  | (refine zal ?_; simp [hne, hf0, hf3, del, Nat.add_assoc])
  | (refine zah ?_; simp [hne, hf0, hf3, del, Nat.add_assoc])
  | (refine zai ?_; simp [hne, hf0, hf3, del, Nat.add_assoc])
  | (refine CallP.ok1 (hh1 _ (by first | omega | (simp; done) | (simp; omega) | fail)) (by first | (simp [hne, hf0, hf3, del, Nat.add_assoc, zaa, getK, zab, zac]; done) | fail) (by rfl) (by rfl) ?_; (try simp [hne, hf0, hf3, del, Nat.add_assoc]))
  | (refine CallP.ok1 (ha _ (by first | omega | (simp; done) | (simp; omega) | fail)) (by first | (simp [hne, hf0, hf3, del, Nat.add_assoc, zaa, getK, zab, zac]; done) | fail) (by rfl) (by rfl) ?_; (try simp [hne, hf0, hf3, del, Nat.add_assoc]))
  | (refine CallP.ok1 (hw1 _ (by first | omega | (simp; done) | (simp; omega) | fail)) (by first | (simp [hne, hf0, hf3, del, Nat.add_assoc, zaa, getK, zab, zac]; done) | fail) (by rfl) (by rfl) ?_; (try simp [hne, hf0, hf3, del, Nat.add_assoc]))
  | (refine CallP.ok1 (hb _ (by first | omega | (simp; done) | (simp; omega) | fail)) (by first | (simp [hne, hf0, hf3, del, Nat.add_assoc, zaa, getK, zab, zac]; done) | fail) (by rfl) (by rfl) ?_; (try simp [hne, hf0, hf3, del, Nat.add_assoc]))
  | (refine CallP.zeb (hw2 _ (by first | omega | (simp; done) | (simp; omega) | fail)) (by first | (simp [hne, hf0, hf3, del, Nat.add_assoc, zaa, getK, zab, zac]; done) | fail) (by rfl) (by first | assumption | (simp; done) | fail) (by rfl) (by simp) ?_; rintro ob' ⟨q', rfl⟩; refine ⟨_, Wk.refl _, ?_⟩)
  | (refine zaq (by first | rfl | fail) ?_; simp [hne, hf0, hf3, del, Nat.add_assoc, frzN, frz1, zay, zax, St.frz, St.frzS, frzS, fv, zaz, za5, za8, zaF, zat, zaj, del, frz, za9])
  | fail)
     (refine hpan _ _ ⟨{ n := _, env := [], obs := [(i, pOb l q')], next := nx }, (Wk.cut rfl (by simp [hn]) (by simp [wkO, zaa, getK, zab, zac, Ob.under, D.under, zad, zae, hi, hne, zab, zac, zaa, getK]) (by simp [wkU, zan, zaa, getK, D.under, hi, hne, zab, zac, zaa, getK]) (by simp [wkE, zan, zaa, getK, hi, hne, zab, zac, zaa, getK])), by simp [hn], ?_⟩; try simp)
     exact PPost.zaw (by simp [PR.bind, *])
    | ok v3 q3 =>
     simp only [hr3] at hw2
     obtain ⟨g3a, g3b⟩ := za1 hl _ hr3 g2b
     have hc := fun nx' (h : nx ≤ nx') => hE q3 0 i nx' (by omega) g3b (by omega) (by omega) (by omega)
     cases hr4 : zc6 l f q3 0 with
     | stop pos e =>
      simp only [hr4] at hc
      (refine RetX.of_bodyW Tryz.func95 rfl (by simp) fun Γ hn hpan => ?_); simp only [entry, List.zipIdx_cons, List.zipIdx_nil, List.map_cons, List.map_nil, Nat.zero_add, Tryz.ntmps95]
      repeat' (first
  | (refine zfK (fun nx' h' => hc nx' (by simp at h'; omega)) (by first | (simp [hne, hf0, hf3, del, Nat.add_assoc, zaa, getK, zab, zac, zak, zaJ]; done) | fail) (by rfl) (by first | assumption | simp) (by rfl) (by simp) ?_ ?_; rintro env' ob' n' hn' ⟨q', rfl⟩; refine ⟨_, Wk.refl _, ?_⟩)
  | (refine zeK rfl (by simp) ?_; simp)
  | (refine zaf ?_; simp [hne, hf0, hf3, del, Nat.add_assoc])
  | (refine zbt rfl ?_; simp [hne, hf0, hf3, del, Nat.add_assoc])
  | (refine zal ?_; simp [hne, hf0, hf3, del, Nat.add_assoc])
  | (refine zah ?_; simp [hne, hf0, hf3, del, Nat.add_assoc])
  | (refine zai ?_; simp [hne, hf0, hf3, del, Nat.add_assoc])
  | (refine zfL (hC _ (zcr [i] nx (by simp <;> omega) (by simp <;> omega) (by apply Exists.intro; apply And.intro; (focus (repeat' (first | exact KF.nil | exact KL.nil | apply KF.cons | apply KL.cons 0 rfl | apply KL.cons 1 rfl | apply KL.cons 2 rfl | apply KL.cons 3 rfl | apply KL.cons 4 rfl | apply KL.cons 5 rfl | apply KL.cons 6 rfl | apply KL.cons 7 rfl | apply KL.cons 8 rfl | apply KL.cons 9 rfl))); kernel_rfl))) rfl; done)
  | (refine zb6 rfl (by kernel_rfl) (by first | (simp [hn]; done) | (simp [hn]; omega) | fail) fun C k hC hk => ?_; simp [hne, hf0, hf3, del, Nat.add_assoc])
  | (refine CallP.ok1 (hh1 _ (by first | omega | (simp; done) | (simp; omega) | fail)) (by first | (simp [hne, hf0, hf3, del, Nat.add_assoc, zaa, getK, zab, zac]; done) | fail) (by rfl) (by rfl) ?_; (try simp [hne, hf0, hf3, del, Nat.add_assoc]))
  | (refine CallP.ok1 (ha _ (by first | omega | (simp; done) | (simp; omega) | fail)) (by first | (simp [hne, hf0, hf3, del, Nat.add_assoc, zaa, getK, zab, zac]; done) | fail) (by rfl) (by rfl) ?_; (try simp [hne, hf0, hf3, del, Nat.add_assoc]))
  | (refine CallP.ok1 (hw1 _ (by first | omega | (simp; done) | (simp; omega) | fail)) (by first | (simp [hne, hf0, hf3, del, Nat.add_assoc, zaa, getK, zab, zac]; done) | fail) (by rfl) (by rfl) ?_; (try simp [hne, hf0, hf3, del, Nat.add_assoc]))
  | (refine CallP.ok1 (hb _ (by first | omega | (simp; done) | (simp; omega) | fail)) (by first | (simp [hne, hf0, hf3, del, Nat.add_assoc, zaa, getK, zab, zac]; done) | fail) (by rfl) (by rfl) ?_; (try simp [hne, hf0, hf3, del, Nat.add_assoc]))
  | (refine CallP.ok1 (hw2 _ (by first | omega | (simp; done) | (simp; omega) | fail)) (by first | (simp [hne, hf0, hf3, del, Nat.add_assoc, zaa, getK, zab, zac]; done) | fail) (by rfl) (by rfl) ?_; (try simp [hne, hf0, hf3, del, Nat.add_assoc]))
  | (refine zaq (by first | rfl | fail) ?_; simp [hne, hf0, hf3, del, Nat.add_assoc, frzN, frz1, zay, zax, St.frz, St.frzS, frzS, fv, zaz, za5, za8, zaF, zat, zaj, del, frz, za9])
  | fail)
      (refine hpan _ _ ⟨{ n := _, env := [], obs := [(i, pOb l q')], next := nx }, (Wk.cut rfl (by simp [hn]) (by simp [wkO, zaa, getK, zab, zac, Ob.under, D.under, zad, zae, hi, hne, zab, zac, zaa, getK]) (by simp [wkU, zan, zaa, getK, D.under, hi, hne, zab, zac, zaa, getK]) (by simp [wkE, zan, zaa, getK, hi, hne, zab, zac, zaa, getK])), by simp [hn], ?_⟩; try simp)
      exact PPost.zaw (by simp [PR.bind, *])
     | ok v4 q4 =>
      have hc := fun nx' h => zcY (hc nx' h) hr4
      obtain ⟨g4a, g4b⟩ := (zb2 hl f).1 _ _ _ _ hr4 g3b
      (refine RetX.of_bodyW Tryz.func95 rfl (by simp) fun Γ hn hpan => ?_); simp only [entry, List.zipIdx_cons, List.zipIdx_nil, List.map_cons, List.map_nil, Nat.zero_add, Tryz.ntmps95]
      repeat' (first
  | (refine zhr (fun nx' h' => hc nx' (by simp at h'; omega)) (by first | (simp [hne, hf0, hf3, del, Nat.add_assoc, zaa, getK, zab, zac, zak, zaJ]; done) | fail) (by rfl) (by first | assumption | simp) (by rfl) (by simp [D.under, Ob.under]) (by simp) ?_; (try simp [hne, hf0, hf3, del, Nat.add_assoc]))
  | (refine zaf ?_; simp [hne, hf0, hf3, del, Nat.add_assoc])
  | (refine zbt rfl ?_; simp [hne, hf0, hf3, del, Nat.add_assoc])
  | (refine zcc rfl ?_; simp [hne, hf0, hf3, del, Nat.add_assoc])
  | (refine zal ?_; simp [hne, hf0, hf3, del, Nat.add_assoc])
  | (refine zah ?_; simp [hne, hf0, hf3, del, Nat.add_assoc])
  | (refine zai ?_; simp [hne, hf0, hf3, del, Nat.add_assoc])
  | (refine zbQ (hC _ (zcr [i] nx (by simp <;> omega) (by simp <;> omega) (by apply Exists.intro; apply And.intro; (focus (repeat' (first | exact KF.nil | exact KL.nil | apply KF.cons | apply KL.cons 0 rfl | apply KL.cons 1 rfl | apply KL.cons 2 rfl | apply KL.cons 3 rfl | apply KL.cons 4 rfl | apply KL.cons 5 rfl | apply KL.cons 6 rfl | apply KL.cons 7 rfl | apply KL.cons 8 rfl | apply KL.cons 9 rfl))); kernel_rfl))) (hk _ ?_); clear hC hk C k; simp only [zao])
  | (refine zb6 rfl (by kernel_rfl) (by first | (simp [hn]; done) | (simp [hn]; omega) | fail) fun C k hC hk => ?_; simp [hne, hf0, hf3, del, Nat.add_assoc])
  | (refine zar ?_; simp only [zao])
  | (refine CallP.ok1 (hh1 _ (by first | omega | (simp; done) | (simp; omega) | fail)) (by first | (simp [hne, hf0, hf3, del, Nat.add_assoc, zaa, getK, zab, zac]; done) | fail) (by rfl) (by rfl) ?_; (try simp [hne, hf0, hf3, del, Nat.add_assoc]))
  | (refine CallP.ok1 (ha _ (by first | omega | (simp; done) | (simp; omega) | fail)) (by first | (simp [hne, hf0, hf3, del, Nat.add_assoc, zaa, getK, zab, zac]; done) | fail) (by rfl) (by rfl) ?_; (try simp [hne, hf0, hf3, del, Nat.add_assoc]))
  | (refine CallP.ok1 (hw1 _ (by first | omega | (simp; done) | (simp; omega) | fail)) (by first | (simp [hne, hf0, hf3, del, Nat.add_assoc, zaa, getK, zab, zac]; done) | fail) (by rfl) (by rfl) ?_; (try simp [hne, hf0, hf3, del, Nat.add_assoc]))
  | (refine CallP.ok1 (hb _ (by first | omega | (simp; done) | (simp; omega) | fail)) (by first | (simp [hne, hf0, hf3, del, Nat.add_assoc, zaa, getK, zab, zac]; done) | fail) (by rfl) (by rfl) ?_; (try simp [hne, hf0, hf3, del, Nat.add_assoc]))
  | (refine CallP.ok1 (hw2 _ (by first | omega | (simp; done) | (simp; omega) | fail)) (by first | (simp [hne, hf0, hf3, del, Nat.add_assoc, zaa, getK, zab, zac]; done) | fail) (by rfl) (by rfl) ?_; (try simp [hne, hf0, hf3, del, Nat.add_assoc]))
  | (refine zaq (by first | rfl | fail) ?_; simp [hne, hf0, hf3, del, Nat.add_assoc, frzN, frz1, zay, zax, St.frz, St.frzS, frzS, fv, zaz, za5, za8, zaF, zat, zaj, del, frz, za9])
  | fail)
      (refine EndW.frzN 1 ?_; simp [frzN, frz1, zay, zax, St.frz, St.frzS, frzS, fv, zaz, za5, za8, zaF, zat, zaj, del, frz, za9, hne, Nat.add_assoc])
      refine EndW.norm ?_
      simp [St.norm, zbl, zb8, zcx, zcy, hne, Nat.add_assoc]
      (refine EndW.here ?_; (first | (refine EndOK.fin (.inr rfl) ?_) | (refine EndOK.fin (.inl rfl) ?_)); simp [zaL, zag, Tryz.results95, hne, hi]; refine FinOK.cut [(i, pOb l q4)] (nx) (by simp [zaa, getK, zab, zac, Ob.under, D.under, zad, zae, hne, hi] <;> omega) (by simp [D.under]) (by simp [hn]) ?_; try simp)
      exact PPost.zcw (by simp [PR.bind, *]; rfl) (by simp [Exp.row_eq, Exp.op, Exp.n, Exp.unit, Exp.s, Exp.args]) rfl
theorem zkC {l : List Tok} (hl : TokOK l) {f p : Nat} {form : Int} (hE : zht l f) (hp : p < l.length) (hf : 4 * (l.length - p) + 1 ≤ f)
  (hf0 : form = 0) (hf3 : form ≤ 3) (h1 : isB l p [105, 102] = false) (h2 : isB l p [110, 111, 116] = true) {i nx : Nat} (hi : i < nx) :
  RetX Tryz.prog 95 [.ptr i 0, ziD form] [(i, pOb l p)] nx (PPost l i nx zjz (za4 l (f + 1) p form)) := by
 have hne := zaB hi
 have hll := hl.len
 rw [za4]
 have hh1 := fun nx' (h : nx ≤ nx') => zbg l p [105, 102] i nx' (by omega) hp hl.len
 rw [h1] at hh1
 simp only [if_true, Bool.false_eq_true, if_false] at hh1
 have hp2 := zbf hl h2
 have hh2 := fun nx' (h : nx ≤ nx') => zbg l p [110, 111, 116] i nx' (by omega) hp hl.len
 rw [h2] at hh2
 simp only [if_true, Bool.false_eq_true, if_false] at hh2
 rw [if_neg (by simp [*]), if_pos ⟨hf3, h2⟩]
 have ha := fun nx' (h : nx ≤ nx') => hE (p + 1) 3 i nx' (by omega) hp2 (by omega) (by omega) (by omega)
 cases hr0 : zc6 l f (p + 1) 3 with
 | stop pos e =>
  simp only [hr0] at ha
  (refine RetX.of_bodyW Tryz.func95 rfl (by simp) fun Γ hn hpan => ?_); simp only [entry, List.zipIdx_cons, List.zipIdx_nil, List.map_cons, List.map_nil, Nat.zero_add, Tryz.ntmps95]
  repeat' (first
  | (refine zaf ?_; simp [hne, hf0, hf3, del, Nat.add_assoc])
  | (refine zal ?_; simp [hne, hf0, hf3, del, Nat.add_assoc])
  | (refine zah ?_; simp [hne, hf0, hf3, del, Nat.add_assoc])
  | (refine zai ?_; simp [hne, hf0, hf3, del, Nat.add_assoc])
  | (refine zap ?_; simp only [zao])
  | (refine CallP.ok1 (hh1 _ (by first | omega | (simp; done) | (simp; omega) | fail)) (by first | (simp [hne, hf0, hf3, del, Nat.add_assoc, zaa, getK, zab, zac]; done) | fail) (by rfl) (by rfl) ?_; (try simp [hne, hf0, hf3, del, Nat.add_assoc]))
  | (refine CallP.ok1 (hh2 _ (by first | omega | (simp; done) | (simp; omega) | fail)) (by first | (simp [hne, hf0, hf3, del, Nat.add_assoc, zaa, getK, zab, zac]; done) | fail) (by rfl) (by rfl) ?_; (try simp [hne, hf0, hf3, del, Nat.add_assoc]))
  | (refine CallP.zeb (ha _ (by first | omega | (simp; done) | (simp; omega) | fail)) (by first | (simp [hne, hf0, hf3, del, Nat.add_assoc, zaa, getK, zab, zac]; done) | fail) (by rfl) (by first | assumption | (simp; done) | fail) (by rfl) (by simp) ?_; rintro ob' ⟨q', rfl⟩; refine ⟨_, Wk.refl _, ?_⟩)
  | fail)
  (refine hpan _ _ ⟨{ n := _, env := [], obs := [(i, pOb l q')], next := nx }, (Wk.cut rfl (by simp [hn]) (by simp [wkO, zaa, getK, zab, zac, Ob.under, D.under, zad, zae, hi, hne, zab, zac, zaa, getK]) (by simp [wkU, zan, zaa, getK, D.under, hi, hne, zab, zac, zaa, getK]) (by simp [wkE, zan, zaa, getK, hi, hne, zab, zac, zaa, getK])), by simp [hn], ?_⟩; try simp)
  exact PPost.zaw (by simp [PR.bind, *])
 | ok v0 q0 =>
  have ha := fun nx' h => zcY (ha nx' h) hr0
  (refine RetX.of_bodyW Tryz.func95 rfl (by simp) fun Γ hn hpan => ?_); simp only [entry, List.zipIdx_cons, List.zipIdx_nil, List.map_cons, List.map_nil, Nat.zero_add, Tryz.ntmps95]
  repeat' (first
  | (refine zaf ?_; simp [hne, hf0, hf3, del, Nat.add_assoc])
  | (refine zal ?_; simp [hne, hf0, hf3, del, Nat.add_assoc])
  | (refine zah ?_; simp [hne, hf0, hf3, del, Nat.add_assoc])
  | (refine zai ?_; simp [hne, hf0, hf3, del, Nat.add_assoc])
  | (refine zar ?_; simp only [zao])
  | (refine zap ?_; simp only [zao])
  | (refine CallP.ok1 (hh1 _ (by first | omega | (simp; done) | (simp; omega) | fail)) (by first | (simp [hne, hf0, hf3, del, Nat.add_assoc, zaa, getK, zab, zac]; done) | fail) (by rfl) (by rfl) ?_; (try simp [hne, hf0, hf3, del, Nat.add_assoc]))
  | (refine CallP.ok1 (hh2 _ (by first | omega | (simp; done) | (simp; omega) | fail)) (by first | (simp [hne, hf0, hf3, del, Nat.add_assoc, zaa, getK, zab, zac]; done) | fail) (by rfl) (by rfl) ?_; (try simp [hne, hf0, hf3, del, Nat.add_assoc]))
  | (refine CallP.ok1 (ha _ (by first | omega | (simp; done) | (simp; omega) | fail)) (by first | (simp [hne, hf0, hf3, del, Nat.add_assoc, zaa, getK, zab, zac]; done) | fail) (by rfl) (by rfl) ?_; (try simp [hne, hf0, hf3, del, Nat.add_assoc]))
  | fail)
  (refine EndW.frzN 1 ?_; simp [frzN, frz1, zay, zax, St.frz, St.frzS, frzS, fv, zaz, za5, za8, zaF, zat, zaj, del, frz, za9, hne, Nat.add_assoc])
  refine EndW.norm ?_
  simp [St.norm, zbl, zb8, zcx, zcy, hne, Nat.add_assoc]
  (refine EndW.here ?_; (first | (refine EndOK.fin (.inr rfl) ?_) | (refine EndOK.fin (.inl rfl) ?_)); simp [zaL, zag, Tryz.results95, hne, hi]; refine FinOK.cut [(i, pOb l q0)] (nx) (by simp [zaa, getK, zab, zac, Ob.under, D.under, zad, zae, hne, hi] <;> omega) (by simp [D.under]) (by simp [hn]) ?_; try simp)
  exact PPost.zcw (by simp [PR.bind, *]; rfl) (by simp [Exp.row_eq, Exp.op, Exp.n, Exp.unit, Exp.s, Exp.args]) rfl
theorem zkB {l : List Tok} (hl : TokOK l) {f p : Nat} {form : Int} (hE : zht l f) (hp : p < l.length) (hf : 4 * (l.length - p) + 1 ≤ f)
  (hf0 : ¬ form = 0) (hf3 : form ≤ 3) (h2 : isB l p [110, 111, 116] = true) {i nx : Nat} (hi : i < nx) :
  RetX Tryz.prog 95 [.ptr i 0, ziD form] [(i, pOb l p)] nx (PPost l i nx zjz (za4 l (f + 1) p form)) := by
 have hne := zaB hi
 have hll := hl.len
 rw [za4]
 have hp2 := zbf hl h2
 have hh2 := fun nx' (h : nx ≤ nx') => zbg l p [110, 111, 116] i nx' (by omega) hp hl.len
 rw [h2] at hh2
 simp only [if_true, Bool.false_eq_true, if_false] at hh2
 rw [if_neg (by simp [*]), if_pos ⟨hf3, h2⟩]
 have ha := fun nx' (h : nx ≤ nx') => hE (p + 1) 3 i nx' (by omega) hp2 (by omega) (by omega) (by omega)
 cases hr0 : zc6 l f (p + 1) 3 with
 | stop pos e =>
  simp only [hr0] at ha
  (refine RetX.of_bodyW Tryz.func95 rfl (by simp) fun Γ hn hpan => ?_); simp only [entry, List.zipIdx_cons, List.zipIdx_nil, List.map_cons, List.map_nil, Nat.zero_add, Tryz.ntmps95]
  repeat' (first
  | (refine zaf ?_; simp [hne, hf0, hf3, del, Nat.add_assoc])
  | (refine zal ?_; simp [hne, hf0, hf3, del, Nat.add_assoc])
  | (refine zah ?_; simp [hne, hf0, hf3, del, Nat.add_assoc])
  | (refine zai ?_; simp [hne, hf0, hf3, del, Nat.add_assoc])
  | (refine zap ?_; simp only [zao])
  | (refine CallP.ok1 (hh2 _ (by first | omega | (simp; done) | (simp; omega) | fail)) (by first | (simp [hne, hf0, hf3, del, Nat.add_assoc, zaa, getK, zab, zac]; done) | fail) (by rfl) (by rfl) ?_; (try simp [hne, hf0, hf3, del, Nat.add_assoc]))
  | (refine CallP.zeb (ha _ (by first | omega | (simp; done) | (simp; omega) | fail)) (by first | (simp [hne, hf0, hf3, del, Nat.add_assoc, zaa, getK, zab, zac]; done) | fail) (by rfl) (by first | assumption | (simp; done) | fail) (by rfl) (by simp) ?_; rintro ob' ⟨q', rfl⟩; refine ⟨_, Wk.refl _, ?_⟩)
  | fail)
  (refine hpan _ _ ⟨{ n := _, env := [], obs := [(i, pOb l q')], next := nx }, (Wk.cut rfl (by simp [hn]) (by simp [wkO, zaa, getK, zab, zac, Ob.under, D.under, zad, zae, hi, hne, zab, zac, zaa, getK]) (by simp [wkU, zan, zaa, getK, D.under, hi, hne, zab, zac, zaa, getK]) (by simp [wkE, zan, zaa, getK, hi, hne, zab, zac, zaa, getK])), by simp [hn], ?_⟩; try simp)
  exact PPost.zaw (by simp [PR.bind, *])
 | ok v0 q0 =>
  have ha := fun nx' h => zcY (ha nx' h) hr0
  (refine RetX.of_bodyW Tryz.func95 rfl (by simp) fun Γ hn hpan => ?_); simp only [entry, List.zipIdx_cons, List.zipIdx_nil, List.map_cons, List.map_nil, Nat.zero_add, Tryz.ntmps95]
  repeat' (first
  | (refine zaf ?_; simp [hne, hf0, hf3, del, Nat.add_assoc])
  | (refine zal ?_; simp [hne, hf0, hf3, del, Nat.add_assoc])
  | (refine zah ?_; simp [hne, hf0, hf3, del, Nat.add_assoc])
  | (refine zai ?_; simp [hne, hf0, hf3, del, Nat.add_assoc])
  | (refine zar ?_; simp only [zao])
  | (refine zap ?_; simp only [zao])
  | (refine CallP.ok1 (hh2 _ (by first | omega | (simp; done) | (simp; omega) | fail)) (by first | (simp [hne, hf0, hf3, del, Nat.add_assoc, zaa, getK, zab, zac]; done) | fail) (by rfl) (by rfl) ?_; (try simp [hne, hf0, hf3, del, Nat.add_assoc]))
  | (refine CallP.ok1 (ha _ (by first | omega | (simp; done) | (simp; omega) | fail)) (by first | (simp [hne, hf0, hf3, del, Nat.add_assoc, zaa, getK, zab, zac]; done) | fail) (by rfl) (by rfl) ?_; (try simp [hne, hf0, hf3, del, Nat.add_assoc]))
  | fail)
  (refine EndW.frzN 1 ?_; simp [frzN, frz1, zay, zax, St.frz, St.frzS, frzS, fv, zaz, za5, za8, zaF, zat, zaj, del, frz, za9, hne, Nat.add_assoc])
  refine EndW.norm ?_
  simp [St.norm, zbl, zb8, zcx, zcy, hne, Nat.add_assoc]
  (refine EndW.here ?_; (first | (refine EndOK.fin (.inr rfl) ?_) | (refine EndOK.fin (.inl rfl) ?_)); simp [zaL, zag, Tryz.results95, hne, hi]; refine FinOK.cut [(i, pOb l q0)] (nx) (by simp [zaa, getK, zab, zac, Ob.under, D.under, zad, zae, hne, hi] <;> omega) (by simp [D.under]) (by simp [hn]) ?_; try simp)
  exact PPost.zcw (by simp [PR.bind, *]; rfl) (by simp [Exp.row_eq, Exp.op, Exp.n, Exp.unit, Exp.s, Exp.args]) rfl
theorem zjr {l : List Tok} (hl : TokOK l) {f p : Nat} {form : Int} (hP : zib l f) (hp : p < l.length) (hf : 4 * (l.length - p) + 1 ≤ f)
  (hf0 : form = 0) (hf3 : form ≤ 3) (h1 : isB l p [105, 102] = false) (h2 : isB l p [110, 111, 116] = false) {i nx : Nat} (hi : i < nx) :
  RetX Tryz.prog 95 [.ptr i 0, ziD form] [(i, pOb l p)] nx (PPost l i nx zjz (za4 l (f + 1) p form)) := by
 have hne := zaB hi
 have hll := hl.len
 rw [za4]
 have hh1 := fun nx' (h : nx ≤ nx') => zbg l p [105, 102] i nx' (by omega) hp hl.len
 rw [h1] at hh1
 simp only [if_true, Bool.false_eq_true, if_false] at hh1
 have hh2 := fun nx' (h : nx ≤ nx') => zbg l p [110, 111, 116] i nx' (by omega) hp hl.len
 rw [h2] at hh2
 simp only [if_true, Bool.false_eq_true, if_false] at hh2
 rw [if_neg (by simp [*]), if_neg (by simp [*])]
 have ha := fun nx' (h : nx ≤ nx') => hP p i nx' (by omega) hp (by omega)
 cases hr0 : zaO l f p with
 | stop pos e =>
  simp only [hr0] at ha
  (refine RetX.of_bodyW Tryz.func95 rfl (by simp) fun Γ hn hpan => ?_); simp only [entry, List.zipIdx_cons, List.zipIdx_nil, List.map_cons, List.map_nil, Nat.zero_add, Tryz.ntmps95]
  repeat' (first
  | (refine zaf ?_; simp [hne, hf0, hf3, del, Nat.add_assoc])
  | (refine zal ?_; simp [hne, hf0, hf3, del, Nat.add_assoc])
  | (refine zah ?_; simp [hne, hf0, hf3, del, Nat.add_assoc])
  | (refine zai ?_; simp [hne, hf0, hf3, del, Nat.add_assoc])
  | (refine zap ?_; simp only [zao])
  | (refine CallP.ok1 (hh1 _ (by first | omega | (simp; done) | (simp; omega) | fail)) (by first | (simp [hne, hf0, hf3, del, Nat.add_assoc, zaa, getK, zab, zac]; done) | fail) (by rfl) (by rfl) ?_; (try simp [hne, hf0, hf3, del, Nat.add_assoc]))
  | (refine CallP.ok1 (hh2 _ (by first | omega | (simp; done) | (simp; omega) | fail)) (by first | (simp [hne, hf0, hf3, del, Nat.add_assoc, zaa, getK, zab, zac]; done) | fail) (by rfl) (by rfl) ?_; (try simp [hne, hf0, hf3, del, Nat.add_assoc]))
  | (refine CallP.zeb (ha _ (by first | omega | (simp; done) | (simp; omega) | fail)) (by first | (simp [hne, hf0, hf3, del, Nat.add_assoc, zaa, getK, zab, zac]; done) | fail) (by rfl) (by first | assumption | (simp; done) | fail) (by rfl) (by simp) ?_; rintro ob' ⟨q', rfl⟩; refine ⟨_, Wk.refl _, ?_⟩)
  | fail)
  (refine hpan _ _ ⟨{ n := _, env := [], obs := [(i, pOb l q')], next := nx }, (Wk.cut rfl (by simp [hn]) (by simp [wkO, zaa, getK, zab, zac, Ob.under, D.under, zad, zae, hi, hne, zab, zac, zaa, getK]) (by simp [wkU, zan, zaa, getK, D.under, hi, hne, zab, zac, zaa, getK]) (by simp [wkE, zan, zaa, getK, hi, hne, zab, zac, zaa, getK])), by simp [hn], ?_⟩; try simp)
  exact PPost.zaw (by simp [PR.bind, *])
 | ok v0 q0 =>
  have ha := fun nx' h => zcY (ha nx' h) hr0
  (refine RetX.of_bodyW Tryz.func95 rfl (by simp) fun Γ hn hpan => ?_); simp only [entry, List.zipIdx_cons, List.zipIdx_nil, List.map_cons, List.map_nil, Nat.zero_add, Tryz.ntmps95]
  repeat' (first
  | (refine zaf ?_; simp [hne, hf0, hf3, del, Nat.add_assoc])
  | (refine zal ?_; simp [hne, hf0, hf3, del, Nat.add_assoc])
  | (refine zah ?_; simp [hne, hf0, hf3, del, Nat.add_assoc])
  | (refine zai ?_; simp [hne, hf0, hf3, del, Nat.add_assoc])
  | (refine zar ?_; simp only [zao])
  | (refine zap ?_; simp only [zao])
  | (refine CallP.ok1 (hh1 _ (by first | omega | (simp; done) | (simp; omega) | fail)) (by first | (simp [hne, hf0, hf3, del, Nat.add_assoc, zaa, getK, zab, zac]; done) | fail) (by rfl) (by rfl) ?_; (try simp [hne, hf0, hf3, del, Nat.add_assoc]))
  | (refine CallP.ok1 (hh2 _ (by first | omega | (simp; done) | (simp; omega) | fail)) (by first | (simp [hne, hf0, hf3, del, Nat.add_assoc, zaa, getK, zab, zac]; done) | fail) (by rfl) (by rfl) ?_; (try simp [hne, hf0, hf3, del, Nat.add_assoc]))
  | (refine CallP.ok1 (ha _ (by first | omega | (simp; done) | (simp; omega) | fail)) (by first | (simp [hne, hf0, hf3, del, Nat.add_assoc, zaa, getK, zab, zac]; done) | fail) (by rfl) (by rfl) ?_; (try simp [hne, hf0, hf3, del, Nat.add_assoc]))
  | fail)
  refine EndW.norm ?_
  simp [St.norm, zbl, zb8, zcx, zcy, hne, Nat.add_assoc]
  (refine EndW.here ?_; (first | (refine EndOK.fin (.inr rfl) ?_) | (refine EndOK.fin (.inl rfl) ?_)); simp [zaL, zag, Tryz.results95, hne, hi]; refine FinOK.cut [(i, pOb l q0)] (nx) (by simp [zaa, getK, zab, zac, Ob.under, D.under, zad, zae, hne, hi] <;> omega) (by simp [D.under]) (by simp [hn]) ?_; try simp)
  exact PPost.zcw (by simp [PR.bind, *]; rfl) (by simp [Exp.row_eq, Exp.op, Exp.n, Exp.unit, Exp.s, Exp.args]) rfl
theorem zjq {l : List Tok} (hl : TokOK l) {f p : Nat} {form : Int} (hP : zib l f) (hp : p < l.length) (hf : 4 * (l.length - p) + 1 ≤ f)
  (hf0 : ¬ form = 0) (hf3 : form ≤ 3) (h2 : isB l p [110, 111, 116] = false) {i nx : Nat} (hi : i < nx) :
  RetX Tryz.prog 95 [.ptr i 0, ziD form] [(i, pOb l p)] nx (PPost l i nx zjz (za4 l (f + 1) p form)) := by
 have hne := zaB hi
 have hll := hl.len
 rw [za4]
 have hh2 := fun nx' (h : nx ≤ nx') => zbg l p [110, 111, 116] i nx' (by omega) hp hl.len
 rw [h2] at hh2
 simp only [if_true, Bool.false_eq_true, if_false] at hh2
 rw [if_neg (by simp [*]), if_neg (by simp [*])]
 have ha := fun nx' (h : nx ≤ nx') => hP p i nx' (by omega) hp (by omega)
 cases hr0 : zaO l f p with
 | stop pos e =>
  simp only [hr0] at ha
  (refine RetX.of_bodyW Tryz.func95 rfl (by simp) fun Γ hn hpan => ?_); simp only [entry, List.zipIdx_cons, List.zipIdx_nil, List.map_cons, List.map_nil, Nat.zero_add, Tryz.ntmps95]
  repeat' (first
  | (refine zaf ?_; simp [hne, hf0, hf3, del, Nat.add_assoc])
  | (refine zal ?_; simp [hne, hf0, hf3, del, Nat.add_assoc])
  | (refine zah ?_; simp [hne, hf0, hf3, del, Nat.add_assoc])
  | (refine zai ?_; simp [hne, hf0, hf3, del, Nat.add_assoc])
  | (refine zap ?_; simp only [zao])
  | (refine CallP.ok1 (hh2 _ (by first | omega | (simp; done) | (simp; omega) | fail)) (by first | (simp [hne, hf0, hf3, del, Nat.add_assoc, zaa, getK, zab, zac]; done) | fail) (by rfl) (by rfl) ?_; (try simp [hne, hf0, hf3, del, Nat.add_assoc]))
  | (refine CallP.zeb (ha _ (by first | omega | (simp; done) | (simp; omega) | fail)) (by first | (simp [hne, hf0, hf3, del, Nat.add_assoc, zaa, getK, zab, zac]; done) | fail) (by rfl) (by first | assumption | (simp; done) | fail) (by rfl) (by simp) ?_; rintro ob' ⟨q', rfl⟩; refine ⟨_, Wk.refl _, ?_⟩)
  | fail)
  (refine hpan _ _ ⟨{ n := _, env := [], obs := [(i, pOb l q')], next := nx }, (Wk.cut rfl (by simp [hn]) (by simp [wkO, zaa, getK, zab, zac, Ob.under, D.under, zad, zae, hi, hne, zab, zac, zaa, getK]) (by simp [wkU, zan, zaa, getK, D.under, hi, hne, zab, zac, zaa, getK]) (by simp [wkE, zan, zaa, getK, hi, hne, zab, zac, zaa, getK])), by simp [hn], ?_⟩; try simp)
  exact PPost.zaw (by simp [PR.bind, *])
 | ok v0 q0 =>
  have ha := fun nx' h => zcY (ha nx' h) hr0
  (refine RetX.of_bodyW Tryz.func95 rfl (by simp) fun Γ hn hpan => ?_); simp only [entry, List.zipIdx_cons, List.zipIdx_nil, List.map_cons, List.map_nil, Nat.zero_add, Tryz.ntmps95]
  repeat' (first
  | (refine zaf ?_; simp [hne, hf0, hf3, del, Nat.add_assoc])
  | (refine zal ?_; simp [hne, hf0, hf3, del, Nat.add_assoc])
  | (refine zah ?_; simp [hne, hf0, hf3, del, Nat.add_assoc])
  | (refine zai ?_; simp [hne, hf0, hf3, del, Nat.add_assoc])
  | (refine zar ?_; simp only [zao])
  | (refine zap ?_; simp only [zao])
  | (refine CallP.ok1 (hh2 _ (by first | omega | (simp; done) | (simp; omega) | fail)) (by first | (simp [hne, hf0, hf3, del, Nat.add_assoc, zaa, getK, zab, zac]; done) | fail) (by rfl) (by rfl) ?_; (try simp [hne, hf0, hf3, del, Nat.add_assoc]))
  | (refine CallP.ok1 (ha _ (by first | omega | (simp; done) | (simp; omega) | fail)) (by first | (simp [hne, hf0, hf3, del, Nat.add_assoc, zaa, getK, zab, zac]; done) | fail) (by rfl) (by rfl) ?_; (try simp [hne, hf0, hf3, del, Nat.add_assoc]))
  | fail)
  refine EndW.norm ?_
  simp [St.norm, zbl, zb8, zcx, zcy, hne, Nat.add_assoc]
  (refine EndW.here ?_; (first | (refine EndOK.fin (.inr rfl) ?_) | (refine EndOK.fin (.inl rfl) ?_)); simp [zaL, zag, Tryz.results95, hne, hi]; refine FinOK.cut [(i, pOb l q0)] (nx) (by simp [zaa, getK, zab, zac, Ob.under, D.under, zad, zae, hne, hi] <;> omega) (by simp [D.under]) (by simp [hn]) ?_; try simp)
  exact PPost.zcw (by simp [PR.bind, *]; rfl) (by simp [Exp.row_eq, Exp.op, Exp.n, Exp.unit, Exp.s, Exp.args]) rfl
theorem zjp {l : List Tok} (hl : TokOK l) {f p : Nat} {form : Int} (hP : zib l f) (hp : p < l.length) (hf : 4 * (l.length - p) + 1 ≤ f)
  (hf0 : ¬ form = 0) (hf3 : ¬ form ≤ 3) {i nx : Nat} (hi : i < nx) :
  RetX Tryz.prog 95 [.ptr i 0, ziD form] [(i, pOb l p)] nx (PPost l i nx zjz (za4 l (f + 1) p form)) := by
 have hne := zaB hi
 have hll := hl.len
 rw [za4]
 rw [if_neg (by simp [*]), if_neg (by simp [*])]
 have ha := fun nx' (h : nx ≤ nx') => hP p i nx' (by omega) hp (by omega)
 cases hr0 : zaO l f p with
 | stop pos e =>
  simp only [hr0] at ha
  (refine RetX.of_bodyW Tryz.func95 rfl (by simp) fun Γ hn hpan => ?_); simp only [entry, List.zipIdx_cons, List.zipIdx_nil, List.map_cons, List.map_nil, Nat.zero_add, Tryz.ntmps95]
  repeat' (first
  | (refine zaf ?_; simp [hne, hf0, hf3, del, Nat.add_assoc])
  | (refine zal ?_; simp [hne, hf0, hf3, del, Nat.add_assoc])
  | (refine zah ?_; simp [hne, hf0, hf3, del, Nat.add_assoc])
  | (refine zai ?_; simp [hne, hf0, hf3, del, Nat.add_assoc])
  | (refine zap ?_; simp only [zao])
  | (refine CallP.zeb (ha _ (by first | omega | (simp; done) | (simp; omega) | fail)) (by first | (simp [hne, hf0, hf3, del, Nat.add_assoc, zaa, getK, zab, zac]; done) | fail) (by rfl) (by first | assumption | (simp; done) | fail) (by rfl) (by simp) ?_; rintro ob' ⟨q', rfl⟩; refine ⟨_, Wk.refl _, ?_⟩)
  | fail)
  (refine hpan _ _ ⟨{ n := _, env := [], obs := [(i, pOb l q')], next := nx }, (Wk.cut rfl (by simp [hn]) (by simp [wkO, zaa, getK, zab, zac, Ob.under, D.under, zad, zae, hi, hne, zab, zac, zaa, getK]) (by simp [wkU, zan, zaa, getK, D.under, hi, hne, zab, zac, zaa, getK]) (by simp [wkE, zan, zaa, getK, hi, hne, zab, zac, zaa, getK])), by simp [hn], ?_⟩; try simp)
  exact PPost.zaw (by simp [PR.bind, *])
 | ok v0 q0 =>
  have ha := fun nx' h => zcY (ha nx' h) hr0
  (refine RetX.of_bodyW Tryz.func95 rfl (by simp) fun Γ hn hpan => ?_); simp only [entry, List.zipIdx_cons, List.zipIdx_nil, List.map_cons, List.map_nil, Nat.zero_add, Tryz.ntmps95]
  repeat' (first
  | (refine zaf ?_; simp [hne, hf0, hf3, del, Nat.add_assoc])
  | (refine zal ?_; simp [hne, hf0, hf3, del, Nat.add_assoc])
  | (refine zah ?_; simp [hne, hf0, hf3, del, Nat.add_assoc])
  | (refine zai ?_; simp [hne, hf0, hf3, del, Nat.add_assoc])
  | (refine zar ?_; simp only [zao])
  | (refine zap ?_; simp only [zao])
  | (refine CallP.ok1 (ha _ (by first | omega | (simp; done) | (simp; omega) | fail)) (by first | (simp [hne, hf0, hf3, del, Nat.add_assoc, zaa, getK, zab, zac]; done) | fail) (by rfl) (by rfl) ?_; (try simp [hne, hf0, hf3, del, Nat.add_assoc]))
  | fail)
  refine EndW.norm ?_
  simp [St.norm, zbl, zb8, zcx, zcy, hne, Nat.add_assoc]
  (refine EndW.here ?_; (first | (refine EndOK.fin (.inr rfl) ?_) | (refine EndOK.fin (.inl rfl) ?_)); simp [zaL, zag, Tryz.results95, hne, hi]; refine FinOK.cut [(i, pOb l q0)] (nx) (by simp [zaa, getK, zab, zac, Ob.under, D.under, zad, zae, hne, hi] <;> omega) (by simp [D.under]) (by simp [hn]) ?_; try simp)
  exact PPost.zcw (by simp [PR.bind, *]; rfl) (by simp [Exp.row_eq, Exp.op, Exp.n, Exp.unit, Exp.s, Exp.args]) rfl
theorem zkA {l : List Tok} (hl : TokOK l) {f : Nat} (hE : zht l f) (hP : zib l f) : zqA l (f + 1) := by
 intro p form i nx hi hp hf hm0 hm7
 have hf' : 4 * (l.length - p) + 1 ≤ f := by omega
 by_cases hf0 : form = 0
 ·have hf3 : form ≤ 3 := by omega
  cases h1 : isB l p [105, 102] with
  | true => exact zm8 hl hE hp hf' hf0 h1 hi
  | false =>
   cases h2 : isB l p [110, 111, 116] with
   | true => exact zkC hl hE hp hf' hf0 hf3 h1 h2 hi
   | false => exact zjr hl hP hp hf' hf0 hf3 h1 h2 hi
 ·by_cases hf3 : form ≤ 3
  ·cases h2 : isB l p [110, 111, 116] with
   | true => exact zkB hl hE hp hf' hf0 hf3 h2 hi
   | false => exact zjq hl hP hp hf' hf0 hf3 h2 hi
  ·exact zjp hl hP hp hf' hf0 hf3 hi
end Go.Proofs.YthnemhfamhnfjaaGreatDoor
namespace Go.Proofs.YthnemhfamhnfjaaGreatDoor
open Go Go.VL
attribute [local simp] zcR zb0 evPure opd uOf zaH St.put St.at getK binD binI binS binB nilD aggD zgp zhi lookD lookR zcm Go.VL.nextD zcq zhv zhu zfX zcs mkV zdb zbj zbr mapEff zd1 zfM Key.kk shiftI arith unD convD zdH loadD cellsAt fieldAddrD fieldD indexAddrD indexD sliceD cutD lenD minmaxD nilCheckD buildD fillD zbH zcW zes setAll zcE zeJ zch zgC zcd St.add zaM zbB rowsOf zdw zcA zak zac zaa zba zcz zaR entry zbo zbq valD zb5 zcu zgh zc8 zda zbO zbG zau za2 zbm delAll effD St.effS zcM za6 zaY zcN za7 za0 zbY zaZ zaS zbZ zcH zbv zbV zbi zbT zbU zaJ mkD zbI zbs zbF zau zcf D.ids Op.operands Call.operands zbx makeIfD makeFuncD typeAssertD zhh zds zdt zgK zcn IntKind.bits zcG List.take_of_length_le List.range_succ
attribute [local irreducible] V G H HD HD2 zao Eff CallP CallV EndOK Fun Ret FinOK LoopI LoopW EndW
abbrev zqL (o : Opr) : D := .u (.agg [.str o.text, .int .i64 o.op, .int .i64 o.form])
abbrev zl4 (l : List Opr) : U := .sl (l.map fun o => [.str o.text, .int .i64 o.op, .int .i64 o.form])
theorem zeg : Fun Tryz.prog 97 [] (· = .u (zl4 oprs)) := by
 unfold zl4 oprs
 (refine Fun.of_bodyW Tryz.func97 rfl (by simp) fun Γ hn => ?_); simp only [entry, List.zipIdx_cons, List.zipIdx_nil, List.map_cons, List.map_nil, Nat.zero_add, Tryz.ntmps97]
 repeat' (first
  | (refine zaf ?_; simp [zbq, zbo])
  | (refine zal ?_; simp [zbq, zbo])
  | (refine zah ?_; simp [zbq, zbo])
  | (refine zar ?_; simp only [zao])
  | fail)
 (refine EndW.frzN 1 ?_; simp [frzN, frz1, zay, zax, St.frz, St.frzS, frzS, fv, zaz, za5, za8, zaF, zat, zaj, del, frz, za9])
 refine EndW.here ?_
 (refine EndOK.val (.inr rfl) ?_; simp [zaL, zag, zas, Tryz.results97])
theorem zpc (l : List Tok) (q : Nat) (o : Opr) (hq : q < l.length) (hl : l.length ≤ 1000000) : Fun Tryz.prog 98 (zqL o :: [U.row [zpO l q] 0].map .u) (· = .u (.bool (isB l q o.text))) := by
 have h1 := zdR l q o.text hq hl
 simp only [List.map_cons, List.map_nil, zqL]
 (refine Fun.of_body Tryz.func98 rfl (by simp) fun Γ hn => ?_); simp only [entry, List.zipIdx_cons, List.zipIdx_nil, List.map_cons, List.map_nil, Nat.zero_add, Tryz.ntmps98]
 repeat' (first
  | (refine zaf ?_; simp)
  | (refine zal ?_; simp)
  | (refine zah ?_; simp)
  | (refine zar ?_; simp only [zao])
  | (refine CallP.fE (h1) (by first | rfl | fail) (by first | (simp; done) | (simp; rfl) | fail) ?_; (try simp))
  | fail)
 (refine EndOK.val (.inr rfl) ?_; simp [zaL, zag, zas, Tryz.results98])
theorem zh0 (l : List (Opr)) (f : FuncId) (caps : List U) (p : Opr → Bool) (hf : ∀ n ∈ l, Fun Tryz.prog f (zqL n :: caps.map .u) (· = .u (.bool (p n)))) (hcl : zam Tryz.prog f = true)
  (hca : ∀ o, zcu o (caps.map .u) = some (caps.map .u, [])) : Fun Tryz.prog 96 [.u (zl4 l), .fnc (.func f) (caps.map .u)] (· = .u (.int .i64 (zhB p l 0))) := by
 (refine Fun.of_body Tryz.func96 rfl (by simp) fun Γ hn => ?_); simp only [entry, List.zipIdx_cons, List.zipIdx_nil, List.map_cons, List.map_nil, Nat.zero_add, Tryz.ntmps96]
 simp only [zl4]
 refine ziV (x := 0) rfl fun hl => ?_
 simp at hl
 repeat' (first
  | (refine zaf ?_; simp)
  | (refine zal ?_; simp)
  | (refine zah ?_; simp)
  | (refine zaA ?_; simp)
  | fail)
 refine zcT (α := { i : Nat // i ≤ l.length ∧ ∀ c ∈ l.take i, p c = false }) [0, 1, 7] (fun i => [(8, .u (.int .i64 i.1))]) (fun i => l.length - i.1) ⟨0, by omega, by simp⟩ ?_ ?_
 ·exact (Wk.env rfl rfl rfl (by simp [wkE, St.lp, zan, zaa, getK] <;> (try (intros; simp_all; done)) <;> (try (intros; omega)) <;> (try grind)))
 rintro ⟨i, hi, hb⟩
 simp [St.lp, St.only, zan, zaa, getK]
 rcases hx : l[i]? with _ | n
 ·have hge : l.length ≤ i := by simpa using hx
  repeat' (first
  | (refine zaf ?_; simp [hx])
  | (refine zal ?_; simp [hx])
  | (refine ⟨by omega, ?_⟩)
  | (refine zah ?_; simp [hx])
  | (refine zar ?_; simp only [zao])
  | (refine zbR ?_; simp [zao])
  | (intro hc <;> (try (exfalso; omega)))
  | fail)
  (refine EndOK.val (.inr rfl) ?_; simp [zaL, zag, zas, Tryz.results96])
  rw [List.take_of_length_le hge] at hb
  exact (zfs hb).symm
 ·have hlt : i < l.length := (List.getElem?_eq_some_iff.1 hx).1
  have h1 := hf n (List.mem_of_getElem? hx)
  simp only [zqL] at h1
  cases hp : p n
  ·rw [hp] at h1
   repeat' (first
  | (refine zaf ?_; simp [hx, hca])
  | (refine zal ?_; simp [hx, hca])
  | (refine ⟨by omega, ?_⟩)
  | (refine zah ?_; simp [hx, hca])
  | (refine zai ?_; simp [hx, hca])
  | (refine zaC ?_; simp [hx, hca])
  | (refine zap ?_; simp only [zao])
  | (refine ⟨?_, by omega⟩)
  | (intro hc <;> (try (exfalso; omega)))
  | (refine CallP.fE (h1) (by first | rfl | fail) (by first | (simp [hx, hca]; done) | (simp [hx, hca]; rfl) | fail) ?_; (try simp [hcl, hx, hca]))
  | fail)
   refine LoopW.next ⟨i + 1, by omega, zby hx hb hp⟩ (by simp; omega) ?_
   exact (Wk.env rfl rfl rfl (by simp [wkE, St.lp, zan, zaa, getK] <;> (try (intros; simp_all; done)) <;> (try (intros; omega)) <;> (try grind)))
  ·rw [hp] at h1
   repeat' (first
  | (refine zaf ?_; simp [hx, hca])
  | (refine zal ?_; simp [hx, hca])
  | (refine zah ?_; simp [hx, hca])
  | (refine zai ?_; simp [hx, hca])
  | (refine zar ?_; simp only [zao])
  | (refine zap ?_; simp only [zao])
  | (refine ⟨?_, by omega⟩)
  | (intro hc <;> (try (exfalso; omega)))
  | (refine CallP.fE (h1) (by first | rfl | fail) (by first | (simp [hx, hca]; done) | (simp [hx, hca]; rfl) | fail) ?_; (try simp [hcl, hx, hca]))
  | fail)
   (refine EndOK.val (.inr rfl) ?_; simp [zaL, zag, zas, Tryz.results96])
   rw [ziE hb hx hp]
   omega
theorem zft {p : Opr → Bool} : ∀ (L : List Opr) (k : Int), (L.find? p = none → zhB p L k = -1) ∧ ∀ x, L.find? p = some x → ∃ j : Nat, L[j]? = some x ∧ zhB p L k = k + j
 | [], k => ⟨fun _ => rfl, fun x h => by simp at h⟩
 | a :: L, k => by
  by_cases h : p a = true
  ·refine ⟨fun h1 => by simp [h] at h1, fun x h1 => ?_⟩
   rw [List.find?_cons, h] at h1
   cases h1
   exact ⟨0, rfl, by rw [zhB, if_pos h]; simp⟩
  ·have h' : p a = false := by simpa using h
   obtain ⟨h1, h2⟩ := zft L (k + 1)
   refine ⟨fun h3 => ?_, fun x h3 => ?_⟩
   ·rw [List.find?_cons, h'] at h3
    rw [zhB, if_neg h]
    exact h1 h3
   ·rw [List.find?_cons, h'] at h3
    obtain ⟨j, h4, h5⟩ := h2 x h3
    exact ⟨j + 1, h4, by rw [zhB, if_neg h, h5]; omega⟩
theorem zmr (l : List Tok) (q : Nat) (hq : q < l.length) (hl : l.length ≤ 1000000) : Fun Tryz.prog 96 [.u (zl4 oprs), .fnc (.func 98) [.u (.row [zpO l q] 0)]]
  (· = .u (.int .i64 (zhB (fun o => isB l q o.text) oprs 0))) :=
 zh0 oprs 98 [U.row [zpO l q] 0] (fun o => isB l q o.text) (fun o _ => zpc l q o hq hl) rfl (fun o => rfl)
end Go.Proofs.YthnemhfamhnfjaaGreatDoor
namespace Go.Proofs.YthnemhfamhnfjaaGreatDoor
open Go Go.VL
attribute [local simp] HS zcR zb0 evPure opd uOf zaH St.put St.at getK binD binI binS binB nilD aggD zgp zhi lookD lookR zcm Go.VL.nextD zcq zhv zhu zfX zcs mkV zdb zbj zbr mapEff zd1 zfM Key.kk shiftI arith unD convD zdH loadD cellsAt fieldAddrD fieldD indexAddrD indexD sliceD cutD lenD minmaxD nilCheckD buildD fillD zbH zcW zes setAll zcE zeJ zch zgC zcd St.add zaM zbB rowsOf zdw zcA zak zac zaa zba zcz zaR entry zbo zbq valD zb5 zcu zgh zc8 zda zbO zbG zau za2 zbm delAll effD St.effS zcM za6 zaY zcN za7 za0 zbY zaZ zaS zbZ zcH zbv zbV zbi zbT zbU zaJ mkD zbI zbs zbF zau zcf D.ids Op.operands Call.operands zbx makeIfD makeFuncD typeAssertD zhh zds zdt zgK zcn IntKind.bits zcG List.take_of_length_le List.range_succ
attribute [local irreducible] V G H HD HD2 HD4 zkk RetX zao Eff CallP CallV EndOK Fun Ret FinOK LoopI LoopW EndW
theorem zqV {l : List Tok} {F : FuncId} {r : PR (Exp × Int)} {e : Exp × Int} {q i nx : Nat} {ds : List D} {obs : List (Nat × Ob)} (h : RetX Tryz.prog F ds obs nx (PPost l i nx zjz r)) (hr : r = .ok e q) :
  RetX Tryz.prog F ds obs nx fun r o n => r = .val (.tup [.u (.agg [.int .i64 e.1.op, .int .i64 e.1.n, .int .i64 e.1.unit, .str e.1.s, .sl (e.1.args.map Exp.row)]), .u (.int .i64 e.2)]) ∧ o = [(i, pOb l q)] ∧ n = nx := by
 subst hr
 rw [← Exp.row_eq]
 exact h
abbrev zrN (e : Exp) : Ob := .box [.u (.int .i64 e.op), .u (.int .i64 e.n), .u (.int .i64 e.unit), .u (.str e.s), .u (.sl (e.args.map Exp.row))]
theorem zpa {l : List Tok} (hl : TokOK l) {f : Nat} (hE : ∀ g, g < f → zht l g) (hP : zqA l f) : zht l (f + 1) := by
 intro p form i nx hi hp hf hm0 hm7
 have hne := zaB hi
 have hll := hl.len
 rw [zc6]
 have ha := fun nx' (h : nx ≤ nx') => hP p form i nx' (by omega) hp (by omega) hm0 hm7
 have hop := zeg
 cases hr0 : za4 l f p form with
 | stop pos e =>
  simp only [hr0] at ha
  (refine RetX.of_bodyW Tryz.func41 rfl (by simp) fun Γ hn hpan => ?_); simp only [entry, List.zipIdx_cons, List.zipIdx_nil, List.map_cons, List.map_nil, Nat.zero_add, Tryz.ntmps41]
  repeat' (first
  | (refine zaf ?_; simp [hne, del, Nat.add_assoc])
  | (refine zal ?_; simp [hne, del, Nat.add_assoc])
  | (refine zah ?_; simp [hne, del, Nat.add_assoc])
  | (refine CallP.zeb (ha _ (by first | omega | (simp; done) | (simp; omega) | fail)) (by first | (simp [hne, del, Nat.add_assoc, zaa, getK, zab, zac]; done) | fail) (by rfl) (by first | assumption | (simp; done) | fail) (by rfl) (by simp) ?_; rintro ob' ⟨q', rfl⟩; refine ⟨_, Wk.refl _, ?_⟩)
  | fail)
  (refine hpan _ _ ⟨{ n := _, env := [], obs := [(i, pOb l q')], next := nx }, (Wk.cut rfl (by simp [hn]) (by simp [wkO, zaa, getK, zab, zac, Ob.under, D.under, zad, zae, hi, hne, zab, zac, zaa, getK]) (by simp [wkU, zan, zaa, getK, D.under, hi, hne, zab, zac, zaa, getK]) (by simp [wkE, zan, zaa, getK, hi, hne, zab, zac, zaa, getK])), by simp [hn], ?_⟩; try simp)
  exact PPost.zaw (by simp [PR.bind, *])
 | ok v0 q0 =>
  have ha := fun nx' h => zqV (ha nx' h) hr0
  obtain ⟨g0a, g0b⟩ := (zb2 hl f).2.2.1 _ _ _ _ hr0 hp
  generalize hR : (PR.ok v0 q0).bind (fun e q => zdr l f form e.1 e.2 q) = R
  have hR' : R = zdr l f form v0.1 v0.2 q0 := hR.symm
  (refine RetX.of_bodyW Tryz.func41 rfl (by simp) fun Γ hn hpan => ?_); simp only [entry, List.zipIdx_cons, List.zipIdx_nil, List.map_cons, List.map_nil, Nat.zero_add, Tryz.ntmps41]
  repeat' (first
  | (refine zaf ?_; simp [hne, del, Nat.add_assoc])
  | (refine zal ?_; simp [hne, del, Nat.add_assoc])
  | (refine zah ?_; simp [hne, del, Nat.add_assoc])
  | (refine zaA ?_; simp [hne, del, Nat.add_assoc])
  | (refine CallP.ok1 (ha _ (by first | omega | (simp; done) | (simp; omega) | fail)) (by first | (simp [hne, del, Nat.add_assoc, zaa, getK, zab, zac]; done) | fail) (by rfl) (by rfl) ?_; (try simp [hne, del, Nat.add_assoc]))
  | fail)
  refine zdY (α := { x : Exp × Int × Nat × Nat // x.2.2.1 < l.length ∧ 4 * (l.length - x.2.2.1) + 2 ≤ x.2.2.2 ∧ x.2.2.2 ≤ f ∧ R = zdr l x.2.2.2 form x.1 x.2.1 x.2.2.1 }) [0, 1, 2, 4, 5] (fun x => [(6, .u (.int .i64 x.1.2.1))])
   (fun x => [(nx + 2, zrN x.1.1), (nx + 1, .box [.u (.int .i64 0), .u (.int .i64 0), .u (.int .i64 0), .u (.str []), .u .nil]), (nx, .box [.ptr i 0]), (i, pOb l x.1.2.2.1)]) (nx + 3) (fun x => x.1.2.2.2) ⟨(v0.1, v0.2, q0, f), g0b, (by show 4 * (l.length - q0) + 2 ≤ f; omega), (by show f ≤ f; omega), hR'⟩ ?_ ?_
  ·have hi3 : i < nx + 3 := by omega
   exact (Wk.cut rfl (by simp [hn, St.lp]) (by simp [wkO, St.lp, zaa, getK, Ob.under, D.under, zad, zae, hi, hi3, hne]) (by simp [wkU, St.lp, zan, zaa, getK, D.under, hi, hi3, hne]) (by simp [wkE, St.lp, zan, zaa, getK, hi, hi3, hne] <;> (try (intros; simp_all; done)) <;> (try (intros; omega)) <;> (try grind)))
  rintro ⟨⟨e, own, q, g⟩, h1, h2, h2b, h3⟩
  simp only at h1 h2 h2b h3
  simp [St.lp, St.only, zan, zaa, getK]
  obtain ⟨g, rfl⟩ : ∃ g', g = g' + 1 := ⟨g - 1, by omega⟩
  rw [zdr] at h3
  have hix := zmr l q h1 hl.len
  cases hx : zeX l q with
  | none =>
   rw [(zft oprs 0).1 hx] at hix
   rw [hx] at h3
   repeat' (first
  | (refine zaf ?_; simp [hne, del, Nat.add_assoc])
  | (refine zal ?_; simp [hne, del, Nat.add_assoc])
  | (refine zah ?_; simp [hne, del, Nat.add_assoc])
  | (refine zai ?_; simp [hne, del, Nat.add_assoc])
  | (refine zaA ?_; simp [hne, del, Nat.add_assoc])
  | (refine zar ?_; simp only [zao])
  | (refine CallP.fE (hop) (by first | rfl | fail) (by first | (simp [hne, del, Nat.add_assoc]; done) | (simp [hne, del, Nat.add_assoc]; rfl) | fail) ?_; (try simp [hne, del, Nat.add_assoc]))
  | (refine CallP.fE (hix) (by first | rfl | fail) (by first | (simp [hne, del, Nat.add_assoc]; done) | (simp [hne, del, Nat.add_assoc]; rfl) | fail) ?_; (try simp [hne, del, Nat.add_assoc]))
  | fail)
   refine EndW.norm ?_
   simp [St.norm, zbl, zb8, zcx, zcy, hne, Nat.add_assoc]
   (refine EndW.here ?_; (first | (refine EndOK.fin (.inr rfl) ?_) | (refine EndOK.fin (.inl rfl) ?_)); simp [zaL, zag, Tryz.results41, hne, hi]; refine FinOK.cut [(i, pOb l q)] (nx) (by simp [zaa, getK, zab, zac, Ob.under, D.under, zad, zae, hne, hi] <;> omega) (by simp [D.under]) (by simp [hn]) ?_; try simp)
   exact PPost.zcw h3 (by simp [Exp.row_eq]) rfl
  | some x =>
   obtain ⟨k, hk1, hk2⟩ := (zft oprs 0).2 x hx
   rw [hk2] at hix
   rw [hx] at h3
   simp only at h3
   have hqb := zbf hl (by have := List.find?_some (p := fun o : Opr => isB l q o.text) hx; exact this)
   have hk0 : ¬ ((k : Int) < 0) := by omega
   have hkl : k < 8 := (List.getElem?_eq_some_iff.1 hk1).1
   rw [show (0 : Int) + k = (k : Int) by omega] at hix
   have hfm : 0 ≤ x.form ∧ x.form ≤ 6 := by
    have := List.mem_of_getElem? hk1
    simp only [oprs, List.mem_cons, List.not_mem_nil, or_false] at this
    rcases this with rfl | rfl | rfl | rfl | rfl | rfl | rfl | rfl <;> decide
   obtain ⟨hf0, hf6⟩ := hfm
   generalize hL : oprs = L at hop hix hk1
   by_cases c1 : x.form < form
   ·rw [if_pos (Or.inl c1)] at h3
    repeat' (first
  | (refine zaf ?_; simp [hne, del, Nat.add_assoc, hk0, hk1, c1])
  | (refine zal ?_; simp [hne, del, Nat.add_assoc, hk0, hk1, c1])
  | (refine zah ?_; simp [hne, del, Nat.add_assoc, hk0, hk1, c1])
  | (refine zai ?_; simp [hne, del, Nat.add_assoc, hk0, hk1, c1])
  | (refine zaA ?_; simp [hne, del, Nat.add_assoc, hk0, hk1, c1])
  | (refine zar ?_; simp only [zao])
  | (refine zap ?_; simp only [zao])
  | (refine CallP.fE (hop) (by first | rfl | fail) (by first | (simp [hne, del, Nat.add_assoc, hk0, hk1, c1]; done) | (simp [hne, del, Nat.add_assoc, hk0, hk1, c1]; rfl) | fail) ?_; (try simp [hne, del, Nat.add_assoc, hk0, hk1, c1]))
  | (refine CallP.fE (hix) (by first | rfl | fail) (by first | (simp [hne, del, Nat.add_assoc, hk0, hk1, c1]; done) | (simp [hne, del, Nat.add_assoc, hk0, hk1, c1]; rfl) | fail) ?_; (try simp [hne, del, Nat.add_assoc, hk0, hk1, c1]))
  | fail)
    refine EndW.norm ?_
    simp [St.norm, zbl, zb8, zcx, zcy, hne, Nat.add_assoc]
    (refine EndW.here ?_; (first | (refine EndOK.fin (.inr rfl) ?_) | (refine EndOK.fin (.inl rfl) ?_)); simp [zaL, zag, Tryz.results41, hne, hi]; refine FinOK.cut [(i, pOb l q)] (nx) (by simp [zaa, getK, zab, zac, Ob.under, D.under, zad, zae, hne, hi] <;> omega) (by simp [D.under]) (by simp [hn]) ?_; try simp)
    exact PPost.zcw h3 (by simp [Exp.row_eq]) rfl
   ·by_cases c2 : own < x.form
    ·rw [if_pos (Or.inr (Or.inl c2))] at h3
     repeat' (first
  | (refine zaf ?_; simp [hne, del, Nat.add_assoc, hk0, hk1, c1, c2])
  | (refine zal ?_; simp [hne, del, Nat.add_assoc, hk0, hk1, c1, c2])
  | (refine zah ?_; simp [hne, del, Nat.add_assoc, hk0, hk1, c1, c2])
  | (refine zai ?_; simp [hne, del, Nat.add_assoc, hk0, hk1, c1, c2])
  | (refine zaA ?_; simp [hne, del, Nat.add_assoc, hk0, hk1, c1, c2])
  | (refine zar ?_; simp only [zao])
  | (refine zap ?_; simp only [zao])
  | (refine CallP.fE (hop) (by first | rfl | fail) (by first | (simp [hne, del, Nat.add_assoc, hk0, hk1, c1, c2]; done) | (simp [hne, del, Nat.add_assoc, hk0, hk1, c1, c2]; rfl) | fail) ?_; (try simp [hne, del, Nat.add_assoc, hk0, hk1, c1, c2]))
  | (refine CallP.fE (hix) (by first | rfl | fail) (by first | (simp [hne, del, Nat.add_assoc, hk0, hk1, c1, c2]; done) | (simp [hne, del, Nat.add_assoc, hk0, hk1, c1, c2]; rfl) | fail) ?_; (try simp [hne, del, Nat.add_assoc, hk0, hk1, c1, c2]))
  | fail)
     refine EndW.norm ?_
     simp [St.norm, zbl, zb8, zcx, zcy, hne, Nat.add_assoc]
     (refine EndW.here ?_; (first | (refine EndOK.fin (.inr rfl) ?_) | (refine EndOK.fin (.inl rfl) ?_)); simp [zaL, zag, Tryz.results41, hne, hi]; refine FinOK.cut [(i, pOb l q)] (nx) (by simp [zaa, getK, zab, zac, Ob.under, D.under, zad, zae, hne, hi] <;> omega) (by simp [D.under]) (by simp [hn]) ?_; try simp)
     exact PPost.zcw h3 (by simp [Exp.row_eq]) rfl
    ·by_cases c3 : own = 4 ∧ x.form = 4
     ·rw [if_pos (Or.inr (Or.inr c3))] at h3
      obtain ⟨c4, c5⟩ := c3
      repeat' (first
  | (refine zaf ?_; simp [hne, del, Nat.add_assoc, hk0, hk1, c1, c2, c4, c5])
  | (refine zal ?_; simp [hne, del, Nat.add_assoc, hk0, hk1, c1, c2, c4, c5])
  | (refine zah ?_; simp [hne, del, Nat.add_assoc, hk0, hk1, c1, c2, c4, c5])
  | (refine zai ?_; simp [hne, del, Nat.add_assoc, hk0, hk1, c1, c2, c4, c5])
  | (refine zaA ?_; simp [hne, del, Nat.add_assoc, hk0, hk1, c1, c2, c4, c5])
  | (refine zar ?_; simp only [zao])
  | (refine zap ?_; simp only [zao])
  | (refine ⟨?_, by omega⟩)
  | (intro hc <;> (try (exfalso; omega)))
  | (refine CallP.fE (hop) (by first | rfl | fail) (by first | (simp [hne, del, Nat.add_assoc, hk0, hk1, c1, c2, c4, c5]; done) | (simp [hne, del, Nat.add_assoc, hk0, hk1, c1, c2, c4, c5]; rfl) | fail) ?_; (try simp [hne, del, Nat.add_assoc, hk0, hk1, c1, c2, c4, c5]))
  | (refine CallP.fE (hix) (by first | rfl | fail) (by first | (simp [hne, del, Nat.add_assoc, hk0, hk1, c1, c2, c4, c5]; done) | (simp [hne, del, Nat.add_assoc, hk0, hk1, c1, c2, c4, c5]; rfl) | fail) ?_; (try simp [hne, del, Nat.add_assoc, hk0, hk1, c1, c2, c4, c5]))
  | fail)
      refine EndW.norm ?_
      simp [St.norm, zbl, zb8, zcx, zcy, hne, Nat.add_assoc]
      (refine EndW.here ?_; (first | (refine EndOK.fin (.inr rfl) ?_) | (refine EndOK.fin (.inl rfl) ?_)); simp [zaL, zag, Tryz.results41, hne, hi]; refine FinOK.cut [(i, pOb l q)] (nx) (by simp [zaa, getK, zab, zac, Ob.under, D.under, zad, zae, hne, hi] <;> omega) (by simp [D.under]) (by simp [hn]) ?_; try simp)
      exact PPost.zcw h3 (by simp [Exp.row_eq]) rfl
     ·rw [if_neg (by rintro (h | h | h) <;> contradiction)] at h3
      have hb := fun nx' (h : nx ≤ nx') => hE g (by omega) (q + 1) (x.form + 1) i nx' (by omega) hqb (by omega) (by omega) (by omega)
      cases hr1 : zc6 l g (q + 1) (x.form + 1) with
      | stop pos err =>
       simp only [hr1] at hb
       rw [hr1] at h3
       by_cases c4 : own = 4
       ·have c5 : ¬ x.form = 4 := fun h => c3 ⟨c4, h⟩
        repeat' (first
  | (refine zfK (fun nx' h' => hb nx' (by simp at h'; omega)) (by first | (simp [hne, del, Nat.add_assoc, hk0, hk1, c1, c2, c4, c5, zaa, getK, zab, zac, zak, zaJ]; done) | fail) (by rfl) (by first | assumption | simp) (by rfl) (by simp) ?_ ?_; rintro env' ob' n' hn' ⟨q', rfl⟩; refine ⟨_, Wk.refl _, ?_⟩)
  | (refine zeK rfl (by simp) ?_; simp)
  | (refine zaf ?_; simp [hne, del, Nat.add_assoc, hk0, hk1, c1, c2, c4, c5])
  | (refine zbt rfl ?_; simp [hne, del, Nat.add_assoc, hk0, hk1, c1, c2, c4, c5])
  | (refine zal ?_; simp [hne, del, Nat.add_assoc, hk0, hk1, c1, c2, c4, c5])
  | (refine ⟨by omega, ?_⟩)
  | (refine zah ?_; simp [hne, del, Nat.add_assoc, hk0, hk1, c1, c2, c4, c5])
  | (refine zai ?_; simp [hne, del, Nat.add_assoc, hk0, hk1, c1, c2, c4, c5])
  | (refine zfL (hC _ (zcr [i] nx (by simp <;> omega) (by simp <;> omega) (by apply Exists.intro; apply And.intro; (focus (repeat' (first | exact KF.nil | exact KL.nil | apply KF.cons | apply KL.cons 0 rfl | apply KL.cons 1 rfl | apply KL.cons 2 rfl | apply KL.cons 3 rfl | apply KL.cons 4 rfl | apply KL.cons 5 rfl | apply KL.cons 6 rfl | apply KL.cons 7 rfl | apply KL.cons 8 rfl | apply KL.cons 9 rfl))); kernel_rfl))) rfl; done)
  | (refine zb6 rfl (by kernel_rfl) (by first | (simp [hn]; done) | (simp [hn]; omega) | fail) fun C k hC hk => ?_; simp [hne, del, Nat.add_assoc, hk0, hk1, c1, c2, c4, c5])
  | (refine zaA ?_; simp [hne, del, Nat.add_assoc, hk0, hk1, c1, c2, c4, c5])
  | (refine zap ?_; simp only [zao])
  | (refine ⟨?_, by omega⟩)
  | (intro hc <;> (try (exfalso; omega)))
  | (refine CallP.fE (hop) (by first | rfl | fail) (by first | (simp [hne, del, Nat.add_assoc, hk0, hk1, c1, c2, c4, c5]; done) | (simp [hne, del, Nat.add_assoc, hk0, hk1, c1, c2, c4, c5]; rfl) | fail) ?_; (try simp [hne, del, Nat.add_assoc, hk0, hk1, c1, c2, c4, c5]))
  | (refine CallP.fE (hix) (by first | rfl | fail) (by first | (simp [hne, del, Nat.add_assoc, hk0, hk1, c1, c2, c4, c5]; done) | (simp [hne, del, Nat.add_assoc, hk0, hk1, c1, c2, c4, c5]; rfl) | fail) ?_; (try simp [hne, del, Nat.add_assoc, hk0, hk1, c1, c2, c4, c5]))
  | fail)
        (refine hpan _ _ ⟨{ n := _, env := [], obs := [(i, pOb l q')], next := nx }, (Wk.cut rfl (by simp [hn]) (by simp [wkO, zaa, getK, zab, zac, Ob.under, D.under, zad, zae, hi, hne, zab, zac, zaa, getK]) (by simp [wkU, zan, zaa, getK, D.under, hi, hne, zab, zac, zaa, getK]) (by simp [wkE, zan, zaa, getK, hi, hne, zab, zac, zaa, getK])), by simp [hn], ?_⟩; try simp)
        exact PPost.zaw h3
       ·repeat' (first
  | (refine zfK (fun nx' h' => hb nx' (by simp at h'; omega)) (by first | (simp [hne, del, Nat.add_assoc, hk0, hk1, c1, c2, c4, zaa, getK, zab, zac, zak, zaJ]; done) | fail) (by rfl) (by first | assumption | simp) (by rfl) (by simp) ?_ ?_; rintro env' ob' n' hn' ⟨q', rfl⟩; refine ⟨_, Wk.refl _, ?_⟩)
  | (refine zeK rfl (by simp) ?_; simp)
  | (refine zaf ?_; simp [hne, del, Nat.add_assoc, hk0, hk1, c1, c2, c4])
  | (refine zbt rfl ?_; simp [hne, del, Nat.add_assoc, hk0, hk1, c1, c2, c4])
  | (refine zal ?_; simp [hne, del, Nat.add_assoc, hk0, hk1, c1, c2, c4])
  | (refine ⟨by omega, ?_⟩)
  | (refine zah ?_; simp [hne, del, Nat.add_assoc, hk0, hk1, c1, c2, c4])
  | (refine zai ?_; simp [hne, del, Nat.add_assoc, hk0, hk1, c1, c2, c4])
  | (refine zfL (hC _ (zcr [i] nx (by simp <;> omega) (by simp <;> omega) (by apply Exists.intro; apply And.intro; (focus (repeat' (first | exact KF.nil | exact KL.nil | apply KF.cons | apply KL.cons 0 rfl | apply KL.cons 1 rfl | apply KL.cons 2 rfl | apply KL.cons 3 rfl | apply KL.cons 4 rfl | apply KL.cons 5 rfl | apply KL.cons 6 rfl | apply KL.cons 7 rfl | apply KL.cons 8 rfl | apply KL.cons 9 rfl))); kernel_rfl))) rfl; done)
  | (refine zb6 rfl (by kernel_rfl) (by first | (simp [hn]; done) | (simp [hn]; omega) | fail) fun C k hC hk => ?_; simp [hne, del, Nat.add_assoc, hk0, hk1, c1, c2, c4])
  | (refine zaA ?_; simp [hne, del, Nat.add_assoc, hk0, hk1, c1, c2, c4])
  | (refine zap ?_; simp only [zao])
  | (refine CallP.fE (hop) (by first | rfl | fail) (by first | (simp [hne, del, Nat.add_assoc, hk0, hk1, c1, c2, c4]; done) | (simp [hne, del, Nat.add_assoc, hk0, hk1, c1, c2, c4]; rfl) | fail) ?_; (try simp [hne, del, Nat.add_assoc, hk0, hk1, c1, c2, c4]))
  | (refine CallP.fE (hix) (by first | rfl | fail) (by first | (simp [hne, del, Nat.add_assoc, hk0, hk1, c1, c2, c4]; done) | (simp [hne, del, Nat.add_assoc, hk0, hk1, c1, c2, c4]; rfl) | fail) ?_; (try simp [hne, del, Nat.add_assoc, hk0, hk1, c1, c2, c4]))
  | fail)
        (refine hpan _ _ ⟨{ n := _, env := [], obs := [(i, pOb l q')], next := nx }, (Wk.cut rfl (by simp [hn]) (by simp [wkO, zaa, getK, zab, zac, Ob.under, D.under, zad, zae, hi, hne, zab, zac, zaa, getK]) (by simp [wkU, zan, zaa, getK, D.under, hi, hne, zab, zac, zaa, getK]) (by simp [wkE, zan, zaa, getK, hi, hne, zab, zac, zaa, getK])), by simp [hn], ?_⟩; try simp)
        exact PPost.zaw h3
      | ok e2 q2 =>
       have hb := fun nx' h => zcY (hb nx' h) hr1
       obtain ⟨g1a, g1b⟩ := (zb2 hl g).1 _ _ _ _ hr1 hqb
       rw [hr1] at h3
       by_cases c4 : own = 4
       ·have c5 : ¬ x.form = 4 := fun h => c3 ⟨c4, h⟩
        repeat' (first
  | (refine zhr (fun nx' h' => hb nx' (by simp at h'; omega)) (by first | (simp [hne, del, Nat.add_assoc, hk0, hk1, c1, c2, c4, c5, zaa, getK, zab, zac, zak, zaJ]; done) | fail) (by rfl) (by first | assumption | simp) (by rfl) (by simp [D.under, Ob.under]) (by simp) ?_; (try simp [hne, del, Nat.add_assoc, hk0, hk1, c1, c2, c4, c5]))
  | (refine zaf ?_; simp [hne, del, Nat.add_assoc, hk0, hk1, c1, c2, c4, c5])
  | (refine zbt rfl ?_; simp [hne, del, Nat.add_assoc, hk0, hk1, c1, c2, c4, c5])
  | (refine zcc rfl ?_; simp [hne, del, Nat.add_assoc, hk0, hk1, c1, c2, c4, c5])
  | (refine zal ?_; simp [hne, del, Nat.add_assoc, hk0, hk1, c1, c2, c4, c5])
  | (refine ⟨by omega, ?_⟩)
  | (refine zah ?_; simp [hne, del, Nat.add_assoc, hk0, hk1, c1, c2, c4, c5])
  | (refine zai ?_; simp [hne, del, Nat.add_assoc, hk0, hk1, c1, c2, c4, c5])
  | (refine zbQ (hC _ (zcr [i] nx (by simp <;> omega) (by simp <;> omega) (by apply Exists.intro; apply And.intro; (focus (repeat' (first | exact KF.nil | exact KL.nil | apply KF.cons | apply KL.cons 0 rfl | apply KL.cons 1 rfl | apply KL.cons 2 rfl | apply KL.cons 3 rfl | apply KL.cons 4 rfl | apply KL.cons 5 rfl | apply KL.cons 6 rfl | apply KL.cons 7 rfl | apply KL.cons 8 rfl | apply KL.cons 9 rfl))); kernel_rfl))) (hk _ ?_); clear hC hk C k; simp only [zao])
  | (refine zb6 rfl (by kernel_rfl) (by first | (simp [hn]; done) | (simp [hn]; omega) | fail) fun C k hC hk => ?_; simp [hne, del, Nat.add_assoc, hk0, hk1, c1, c2, c4, c5])
  | (refine zaA ?_; simp [hne, del, Nat.add_assoc, hk0, hk1, c1, c2, c4, c5])
  | (refine zaC ?_; simp [hne, del, Nat.add_assoc, hk0, hk1, c1, c2, c4, c5])
  | (refine zap ?_; simp only [zao])
  | (refine ⟨?_, by omega⟩)
  | (intro hc <;> (try (exfalso; omega)))
  | (refine CallP.fE (hop) (by first | rfl | fail) (by first | (simp [hne, del, Nat.add_assoc, hk0, hk1, c1, c2, c4, c5]; done) | (simp [hne, del, Nat.add_assoc, hk0, hk1, c1, c2, c4, c5]; rfl) | fail) ?_; (try simp [hne, del, Nat.add_assoc, hk0, hk1, c1, c2, c4, c5]))
  | (refine CallP.fE (hix) (by first | rfl | fail) (by first | (simp [hne, del, Nat.add_assoc, hk0, hk1, c1, c2, c4, c5]; done) | (simp [hne, del, Nat.add_assoc, hk0, hk1, c1, c2, c4, c5]; rfl) | fail) ?_; (try simp [hne, del, Nat.add_assoc, hk0, hk1, c1, c2, c4, c5]))
  | fail)
        have hi3 : i < nx + 3 := by omega
        refine LoopW.next ⟨(.mk x.op 0 0 [] [e, e2], x.form, q2, g), g1b, (by show 4 * (l.length - q2) + 2 ≤ g; omega), (by show g ≤ f; omega), h3⟩ (by show g < g + 1; omega) ?_
        refine Wk.trans (Wk.frzN 1 _) ?_
        simp [hne, Nat.add_assoc, frzN, frz1, zay, zax, St.frz, St.frzS, frzS, fv, zaz, za5, za8, zaF, zat, zaj, del, frz, za9]
        exact (Wk.cut rfl (by simp [hn, St.lp]) (by simp [wkO, St.lp, zaa, getK, Ob.under, D.under, zad, zae, hi, hi3, hne, Exp.row_eq, Exp.op, Exp.n, Exp.unit, Exp.s, Exp.args]) (by simp [wkU, St.lp, zan, zaa, getK, D.under, hi, hi3, hne, Exp.row_eq, Exp.op, Exp.n, Exp.unit, Exp.s, Exp.args]) (by simp [wkE, St.lp, zan, zaa, getK, hi, hi3, hne, Exp.row_eq, Exp.op, Exp.n, Exp.unit, Exp.s, Exp.args] <;> (try (intros; simp_all; done)) <;> (try (intros; omega)) <;> (try grind)))
       ·repeat' (first
  | (refine zhr (fun nx' h' => hb nx' (by simp at h'; omega)) (by first | (simp [hne, del, Nat.add_assoc, hk0, hk1, c1, c2, c4, zaa, getK, zab, zac, zak, zaJ]; done) | fail) (by rfl) (by first | assumption | simp) (by rfl) (by simp [D.under, Ob.under]) (by simp) ?_; (try simp [hne, del, Nat.add_assoc, hk0, hk1, c1, c2, c4]))
  | (refine zaf ?_; simp [hne, del, Nat.add_assoc, hk0, hk1, c1, c2, c4])
  | (refine zbt rfl ?_; simp [hne, del, Nat.add_assoc, hk0, hk1, c1, c2, c4])
  | (refine zcc rfl ?_; simp [hne, del, Nat.add_assoc, hk0, hk1, c1, c2, c4])
  | (refine zal ?_; simp [hne, del, Nat.add_assoc, hk0, hk1, c1, c2, c4])
  | (refine ⟨by omega, ?_⟩)
  | (refine zah ?_; simp [hne, del, Nat.add_assoc, hk0, hk1, c1, c2, c4])
  | (refine zai ?_; simp [hne, del, Nat.add_assoc, hk0, hk1, c1, c2, c4])
  | (refine zbQ (hC _ (zcr [i] nx (by simp <;> omega) (by simp <;> omega) (by apply Exists.intro; apply And.intro; (focus (repeat' (first | exact KF.nil | exact KL.nil | apply KF.cons | apply KL.cons 0 rfl | apply KL.cons 1 rfl | apply KL.cons 2 rfl | apply KL.cons 3 rfl | apply KL.cons 4 rfl | apply KL.cons 5 rfl | apply KL.cons 6 rfl | apply KL.cons 7 rfl | apply KL.cons 8 rfl | apply KL.cons 9 rfl))); kernel_rfl))) (hk _ ?_); clear hC hk C k; simp only [zao])
  | (refine zb6 rfl (by kernel_rfl) (by first | (simp [hn]; done) | (simp [hn]; omega) | fail) fun C k hC hk => ?_; simp [hne, del, Nat.add_assoc, hk0, hk1, c1, c2, c4])
  | (refine zaA ?_; simp [hne, del, Nat.add_assoc, hk0, hk1, c1, c2, c4])
  | (refine zaC ?_; simp [hne, del, Nat.add_assoc, hk0, hk1, c1, c2, c4])
  | (refine zap ?_; simp only [zao])
  | (refine CallP.fE (hop) (by first | rfl | fail) (by first | (simp [hne, del, Nat.add_assoc, hk0, hk1, c1, c2, c4]; done) | (simp [hne, del, Nat.add_assoc, hk0, hk1, c1, c2, c4]; rfl) | fail) ?_; (try simp [hne, del, Nat.add_assoc, hk0, hk1, c1, c2, c4]))
  | (refine CallP.fE (hix) (by first | rfl | fail) (by first | (simp [hne, del, Nat.add_assoc, hk0, hk1, c1, c2, c4]; done) | (simp [hne, del, Nat.add_assoc, hk0, hk1, c1, c2, c4]; rfl) | fail) ?_; (try simp [hne, del, Nat.add_assoc, hk0, hk1, c1, c2, c4]))
  | fail)
        have hi3 : i < nx + 3 := by omega
        refine LoopW.next ⟨(.mk x.op 0 0 [] [e, e2], x.form, q2, g), g1b, (by show 4 * (l.length - q2) + 2 ≤ g; omega), (by show g ≤ f; omega), h3⟩ (by show g < g + 1; omega) ?_
        refine Wk.trans (Wk.frzN 1 _) ?_
        simp [hne, Nat.add_assoc, frzN, frz1, zay, zax, St.frz, St.frzS, frzS, fv, zaz, za5, za8, zaF, zat, zaj, del, frz, za9]
        exact (Wk.cut rfl (by simp [hn, St.lp]) (by simp [wkO, St.lp, zaa, getK, Ob.under, D.under, zad, zae, hi, hi3, hne, Exp.row_eq, Exp.op, Exp.n, Exp.unit, Exp.s, Exp.args]) (by simp [wkU, St.lp, zan, zaa, getK, D.under, hi, hi3, hne, Exp.row_eq, Exp.op, Exp.n, Exp.unit, Exp.s, Exp.args]) (by simp [wkE, St.lp, zan, zaa, getK, hi, hi3, hne, Exp.row_eq, Exp.op, Exp.n, Exp.unit, Exp.s, Exp.args] <;> (try (intros; simp_all; done)) <;> (try (intros; omega)) <;> (try grind)))
end Go.Proofs.YthnemhfamhnfjaaGreatDoor
namespace Go.VL
open Go
/-- A slice within a struct that came in has a length that an int holds. -/
theorem zol {P : Program} {Γ : Ctx} {c : Code} {s : St} {Q : Exit → St → Prop} {x j : Nat} {cells : List U} {rows : List (List U)} (hx : getK s.env x = some (.u (.agg cells))) (hj : cells[j]? = some (.sl rows)) (h : rows.length ≤ 9223372036854775807 → V P Γ c s Q) : V P Γ c s Q :=
 zp1 (fun K a w hs => by
  have hr := (hs.getK hx).2
  obtain ⟨vs, hl, _, hr⟩ := zef hr
  have hr := hr j _ hj
  generalize vs.getD j undef = v at hr
  cases hr with
  | slE => simp
  | sl _ b o sz c f hc hcx => unfold maxLen at hcx; omega) h
end Go.VL
namespace Go.Proofs.YthnemhfamhnfjaaGreatDoor
open Go Go.VL
attribute [local simp] zcR zb0 evPure opd uOf zaH St.put St.at getK binD binI binS binB nilD aggD zgp zhi lookD lookR zcm Go.VL.nextD zcq zhv zhu zfX zcs mkV zdb zbj zbr mapEff zd1 zfM Key.kk shiftI arith unD convD zdH loadD cellsAt fieldAddrD fieldD indexAddrD indexD sliceD cutD lenD minmaxD nilCheckD buildD fillD zbH zcW zes setAll zcE zeJ zch zgC zcd St.add zaM zbB rowsOf zdw zcA zak zac zaa zba zcz zaR entry zbo zbq valD zb5 zcu zgh zc8 zda zbO zbG zau za2 zbm delAll effD St.effS zcM za6 zaY zcN za7 za0 zbY zaZ zaS zbZ zcH zbv zbV zbi zbT zbU zaJ mkD zbI zbs zbF zau zcf D.ids Op.operands Call.operands zbx makeIfD makeFuncD typeAssertD zhh zds zdt zgK zcn IntKind.bits zcG List.take_of_length_le List.range_succ
attribute [local irreducible] V G H HD HD2 zao Eff CallP CallV EndOK Fun Ret FinOK LoopI LoopW EndW
theorem zju {l : List Tok} (hl : TokOK l) : ∀ f, zht l f ∧ zqA l f ∧ zib l f := by
 intro f
 induction f using Nat.strongRecOn with
 | _ f ih =>
  cases f with
  | zero => exact ⟨fun p form i nx _ _ h => by omega, fun p form i nx _ _ h => by omega, fun p i nx _ _ h => by omega⟩
  | succ f =>
   obtain ⟨h1, h2, h3⟩ := ih f (by omega)
   exact ⟨zpa hl (fun g hg => (ih g (by omega)).1) h2, zkA hl h1 h3, zjn hl h1⟩
def Exp.lev : Exp → Int
 | .mk _ _ _ _ args => (args.map fun e => e.lev).foldl max 0 + 1
theorem Exp.zgi (e : Exp) : e.lev = (e.args.map Exp.lev).foldl max 0 + 1 := by
 cases e with
 | mk op n u s args => rw [Exp.lev]; rfl
theorem zct : ∀ (l : List Int) (a : Int), a ≤ l.foldl max a ∧ ∀ x ∈ l, x ≤ l.foldl max a
 | [], a => ⟨by simp, fun x h => by simp at h⟩
 | b :: l, a => by
  obtain ⟨h1, h2⟩ := zct l (max a b)
  refine ⟨by simp only [List.foldl_cons]; omega, fun x hx => ?_⟩
  rcases List.mem_cons.1 hx with rfl | hx
  ·simp only [List.foldl_cons]; omega
  ·exact h2 x hx
theorem Exp.lev_pos (e : Exp) : 1 ≤ e.lev := by
 rw [Exp.zgi]
 have := (zct (e.args.map Exp.lev) 0).1
 omega
theorem Exp.zfb {e x : Exp} (h : x ∈ e.args) : SizeOf.sizeOf x < SizeOf.sizeOf e := by
 cases e with
 | mk op n u s args =>
  have := List.sizeOf_lt_of_mem h
  simp only [Exp.args] at this
  simp only [Exp.mk.sizeOf_spec]
  omega
theorem zhX : ∀ (n : Nat) (e : Exp), SizeOf.sizeOf e ≤ n → e.lev ≤ 1000000000 → Fun Tryz.prog 44 [.u (.agg e.row)] (· = .u (.int .i64 e.lev)) := by
 intro n
 induction n with
 | zero =>
  intro e h
  cases e with
  | mk op n u s args => simp only [Exp.mk.sizeOf_spec] at h; omega
 | succ n ih =>
  intro e hs he
  have hx : ∀ x ∈ e.args, Fun Tryz.prog 44 [.u (.agg [.int .i64 x.op, .int .i64 x.n, .int .i64 x.unit, .str x.s, .sl (x.args.map Exp.row)])] (· = .u (.int .i64 x.lev)) := fun x hx => by
   rw [← Exp.row_eq]
   refine ih x (by have := Exp.zfb hx; omega) ?_
   have := (zct (e.args.map Exp.lev) 0).2 x.lev (List.mem_map.2 ⟨x, hx, rfl⟩)
   rw [Exp.zgi] at he
   omega
  have hlb : ∀ k, ((e.args.map Exp.lev).take k).foldl max 0 ≤ 1000000000 := fun k => by
   rw [← List.map_take]
   rw [Exp.zgi] at he
   have h2 : (e.args.map Exp.lev).foldl max 0 = (e.args.drop k |>.map Exp.lev).foldl max ((e.args.take k |>.map Exp.lev).foldl max 0) := by
    rw [← List.foldl_append, ← List.map_append, List.take_append_drop]
   have := (zct (e.args.drop k |>.map Exp.lev) ((e.args.take k |>.map Exp.lev).foldl max 0)).1
   omega
  rw [Exp.row_eq, Exp.zgi]
  generalize hA : e.args = A at *
  rw [Exp.zgi, hA] at he
  (refine Fun.of_body Tryz.func44 rfl (by simp) fun Γ hn => ?_); simp only [entry, List.zipIdx_cons, List.zipIdx_nil, List.map_cons, List.map_nil, Nat.zero_add, Tryz.ntmps44]
  refine zol (x := 0) (j := 4) rfl rfl fun hl => ?_
  simp at hl
  repeat' (first
  | (refine zaf ?_; simp)
  | (refine zal ?_; simp)
  | (refine zah ?_; simp)
  | (refine zaA ?_; simp)
  | fail)
  refine zcT (α := { k : Nat // k ≤ A.length }) [0, 1, 2, 7, 8] (fun k => [(9, .u (.int .i64 k.1)), (3, .u (.int .i64 (((A.map Exp.lev).take k.1).foldl max 0)))]) (fun k => A.length - k.1) ⟨0, by omega⟩ ?_ ?_
  ·exact (Wk.env rfl rfl rfl (by simp [wkE, St.lp, zan, zaa, getK] <;> (try (intros; simp_all; done)) <;> (try (intros; omega)) <;> (try grind)))
  rintro ⟨k, hk⟩
  simp [St.lp, St.only, zan, zaa, getK]
  rcases hy : A[k]? with _ | y
  ·have hge : A.length ≤ k := by simpa using hy
   have hb := hlb k
   rw [List.take_of_length_le (by simpa using hge : (A.map Exp.lev).length ≤ k)] at hb ⊢
   have hb0 := (zct (A.map Exp.lev) 0).1
   generalize (A.map Exp.lev).foldl max 0 = M at *
   repeat' (first
  | (refine zaf ?_; simp [hy])
  | (refine zal ?_; simp [hy])
  | (refine ⟨by omega, ?_⟩)
  | (refine zah ?_; simp [hy])
  | (refine zar ?_; simp only [zao])
  | (refine zbR ?_; simp [zao])
  | (intro hc <;> (try (exfalso; omega)))
  | fail)
   (refine EndOK.val (.inr rfl) ?_; simp [zaL, zag, zas, Tryz.results44])
  ·have hlt : k < A.length := (List.getElem?_eq_some_iff.1 hy).1
   have hfn := hx y (List.mem_of_getElem? hy)
   have ht : ((A.map Exp.lev).take (k + 1)).foldl max 0 = max (((A.map Exp.lev).take k).foldl max 0) y.lev := by
    rw [List.take_add_one, List.getElem?_map, hy]
    simp
   have hb := hlb (k + 1)
   rw [ht] at hb
   have hb0 := (zct ((A.map Exp.lev).take k) 0).1
   generalize hM : ((A.map Exp.lev).take k).foldl max 0 = M at *
   have hyp := y.lev_pos
   repeat' (first
  | (refine zaf ?_; simp [hy, Exp.row_eq])
  | (refine zal ?_; simp [hy, Exp.row_eq])
  | (refine ⟨by omega, ?_⟩)
  | (refine zah ?_; simp [hy, Exp.row_eq])
  | (refine zaC ?_; simp [hy, Exp.row_eq])
  | (refine zap ?_; simp only [zao])
  | (refine ⟨?_, by omega⟩)
  | (intro hc <;> (try (exfalso; omega)))
  | (refine CallP.fE (hfn) (by first | rfl | fail) (by first | (simp [hy, Exp.row_eq]; done) | (simp [hy, Exp.row_eq]; rfl) | fail) ?_; (try simp [hy, Exp.row_eq]))
  | fail)
   refine LoopW.next ⟨k + 1, hlt⟩ (by show A.length - (k + 1) < A.length - k; omega) ?_
   exact (Wk.cut rfl (by simp [hn, St.lp]) (by simp [wkO, St.lp, zaa, getK, Ob.under, D.under, zad, zae, ht]) (by simp [wkU, St.lp, zan, zaa, getK, D.under, ht]) (by simp [wkE, St.lp, zan, zaa, getK, ht] <;> (try (intros; simp_all; done)) <;> (try (intros; omega)) <;> (try grind)))
end Go.Proofs.YthnemhfamhnfjaaGreatDoor
namespace Go.Proofs.YthnemhfamhnfjaaGreatDoor
open Go Go.VL
def zpS (l : List Tok) (p : Nat) (least most : Int) : PR Int := match l[p]? with
 | none => .stop 0 0
 | some t => if t.kind = 2 then if least ≤ t.n ∧ t.n ≤ most then .ok t.n (p + 1) else .stop t.pos 3 else .stop t.pos 12
def zdI (l : List Tok) (p : Nat) (word : W8) (least most : Int) (behind : List W8) : PR Int :=
 if isB l p word = true then (zpS l (p + 1) least most).bind fun n q => (zbu l q behind).bind fun _ r => .ok n r else .ok 0 p
def zdM (l : List Tok) (p : Nat) : PR Exp := (zc6 l (4 * l.length + 3) p 0).bind fun e q =>
 if isB l q [59] = true then if e.lev ≤ 12 then .ok e (q + 1) else .stop (zc5 l q) 6 else .stop (zc5 l q) 12
def zgn (l : List Tok) (p : Nat) : PR (Int × Bool) := (zbu l p [[99, 105, 114, 99, 108, 101]]).bind fun _ q =>
 if isB l q [114, 111, 116, 97, 116, 105, 110, 103] = true then (zbu l (q + 1) [[59]]).bind fun _ r => .ok (0, false) r
 else if isB l q [115, 97, 118, 105, 110, 103] = true then (zbu l (q + 1) [[59]]).bind fun _ r => .ok (2, false) r
 else (zbu l q [[98, 105, 100, 100, 105, 110, 103]]).bind fun _ r => if isB l r [115, 101, 97, 108, 101, 100] = true then (zbu l (r + 1) [[59]]).bind fun _ r => .ok (1, true) r else (zbu l r [[59]]).bind fun _ r => .ok (1, false) r
def ordersW : List W8 := [[106, 111, 105, 110], [100, 114, 97, 119], [110, 101, 101, 100]]
def zew (l : List Tok) (p : Nat) : PR Int :=
 if isB l p [111, 114, 100, 101, 114] = true then match ordersW.findIdx? fun w => isB l (p + 1) w with
  | some i => (zbu l (p + 2) [[59]]).bind fun _ r => .ok i r
  | none => .stop (zc5 l (p + 1)) 12
 else .ok 0 p
def zfo (l : List Tok) : Nat → Nat → List Let → PR (List Let)
 | 0, _, _ => .stop 0 0
 | f + 1, p, acc => if isB l p [108, 101, 116] = true then
   if acc.length < 20 then match l[p + 1]? with
    | none => .stop 0 0
    | some t => if t.kind = 1 ∧ zbD t.text = true then
          if (acc.any fun x => decide (x.name = t.text)) = true then .stop t.pos 5
          else (zbu l (p + 2) [[61]]).bind fun _ q => (zdM l q).bind fun e r => zfo l f r (acc ++ [⟨t.text, e⟩])
     else .stop t.pos 12
   else .stop (zc5 l p) 6
  else .ok acc p
def nothingE : Exp := .mk 0 0 3 [] []
def zc7 (l : List Tok) (p : Nat) (word : W8) : PR Exp := if isB l p word = true then zdM l (p + 1) else .ok nothingE p
def zhy (l : List Tok) (p : Nat) (word : W8) : PR Unit := if isB l p word = true then .ok () p else .stop (zc5 l p) 12
def zpe (l : List Tok) (p : Nat) : PR Unit := match l[p]? with | some t => if t.kind = 0 then .ok () p else .stop t.pos 12 | none => .stop 0 0
def zob (l : List Tok) : PR By :=
 (zgn l 0).bind fun k p => (zhy l p [112, 101, 114, 105, 111, 100]).bind fun _ p => (zdI l p [112, 101, 114, 105, 111, 100] 1 1000 [[100, 97, 121, 115], [59]]).bind fun period p =>
 (zhy l p [108, 97, 115, 116]).bind fun _ p => (zdI l p [108, 97, 115, 116] 1 1000 [[59]]).bind fun last p =>
 (zdI l p [103, 114, 97, 99, 101] 0 1000 [[100, 97, 121, 115], [59]]).bind fun grace p => (zdI l p [119, 97, 105, 116] 0 1000 [[100, 97, 121, 115], [59]]).bind fun wait p =>
 (zew l p).bind fun order p => (zdI l p [98, 97, 99, 107, 115] 0 60 [[59]]).bind fun backs p => (zdI l p [118, 111, 105, 99, 101, 115] 0 1000 [[112, 101, 114], [109, 105, 108, 108, 101], [59]]).bind fun voices p =>
 (zdI l p [106, 117, 114, 121] 0 60 [[59]]).bind fun jury p => (zdI l p [102, 117, 110, 100] 0 1000 [[112, 101, 114], [109, 105, 108, 108, 101], [59]]).bind fun fund p =>
 (zfo l 21 p []).bind fun lets p => (zbu l p [[100, 117, 101]]).bind fun _ p => (zdM l p).bind fun due p =>
 (zc7 l p [102, 105, 110, 101]).bind fun fine p => (zc7 l p [112, 97, 121]).bind fun pay p => (zc7 l p [99, 111, 118, 101, 114]).bind fun cover p => (zc7 l p [104, 111, 108, 100]).bind fun hold p =>
 (zpe l p).bind fun _ p => .ok ⟨k.1, period, grace, wait, last, order, k.2, backs, voices, jury, fund, lets, due, fine, pay, cover, hold⟩ p
/-- The words of the lines. -/
def zaW (word : W8) (n : Int) (behind : List W8) : List W8 := if n = 0 then [] else word :: Lib.itoa n :: (behind ++ [[59]])
def ze2 (k : Int) (s : Bool) : List W8 := if s = true then [[99, 105, 114, 99, 108, 101], [98, 105, 100, 100, 105, 110, 103], [115, 101, 97, 108, 101, 100], [59]] else [[99, 105, 114, 99, 108, 101], if k = 0 then [114, 111, 116, 97, 116, 105, 110, 103] else if k = 1 then [98, 105, 100, 100, 105, 110, 103] else [115, 97, 118, 105, 110, 103], [59]]
def zdJ (o : Int) : List W8 := if o = 0 then [] else [[111, 114, 100, 101, 114], ordersW.getD o.toNat [], [59]]
def zos (x : Let) : List W8 := [108, 101, 116] :: x.name :: [61] :: (zaP x.body 0 ++ [[59]])
def zdx (L : List Let) : List W8 := (L.map zos).flatten
def zb4 (word : W8) (e : Exp) : List W8 := word :: (zaP e 0 ++ [[59]])
noncomputable def restW (word : W8) (e : Exp) : List W8 := open Classical in if e = nothingE then [] else zb4 word e
/-- What may stand at a place: no other word. -/
def StopAt (l : List Tok) (p : Nat) (S : List W8) : Prop := ∀ v, v ∉ S → isB l p v = false
theorem StopAt.head {l p} {w : W8} {b : List W8} (h : Reads l p (w :: b)) : StopAt l p [w] := fun v hv => by
 rw [h.isB]; exact decide_eq_false fun e => hv (by simp [e])
theorem StopAt.more {l p} {S T : List W8} (h : StopAt l p S) (hs : ∀ v ∈ S, v ∈ T) : StopAt l p T := fun v hv => h v fun hm => hv (hs v hm)
theorem zmo {l p} {n : Int} {b : List W8} (h0 : 0 ≤ n) (h1 : n ≤ 1099511627776) (h : Reads l p (Lib.itoa n :: b)) {least most : Int} (h2 : least ≤ n) (h3 : n ≤ most) : zpS l p least most = .ok n (p + 1) := by
 obtain ⟨k1, k2, k3⟩ := zgz h0 h1
 obtain ⟨_, t, ht, t1, t2, t3⟩ := h.head
 rw [k1] at t2
 rw [zpR, if_pos k1, k2] at t3
 simp only [Option.getD_some] at t3
 rw [zpS, ht]
 simp only [t2, t3, if_true]
 rw [if_pos ⟨h2, h3⟩]
theorem zhI {l : List Tok} : ∀ (ws : List W8) {p : Nat} {b : List W8}, Reads l p (ws ++ b) → zbu l p ws = .ok () (p + ws.length)
 | [], p, b, h => rfl
 | w :: ws, p, b, h => by
  have h' : Reads l p (w :: (ws ++ b)) := h
  rw [zbu, if_pos (by rw [h'.isB]; simp), zhI ws h'.tail, List.length_cons, Nat.add_assoc, Nat.add_comm 1]
theorem zcJ {l p} {word : W8} {n : Int} {behind b : List W8} {least most : Int} (h : Reads l p (zaW word n behind ++ b)) (hl : n ≠ 0 → least ≤ n) (h0 : 0 ≤ n) (h3 : n ≤ most) (hm : most ≤ 1000)
  {S : List W8} (hs : StopAt l (p + (zaW word n behind).length) S) (hw : word ∉ S) :
  zdI l p word least most (behind ++ [[59]]) = .ok n (p + (zaW word n behind).length) ∧ StopAt l p (word :: S) := by
 by_cases hz : n = 0
 ·subst hz
  rw [zaW, if_pos rfl, List.length_nil, Nat.add_zero] at hs ⊢
  rw [zdI, hs word hw]
  exact ⟨rfl, StopAt.more hs fun v hv => List.mem_cons_of_mem _ hv⟩
 ·rw [zaW, if_neg hz] at h hs ⊢
  have h' : Reads l p (word :: Lib.itoa n :: ((behind ++ [[59]]) ++ b)) := by simpa using h
  refine ⟨?_, (StopAt.head h').more fun v hv => by simp only [List.mem_singleton] at hv; subst hv; simp⟩
  rw [zdI, if_pos (by rw [h'.isB]; simp), zmo h0 (by omega) h'.tail (hl hz) h3, PR.zav, zhI _ h'.tail.tail, PR.zav]
  congr 1
  simp
  omega
end Go.Proofs.YthnemhfamhnfjaaGreatDoor
namespace Go.Proofs.YthnemhfamhnfjaaGreatDoor
open Go Go.VL
theorem zgd {m : Int} : ∀ (l : List Int) (a : Int), a ≤ m → (∀ x ∈ l, x ≤ m) → l.foldl max a ≤ m
 | [], a, h, _ => h
 | b :: l, a, h, h2 => by
  rw [List.foldl_cons]
  exact zgd l _ (by have := h2 b (by simp); omega) fun x hx => h2 x (by simp [hx])
theorem zpT : ∀ (d : Nat) (e : Exp), zaE d e = true → e.lev ≤ d
 | 0, e, h => by rw [zaE] at h; cases h
 | d + 1, .mk op n u s args, h => by
  have hle : ∀ x ∈ args, x.lev ≤ d := fun x hx => by
   rcases zcl h with ⟨rfl, rfl, rfl, hn⟩ | ⟨rfl, rfl, rfl, rfl, hn⟩ | ⟨rfl, rfl, rfl, ha, h3⟩
   ·cases hx
   ·cases hx
   ·exact zpT d x (ha x hx)
  rw [Exp.zgi]
  have h2 : ((Exp.mk op n u s args).args.map Exp.lev).foldl max 0 ≤ (d : Int) := zgd _ _ (by omega) fun x hx => by
   obtain ⟨y, hy, rfl⟩ := List.mem_map.1 hx
   exact hle y hy
  omega
theorem Reads.lt {l p} {w : W8} {b : List W8} (h : Reads l p (w :: b)) : p < l.length := by
 obtain ⟨_, t, ht, _⟩ := h.head
 exact (List.getElem?_eq_some_iff.1 ht).1
theorem zks (e : Exp) (h : zaE 12 e = true) : zaP e 0 ≠ [] := by
 obtain ⟨op, n, u, s, args⟩ := e
 rw [zaP, zor, if_neg (by have := (zhd (Exp.mk op n u s args).op).1; show ¬ zcb (Exp.mk op n u s args).op < 0; omega)]
 show za3 (Exp.mk op n u s args) ≠ []
 rcases zcl h with ⟨rfl, rfl, rfl, hn⟩ | ⟨rfl, rfl, rfl, rfl, hn⟩ | ⟨rfl, rfl, rfl, ha, h3⟩
 ·rw [za3, zcV, if_pos rfl, zdv]; split <;> simp
 ·rw [za3, zcV, if_neg (by decide), if_pos rfl]; simp
 ·rcases h3 with ⟨rfl, hl⟩ | ⟨rfl, hl⟩ | ⟨g0, g1, g12, g13, g2, g3, hl⟩
  ·obtain ⟨a, rfl⟩ := zkM hl
   rw [zfD]; simp
  ·obtain ⟨a, b, c, rfl⟩ := zkK hl
   rw [zho]; simp
  ·obtain ⟨a, b, rfl⟩ := zkL hl
   by_cases h6 : op = 6
   ·subst h6; rw [zfE]; simp
   ·by_cases h7 : op = 7
    ·subst h7; rw [zfF]; simp
    ·obtain ⟨o, ho, rfl⟩ := zgX (op := op) (by omega) (by omega) h6 h7
     rw [zfC ho]; simp
theorem Reads.ltL {l p} {ws b : List W8} (h : Reads l p (ws ++ b)) (hne : ws ≠ []) : p < l.length := by
 cases ws with
 | nil => exact absurd rfl hne
 | cons w ws => exact Reads.lt (b := ws ++ b) h
theorem ze0 {l : List Tok} (hl : TokOK l) {p : Nat} {e : Exp} {b : List W8} (he : zaE 12 e = true) (h : Reads l p (zaP e 0 ++ [59] :: b)) : zdM l p = .ok e (p + (zaP e 0).length + 1) := by
 have hr := h.right
 have hp := h.ltL (zks e he)
 have hx := (zpb he h.left (hr.noUnit (by decide) (by decide) (by decide)) (by rw [hr.opr]; rfl)).fuel hl hp (f := 4 * l.length + 3) (by omega)
 rw [zdM, hx, PR.zav, if_pos (by rw [hr.isB]; simp), if_pos (show e.lev ≤ (12 : Int) from zpT 12 e he)]
theorem zeM {l : List Tok} (hl : TokOK l) {p : Nat} {word : W8} {e : Exp} {b : List W8} (he : zaE 12 e = true) (h : Reads l p (restW word e ++ b)) {S : List W8} (hs : StopAt l (p + (restW word e).length) S) (hw : word ∉ S) :
  zc7 l p word = .ok e (p + (restW word e).length) ∧ StopAt l p (word :: S) := by
 by_cases hz : e = nothingE
 ·have hW : restW word e = [] := by unfold restW; rw [if_pos hz]
  rw [hW, List.length_nil, Nat.add_zero] at hs ⊢
  rw [zc7, hs word hw, hz]
  exact ⟨rfl, StopAt.more hs fun v hv => List.mem_cons_of_mem _ hv⟩
 ·have hW : restW word e = zb4 word e := by unfold restW; rw [if_neg hz]
  rw [hW, zb4] at h ⊢
  have h' : Reads l p (word :: (zaP e 0 ++ [59] :: b)) := by simpa using h
  refine ⟨?_, (StopAt.head h').more fun v hv => by simp only [List.mem_singleton] at hv; subst hv; simp⟩
  rw [zc7, if_pos (by rw [h'.isB]; simp), ze0 hl he h'.tail]
  congr 1
  simp
  omega
theorem zhY {l : List Tok} (hl : TokOK l) {S : List W8} (hw : [108, 101, 116] ∉ S) : ∀ (L acc : List Let) (f p : Nat) (b : List W8), zfp acc L = true → acc.length + L.length ≤ 20 → L.length < f →
  Reads l p (zdx L ++ b) → StopAt l (p + (zdx L).length) S → zfo l f p acc = .ok (acc ++ L) (p + (zdx L).length) ∧ StopAt l p ([108, 101, 116] :: S)
 | _, _, 0, _, _, _, _, hf, _, _ => by omega
 | [], acc, f + 1, p, b, _, _, _, h, hs => by
  have hW : zdx [] = [] := rfl
  rw [hW, List.length_nil, Nat.add_zero] at hs ⊢
  rw [zfo, hs _ hw, List.append_nil]
  exact ⟨rfl, StopAt.more hs fun v hv => List.mem_cons_of_mem _ hv⟩
 | x :: L, acc, f + 1, p, b, hb, hn, hf, h, hs => by
  have hW : zdx (x :: L) = zos x ++ zdx L := rfl
  rw [zfp, Bool.and_eq_true, Bool.and_eq_true, Bool.and_eq_true] at hb
  obtain ⟨⟨⟨b1, b2⟩, b3⟩, b4⟩ := hb
  rw [hW] at h hs
  have h' : Reads l p ([108, 101, 116] :: x.name :: [61] :: (zaP x.body 0 ++ [59] :: (zdx L ++ b))) := by simpa [zos] using h
  have r1 := h'.tail
  have r2 := r1.tail
  have r3 := r2.tail
  have hw3 := ze0 hl b2 r3
  have r4 : Reads l (p + 1 + 1 + 1 + (zaP x.body 0).length + 1) (zdx L ++ b) := (Reads.right r3).tail
  have hlen : (zos x ++ zdx L).length = 3 + (zaP x.body 0).length + 1 + (zdx L).length := by simp [zos]; omega
  rw [hlen] at hs
  obtain ⟨ih, _⟩ := zhY hl hw L (acc ++ [x]) f (p + 1 + 1 + 1 + (zaP x.body 0).length + 1) b b4 (by simp at hn ⊢; omega) (by simp at hf; omega) r4 (by
   have : p + (3 + (zaP x.body 0).length + 1 + (zdx L).length) = p + 1 + 1 + 1 + (zaP x.body 0).length + 1 + (zdx L).length := by omega
   rwa [this] at hs)
  refine ⟨?_, (StopAt.head h').more fun v hv => by simp only [List.mem_singleton] at hv; subst hv; simp⟩
  obtain ⟨_, t, ht, t1, t2, t3⟩ := r1.head
  have hkd : t.kind = 1 := by
   rw [t2]
   have hn := b1
   cases hs' : x.name with
   | nil => rw [hs'] at hn; simp [zbD, zeW] at hn
   | cons c r =>
    rw [hs'] at hn
    simp only [zbD, zeW, Bool.and_eq_true] at hn
    rw [zfr, if_pos hn.1.1.1]
  rw [Bool.not_eq_true'] at b3
  rw [zfo, if_pos (by rw [h'.isB]; simp), if_pos (by simp at hn; omega), ht]
  simp only [hkd, t1, b1]
  rw [if_pos (by decide), if_neg (by rw [b3]; simp), r2.want, PR.zav, hw3, PR.zav, ih, hW, hlen]
  congr 1
  ·simp
  ·omega
theorem zkE {l : List Tok} {p : Nat} {o : Int} {b : List W8} (h0 : 0 ≤ o) (h1 : o ≤ 2) (h : Reads l p (zdJ o ++ b)) {S : List W8} (hs : StopAt l (p + (zdJ o).length) S) (hw : [111, 114, 100, 101, 114] ∉ S) :
  zew l p = .ok o (p + (zdJ o).length) ∧ StopAt l p ([111, 114, 100, 101, 114] :: S) := by
 have hc : o = 0 ∨ o = 1 ∨ o = 2 := by omega
 rcases hc with rfl | rfl | rfl
 ·have hW : zdJ 0 = [] := rfl
  rw [hW, List.length_nil, Nat.add_zero] at hs ⊢
  rw [zew, hs _ hw]
  exact ⟨rfl, StopAt.more hs fun v hv => List.mem_cons_of_mem _ hv⟩
 ·have h' : Reads l p ([111, 114, 100, 101, 114] :: [100, 114, 97, 119] :: [59] :: b) := h
  refine ⟨?_, (StopAt.head h').more fun v hv => by simp only [List.mem_singleton] at hv; subst hv; simp⟩
  have hf : (ordersW.findIdx? fun w => isB l (p + 1) w) = some 1 := by simp [ordersW, List.findIdx?, List.findIdx?.go, h'.tail.isB]
  rw [zew, if_pos (by rw [h'.isB]; simp), hf]
  simp only [h'.tail.tail.want, PR.zav]
  rfl
 ·have h' : Reads l p ([111, 114, 100, 101, 114] :: [110, 101, 101, 100] :: [59] :: b) := h
  refine ⟨?_, (StopAt.head h').more fun v hv => by simp only [List.mem_singleton] at hv; subst hv; simp⟩
  have hf : (ordersW.findIdx? fun w => isB l (p + 1) w) = some 2 := by simp [ordersW, List.findIdx?, List.findIdx?.go, h'.tail.isB]
  rw [zew, if_pos (by rw [h'.isB]; simp), hf]
  simp only [h'.tail.tail.want, PR.zav]
  rfl
theorem zmn {l : List Tok} {p : Nat} {k : Int} {s : Bool} {b : List W8} (h0 : 0 ≤ k) (h1 : k ≤ 2) (h2 : s = true → k = 1) (h : Reads l p (ze2 k s ++ b)) : zgn l p = .ok (k, s) (p + (ze2 k s).length) := by
 cases s with
 | true =>
  obtain rfl := h2 rfl
  have h' : Reads l p ([99, 105, 114, 99, 108, 101] :: [98, 105, 100, 100, 105, 110, 103] :: [115, 101, 97, 108, 101, 100] :: [59] :: b) := h
  have r1 := h'.tail
  have r2 := r1.tail
  rw [zgn, h'.want, PR.zav, r1.isB, r1.isB, if_neg (by decide), if_neg (by decide), r1.want, PR.zav, r2.isB, if_pos (by decide), r2.tail.want, PR.zav]
  rfl
 | false =>
  have hc : k = 0 ∨ k = 1 ∨ k = 2 := by omega
  rcases hc with rfl | rfl | rfl
  ·have h' : Reads l p ([99, 105, 114, 99, 108, 101] :: [114, 111, 116, 97, 116, 105, 110, 103] :: [59] :: b) := h
   have r1 := h'.tail
   rw [zgn, h'.want, PR.zav, r1.isB, if_pos (by decide), r1.tail.want, PR.zav]
   rfl
  ·have h' : Reads l p ([99, 105, 114, 99, 108, 101] :: [98, 105, 100, 100, 105, 110, 103] :: [59] :: b) := h
   have r1 := h'.tail
   have r2 := r1.tail
   rw [zgn, h'.want, PR.zav, r1.isB, r1.isB, if_neg (by decide), if_neg (by decide), r1.want, PR.zav, r2.isB, if_neg (by decide), r2.want, PR.zav]
   rfl
  ·have h' : Reads l p ([99, 105, 114, 99, 108, 101] :: [115, 97, 118, 105, 110, 103] :: [59] :: b) := h
   have r1 := h'.tail
   rw [zgn, h'.want, PR.zav, r1.isB, r1.isB, if_neg (by decide), if_pos (by decide), r1.tail.want, PR.zav]
   rfl
theorem zmd {l : List Tok} {p : Nat} {w : W8} {b : List W8} (h : Reads l p (w :: b)) : zhy l p w = .ok () p := by
 rw [zhy, if_pos (by rw [h.isB]; simp)]
end Go.Proofs.YthnemhfamhnfjaaGreatDoor
namespace Go.Proofs.YthnemhfamhnfjaaGreatDoor
open Go Go.VL
theorem zcQ {lo hi n : Int} {l : List Int} (h : inB lo hi l = true) (hn : n ∈ l) : lo ≤ n ∧ n ≤ hi := by
 rw [inB, Bool.not_eq_true', List.any_eq_false] at h
 have := h n hn
 simp at this
 omega
theorem zjF {l : List Tok} {p : Nat} {w : W8} {n : Int} {bh b : List W8} (hn : n ≠ 0) (h : Reads l p (zaW w n bh ++ b)) : zhy l p w = .ok () p := by
 rw [zaW, if_neg hn] at h
 exact zmd (show Reads l p (w :: ((Lib.itoa n :: (bh ++ [[59]])) ++ b)) from h)
theorem zn3 {l : List Tok} {p : Nat} {w : W8} {e : Exp} {b : List W8} (h : Reads l p (zb4 w e ++ b)) : Reads l p (w :: (zaP e 0 ++ [59] :: b)) := by
 simpa [zb4] using h
/-- The words of bylaws' text. -/
noncomputable def byW (b : By) : List W8 := ze2 b.kind b.sld ++ (zaW [112, 101, 114, 105, 111, 100] b.period [[100, 97, 121, 115]] ++ (zaW [108, 97, 115, 116] b.last [] ++ (zaW [103, 114, 97, 99, 101] b.grace [[100, 97, 121, 115]] ++ (zaW [119, 97, 105, 116] b.wait [[100, 97, 121, 115]] ++ (zdJ b.order ++ (zaW [98, 97, 99, 107, 115] b.backs [] ++ (zaW [118, 111, 105, 99, 101, 115] b.voices [[112, 101, 114], [109, 105, 108, 108, 101]] ++ (zaW [106, 117, 114, 121] b.jury [] ++ (zaW [102, 117, 110, 100] b.fund [[112, 101, 114], [109, 105, 108, 108, 101]] ++ (zdx b.lets ++ (zb4 [100, 117, 101] b.due ++ (restW [102, 105, 110, 101] b.fine ++ (restW [112, 97, 121] b.pay ++ (restW [99, 111, 118, 101, 114] b.cover ++ (restW [104, 111, 108, 100] b.hold ++ [])))))))))))))))
set_option maxHeartbeats 2000000 in
theorem zqr {l : List Tok} (hl : TokOK l) {b : By} (h : zca b = true) (hr : Reads l 0 (byW b)) (hend : ∃ t, l[0 + (byW b).length]? = some t ∧ t.kind = 0) : zob l = .ok b (0 + (byW b).length) := by
 simp only [zca, zmw, zmB, Bool.and_eq_true] at h
 obtain ⟨⟨⟨⟨⟨⟨⟨⟨i1, i2⟩, i3⟩, i4⟩, i5⟩, hsl⟩, hlen⟩, hlets⟩, ⟨⟨⟨e1, e2⟩, e3⟩, e4⟩, e5⟩ := h
 have hs1 : b.sld = true → b.kind = 1 := fun hs => by
  rw [hs] at hsl
  simpa using hsl
 have hlen2 : b.lets.length ≤ 20 := by simpa using hlen
 have k := zcQ i1 (n := b.kind) (by simp)
 have ko := zcQ i2 (n := b.order) (by simp)
 have kperiod := zcQ i3 (n := b.period) (by simp)
 have klast := zcQ i3 (n := b.last) (by simp)
 have kgrace := zcQ i4 (n := b.grace) (by simp)
 have kwait := zcQ i4 (n := b.wait) (by simp)
 have kvoices := zcQ i4 (n := b.voices) (by simp)
 have kfund := zcQ i4 (n := b.fund) (by simp)
 have kbacks := zcQ i5 (n := b.backs) (by simp)
 have kjury := zcQ i5 (n := b.jury) (by simp)
 obtain ⟨te, hte, hke⟩ := hend
 unfold byW at hr hte ⊢
 have hkind := zmn k.1 k.2 hs1 hr
 have r0 := hr.right
 have r1 := r0.right
 have r2 := r1.right
 have r3 := r2.right
 have r4 := r3.right
 have r5 := r4.right
 have r6 := r5.right
 have r7 := r6.right
 have r8 := r7.right
 have r9 := r8.right
 have r10 := r9.right
 have r11 := r10.right
 have r12 := r11.right
 have r13 := r12.right
 have r14 := r13.right
 have r15 := r14.right
 have hpos : 0 + (ze2 b.kind b.sld ++ (zaW [112, 101, 114, 105, 111, 100] b.period [[100, 97, 121, 115]] ++ (zaW [108, 97, 115, 116] b.last [] ++ (zaW [103, 114, 97, 99, 101] b.grace [[100, 97, 121, 115]] ++ (zaW [119, 97, 105, 116] b.wait [[100, 97, 121, 115]] ++ (zdJ b.order ++ (zaW [98, 97, 99, 107, 115] b.backs [] ++ (zaW [118, 111, 105, 99, 101, 115] b.voices [[112, 101, 114], [109, 105, 108, 108, 101]] ++ (zaW [106, 117, 114, 121] b.jury [] ++ (zaW [102, 117, 110, 100] b.fund [[112, 101, 114], [109, 105, 108, 108, 101]] ++ (zdx b.lets ++ (zb4 [100, 117, 101] b.due ++ (restW [102, 105, 110, 101] b.fine ++ (restW [112, 97, 121] b.pay ++ (restW [99, 111, 118, 101, 114] b.cover ++ (restW [104, 111, 108, 100] b.hold ++ [])))))))))))))))).length = 0 + (ze2 b.kind b.sld).length + (zaW [112, 101, 114, 105, 111, 100] b.period [[100, 97, 121, 115]]).length + (zaW [108, 97, 115, 116] b.last []).length + (zaW [103, 114, 97, 99, 101] b.grace [[100, 97, 121, 115]]).length + (zaW [119, 97, 105, 116] b.wait [[100, 97, 121, 115]]).length + (zdJ b.order).length + (zaW [98, 97, 99, 107, 115] b.backs []).length + (zaW [118, 111, 105, 99, 101, 115] b.voices [[112, 101, 114], [109, 105, 108, 108, 101]]).length + (zaW [106, 117, 114, 121] b.jury []).length + (zaW [102, 117, 110, 100] b.fund [[112, 101, 114], [109, 105, 108, 108, 101]]).length + (zdx b.lets).length + (zb4 [100, 117, 101] b.due).length + (restW [102, 105, 110, 101] b.fine).length + (restW [112, 97, 121] b.pay).length + (restW [99, 111, 118, 101, 114] b.cover).length + (restW [104, 111, 108, 100] b.hold).length := by simp only [List.length_append, List.length_nil]; omega
 rw [hpos] at hte ⊢
 have hS15 : StopAt l (0 + (ze2 b.kind b.sld).length + (zaW [112, 101, 114, 105, 111, 100] b.period [[100, 97, 121, 115]]).length + (zaW [108, 97, 115, 116] b.last []).length + (zaW [103, 114, 97, 99, 101] b.grace [[100, 97, 121, 115]]).length + (zaW [119, 97, 105, 116] b.wait [[100, 97, 121, 115]]).length + (zdJ b.order).length + (zaW [98, 97, 99, 107, 115] b.backs []).length + (zaW [118, 111, 105, 99, 101, 115] b.voices [[112, 101, 114], [109, 105, 108, 108, 101]]).length + (zaW [106, 117, 114, 121] b.jury []).length + (zaW [102, 117, 110, 100] b.fund [[112, 101, 114], [109, 105, 108, 108, 101]]).length + (zdx b.lets).length + (zb4 [100, 117, 101] b.due).length + (restW [102, 105, 110, 101] b.fine).length + (restW [112, 97, 121] b.pay).length + (restW [99, 111, 118, 101, 114] b.cover).length + (restW [104, 111, 108, 100] b.hold).length) [] := fun v _ => (zpd hte hke).1 v
 obtain ⟨hhold, hS14⟩ := zeM hl e5 r14 hS15 (by decide)
 obtain ⟨hcover, hS13⟩ := zeM hl e4 r13 hS14 (by decide)
 obtain ⟨hpay, hS12⟩ := zeM hl e3 r12 hS13 (by decide)
 obtain ⟨hfine, hS11⟩ := zeM hl e2 r11 hS12 (by decide)
 have rdue := zn3 r10
 have hS10 : StopAt l (0 + (ze2 b.kind b.sld).length + (zaW [112, 101, 114, 105, 111, 100] b.period [[100, 97, 121, 115]]).length + (zaW [108, 97, 115, 116] b.last []).length + (zaW [103, 114, 97, 99, 101] b.grace [[100, 97, 121, 115]]).length + (zaW [119, 97, 105, 116] b.wait [[100, 97, 121, 115]]).length + (zdJ b.order).length + (zaW [98, 97, 99, 107, 115] b.backs []).length + (zaW [118, 111, 105, 99, 101, 115] b.voices [[112, 101, 114], [109, 105, 108, 108, 101]]).length + (zaW [106, 117, 114, 121] b.jury []).length + (zaW [102, 117, 110, 100] b.fund [[112, 101, 114], [109, 105, 108, 108, 101]]).length + (zdx b.lets).length) [[100, 117, 101]] := StopAt.head rdue
 have hwdue := rdue.want
 have hdue := ze0 hl e1 rdue.tail
 have hdl : 0 + (ze2 b.kind b.sld).length + (zaW [112, 101, 114, 105, 111, 100] b.period [[100, 97, 121, 115]]).length + (zaW [108, 97, 115, 116] b.last []).length + (zaW [103, 114, 97, 99, 101] b.grace [[100, 97, 121, 115]]).length + (zaW [119, 97, 105, 116] b.wait [[100, 97, 121, 115]]).length + (zdJ b.order).length + (zaW [98, 97, 99, 107, 115] b.backs []).length + (zaW [118, 111, 105, 99, 101, 115] b.voices [[112, 101, 114], [109, 105, 108, 108, 101]]).length + (zaW [106, 117, 114, 121] b.jury []).length + (zaW [102, 117, 110, 100] b.fund [[112, 101, 114], [109, 105, 108, 108, 101]]).length + (zdx b.lets).length + 1 + (zaP b.due 0).length + 1 = 0 + (ze2 b.kind b.sld).length + (zaW [112, 101, 114, 105, 111, 100] b.period [[100, 97, 121, 115]]).length + (zaW [108, 97, 115, 116] b.last []).length + (zaW [103, 114, 97, 99, 101] b.grace [[100, 97, 121, 115]]).length + (zaW [119, 97, 105, 116] b.wait [[100, 97, 121, 115]]).length + (zdJ b.order).length + (zaW [98, 97, 99, 107, 115] b.backs []).length + (zaW [118, 111, 105, 99, 101, 115] b.voices [[112, 101, 114], [109, 105, 108, 108, 101]]).length + (zaW [106, 117, 114, 121] b.jury []).length + (zaW [102, 117, 110, 100] b.fund [[112, 101, 114], [109, 105, 108, 108, 101]]).length + (zdx b.lets).length + (zb4 [100, 117, 101] b.due).length := by simp only [zb4, List.length_cons, List.length_append, List.length_nil]; omega
 rw [hdl] at hdue
 obtain ⟨hlets2, hS9⟩ := zhY hl (by decide) b.lets [] 21 _ _ hlets (by simpa using hlen2) (by omega) r9 hS10
 obtain ⟨hfund, hS8⟩ := zcJ (least := 0) (most := 1000) r8 (fun _ => kfund.1) (by omega) kfund.2 (by decide) hS9 (by decide)
 obtain ⟨hjury, hS7⟩ := zcJ (least := 0) (most := 60) r7 (fun _ => kjury.1) (by omega) kjury.2 (by decide) hS8 (by decide)
 obtain ⟨hvoices, hS6⟩ := zcJ (least := 0) (most := 1000) r6 (fun _ => kvoices.1) (by omega) kvoices.2 (by decide) hS7 (by decide)
 obtain ⟨hbacks, hS5⟩ := zcJ (least := 0) (most := 60) r5 (fun _ => kbacks.1) (by omega) kbacks.2 (by decide) hS6 (by decide)
 obtain ⟨horder, hS4⟩ := zkE ko.1 ko.2 r4 hS5 (by decide)
 obtain ⟨hwait, hS3⟩ := zcJ (least := 0) (most := 1000) r3 (fun _ => kwait.1) (by omega) kwait.2 (by decide) hS4 (by decide)
 obtain ⟨hgrace, hS2⟩ := zcJ (least := 0) (most := 1000) r2 (fun _ => kgrace.1) (by omega) kgrace.2 (by decide) hS3 (by decide)
 obtain ⟨hlast, hS1⟩ := zcJ (least := 1) (most := 1000) r1 (fun _ => klast.1) (by omega) klast.2 (by decide) hS2 (by decide)
 obtain ⟨hperiod, hS0⟩ := zcJ (least := 1) (most := 1000) r0 (fun _ => kperiod.1) (by omega) kperiod.2 (by decide) hS1 (by decide)
 have hmperiod := zjF (by omega) r0
 have hmlast := zjF (by omega) r1
 have hfin : zpe l (0 + (ze2 b.kind b.sld).length + (zaW [112, 101, 114, 105, 111, 100] b.period [[100, 97, 121, 115]]).length + (zaW [108, 97, 115, 116] b.last []).length + (zaW [103, 114, 97, 99, 101] b.grace [[100, 97, 121, 115]]).length + (zaW [119, 97, 105, 116] b.wait [[100, 97, 121, 115]]).length + (zdJ b.order).length + (zaW [98, 97, 99, 107, 115] b.backs []).length + (zaW [118, 111, 105, 99, 101, 115] b.voices [[112, 101, 114], [109, 105, 108, 108, 101]]).length + (zaW [106, 117, 114, 121] b.jury []).length + (zaW [102, 117, 110, 100] b.fund [[112, 101, 114], [109, 105, 108, 108, 101]]).length + (zdx b.lets).length + (zb4 [100, 117, 101] b.due).length + (restW [102, 105, 110, 101] b.fine).length + (restW [112, 97, 121] b.pay).length + (restW [99, 111, 118, 101, 114] b.cover).length + (restW [104, 111, 108, 100] b.hold).length) = .ok () (0 + (ze2 b.kind b.sld).length + (zaW [112, 101, 114, 105, 111, 100] b.period [[100, 97, 121, 115]]).length + (zaW [108, 97, 115, 116] b.last []).length + (zaW [103, 114, 97, 99, 101] b.grace [[100, 97, 121, 115]]).length + (zaW [119, 97, 105, 116] b.wait [[100, 97, 121, 115]]).length + (zdJ b.order).length + (zaW [98, 97, 99, 107, 115] b.backs []).length + (zaW [118, 111, 105, 99, 101, 115] b.voices [[112, 101, 114], [109, 105, 108, 108, 101]]).length + (zaW [106, 117, 114, 121] b.jury []).length + (zaW [102, 117, 110, 100] b.fund [[112, 101, 114], [109, 105, 108, 108, 101]]).length + (zdx b.lets).length + (zb4 [100, 117, 101] b.due).length + (restW [102, 105, 110, 101] b.fine).length + (restW [112, 97, 121] b.pay).length + (restW [99, 111, 118, 101, 114] b.cover).length + (restW [104, 111, 108, 100] b.hold).length) := by rw [zpe, hte]; simp [hke]
 simp only [List.nil_append] at hlets2
 simp only [List.cons_append, List.nil_append] at hperiod hlast hgrace hwait hbacks hvoices hjury hfund
 rw [zob, hkind, PR.zav, hmperiod, PR.zav, hperiod, PR.zav, hmlast, PR.zav, hlast, PR.zav, hgrace, PR.zav, hwait, PR.zav, horder, PR.zav, hbacks, PR.zav, hvoices, PR.zav, hjury, PR.zav, hfund, PR.zav, hlets2, PR.zav, hwdue, PR.zav, hdue, PR.zav, hfine, PR.zav, hpay, PR.zav, hcover, PR.zav, hhold, PR.zav, hfin, PR.zav]
end Go.Proofs.YthnemhfamhnfjaaGreatDoor
namespace Go.Proofs.YthnemhfamhnfjaaGreatDoor
open Go Go.VL
theorem zdi {w : W8} {n : Int} {bh : List W8} (hw : GoodW w) (h0 : 0 ≤ n) (h1 : n ≤ 1000) (hb : AllGood bh) : AllGood (zaW w n bh) := by
 rw [zaW]
 split
 ·exact AllGood.nil
 ·exact AllGood.cons hw (AllGood.cons (zlq h0 (by omega)) (hb.app (AllGood.cons zbL.2.2.2.1 AllGood.nil)))
theorem znM (k : Int) (s : Bool) : AllGood (ze2 k s) := by
 rw [ze2]
 split
 ·exact AllGood.cons (zaG (by decide)) (AllGood.cons (zaG (by decide)) (AllGood.cons (zaG (by decide)) (AllGood.cons zbL.2.2.2.1 AllGood.nil)))
 ·refine AllGood.cons (zaG (by decide)) (AllGood.cons ?_ (AllGood.cons zbL.2.2.2.1 AllGood.nil))
  split
  ·exact zaG (by decide)
  ·split <;> exact zaG (by decide)
theorem zl2 {o : Int} (h0 : 0 ≤ o) (h1 : o ≤ 2) : AllGood (zdJ o) := by
 have hc : o = 0 ∨ o = 1 ∨ o = 2 := by omega
 rcases hc with rfl | rfl | rfl
 ·exact AllGood.nil
 all_goals exact AllGood.cons (zaG (by decide)) (AllGood.cons (zaG (by decide)) (AllGood.cons zbL.2.2.2.1 AllGood.nil))
theorem zhj {w : W8} {e : Exp} (hw : GoodW w) (he : zaE 12 e = true) : AllGood (zb4 w e) :=
 AllGood.cons hw ((zgO 12 e he 0).app (AllGood.cons zbL.2.2.2.1 AllGood.nil))
theorem zff {w : W8} {e : Exp} (hw : GoodW w) (he : zaE 12 e = true) : AllGood (restW w e) := by
 unfold restW
 split
 ·exact AllGood.nil
 ·exact zhj hw he
theorem zjL : ∀ (L acc : List Let), zfp acc L = true → AllGood (zdx L)
 | [], _, _ => AllGood.nil
 | x :: L, acc, h => by
  rw [zfp, Bool.and_eq_true, Bool.and_eq_true, Bool.and_eq_true] at h
  obtain ⟨⟨⟨b1, b2⟩, b3⟩, b4⟩ := h
  have hx : AllGood (zos x) := by
   rw [zbD, Bool.and_eq_true] at b1
   exact AllGood.cons (zaG (by decide)) (AllGood.cons (zaG b1.1) (AllGood.cons zbL.2.2.2.2 ((zgO 12 x.body b2 0).app (AllGood.cons zbL.2.2.2.1 AllGood.nil))))
  exact hx.app (zjL L _ b4)
theorem zqq {b : By} (h : zca b = true) : AllGood (byW b) := by
 simp only [zca, zmw, zmB, Bool.and_eq_true] at h
 obtain ⟨⟨⟨⟨⟨⟨⟨⟨i1, i2⟩, i3⟩, i4⟩, i5⟩, hsl⟩, hlen⟩, hlets⟩, ⟨⟨⟨e1, e2⟩, e3⟩, e4⟩, e5⟩ := h
 have ko := zcQ i2 (n := b.order) (by simp)
 have kperiod := zcQ i3 (n := b.period) (by simp)
 have klast := zcQ i3 (n := b.last) (by simp)
 have kgrace := zcQ i4 (n := b.grace) (by simp)
 have kwait := zcQ i4 (n := b.wait) (by simp)
 have kvoices := zcQ i4 (n := b.voices) (by simp)
 have kfund := zcQ i4 (n := b.fund) (by simp)
 have kbacks := zcQ i5 (n := b.backs) (by simp)
 have kjury := zcQ i5 (n := b.jury) (by simp)
 have hdays : AllGood [[100, 97, 121, 115]] := AllGood.cons (zaG (by decide)) AllGood.nil
 have hmille : AllGood [[112, 101, 114], [109, 105, 108, 108, 101]] := AllGood.cons (zaG (by decide)) (AllGood.cons (zaG (by decide)) AllGood.nil)
 unfold byW
 refine (znM _ _).app ?_
 refine (zdi (zaG (by decide)) (by omega) (by omega) hdays).app ?_
 refine (zdi (zaG (by decide)) (by omega) (by omega) AllGood.nil).app ?_
 refine (zdi (zaG (by decide)) (by omega) (by omega) hdays).app ?_
 refine (zdi (zaG (by decide)) (by omega) (by omega) hdays).app ?_
 refine (zl2 ko.1 ko.2).app ?_
 refine (zdi (zaG (by decide)) (by omega) (by omega) AllGood.nil).app ?_
 refine (zdi (zaG (by decide)) (by omega) (by omega) hmille).app ?_
 refine (zdi (zaG (by decide)) (by omega) (by omega) AllGood.nil).app ?_
 refine (zdi (zaG (by decide)) (by omega) (by omega) hmille).app ?_
 refine (zjL _ _ hlets).app ?_
 refine (zhj (zaG (by decide)) e1).app ?_
 refine (zff (zaG (by decide)) e2).app ?_
 refine (zff (zaG (by decide)) e3).app ?_
 refine (zff (zaG (by decide)) e4).app ?_
 exact (zff (zaG (by decide)) e5).app AllGood.nil
/-- THE TEXT OF RIGHT BYLAWS, with any blanks between its words, is parsed to them. -/
theorem zqp {b : By} (h : zca b = true) {l : List (W8 × W8)} (hs : Spaced l) (hw : l.map (·.1) = byW b) (hlen : (zbJ l).length ≤ 2000) :
  ∃ ts, ziZ (zbJ l) = .ok ts ∧ TokOK ts ∧ zob ts = .ok b (byW b).length := by
 obtain ⟨ts, h1, h2, h3, t, h4, h5⟩ := zmf hs hlen
 have hll := ziI l hs
 have hok := zoz h2 ⟨t, h4, h5⟩ (by omega)
 have hsl : (byW b).length = l.length := by rw [← hw, List.length_map]
 rw [hw] at h3
 have := zqr hok h h3 ⟨t, by rw [Nat.zero_add, hsl]; exact h4, h5⟩
 rw [Nat.zero_add] at this
 exact ⟨ts, h1, hok, this⟩
end Go.Proofs.YthnemhfamhnfjaaGreatDoor
namespace Go.Proofs.YthnemhfamhnfjaaGreatDoor
open Go Go.VL
def zgk (ws : List W8) : List (W8 × W8) := ws.map fun w => (w, if w = [59] then [10] else [32])
theorem zoD (ws : List W8) : (zgk ws).map (·.1) = ws := by simp [zgk, Function.comp_def]
theorem zk4 (a b : List W8) : zgk (a ++ b) = zgk a ++ zgk b := by simp [zgk]
theorem zhe : ∀ a b : List (W8 × W8), zbJ (a ++ b) = zbJ a ++ zbJ b
 | [], b => rfl
 | x :: a, b => by rw [List.cons_append, zbJ, zbJ, zhe a b]; simp
theorem zhJ : ∀ l : List (W8 × W8), (∀ x ∈ l, GoodW x.1 ∧ (∀ c ∈ x.2, zbb c = true) ∧ x.2 ≠ []) → Spaced l
 | [], _ => trivial
 | [x], h => ⟨(h x (by simp)).1, (h x (by simp)).2.1⟩
 | x :: y :: l, h => ⟨(h x (by simp)).1, (h x (by simp)).2.1, (h x (by simp)).2.2, zhJ (y :: l) fun z hz => h z (List.mem_cons_of_mem _ hz)⟩
theorem zku {ws : List W8} (h : AllGood ws) : Spaced (zgk ws) := zhJ _ fun x hx => by
 obtain ⟨w, hw, rfl⟩ := List.mem_map.1 hx
 refine ⟨h w hw, ?_, ?_⟩
 ·split <;> simp [zbb]
 ·split <;> simp
/-- The text of bylaws. -/
noncomputable def textB (b : By) : W8 := zbJ (zgk (byW b))
theorem zfl : ∀ ws : List W8, ws ≠ [] → (∀ w ∈ ws, w ≠ [59]) → zbJ (zgk (ws ++ [[59]])) = zbC ws ++ [32, 59, 10]
 | [], h, _ => absurd rfl h
 | [w], _, h => by
  have := h w (by simp)
  simp [zgk, zbJ, zbC, spW, this]
 | w :: v :: l, _, h => by
  have h1 := h w (by simp)
  have ih := zfl (v :: l) (by simp) fun x hx => h x (List.mem_cons_of_mem _ hx)
  have e : zgk (w :: v :: l ++ [[59]]) = (w, [32]) :: zgk (v :: l ++ [[59]]) := by simp [zgk, h1]
  rw [e, zbJ, ih, zaV]
  simp
def NoSemi (ws : List W8) : Prop := ∀ w ∈ ws, w ≠ [59]
theorem NoSemi.nil : NoSemi [] := fun _ h => by cases h
theorem NoSemi.cons {w : W8} {ws : List W8} (h : w ≠ [59]) (h2 : NoSemi ws) : NoSemi (w :: ws) := fun x hx => by
 rcases List.mem_cons.1 hx with rfl | hx
 ·exact h
 ·exact h2 x hx
theorem NoSemi.app {a b : List W8} (h : NoSemi a) (h2 : NoSemi b) : NoSemi (a ++ b) := fun x hx => by
 rcases List.mem_append.1 hx with hx | hx
 ·exact h x hx
 ·exact h2 x hx
theorem znh {e : Exp} (h : NoSemi (za3 e)) (least : Int) : NoSemi (zaP e least) := by
 rw [zaP, zor]
 split
 ·exact (h.app (NoSemi.cons (by decide) NoSemi.nil)).cons (by decide)
 ·exact h
theorem zjE {s : W8} (h : zbD s = true) : s ≠ [59] := fun e => by rw [e] at h; revert h; decide
theorem zjO {n : Int} (h0 : 0 ≤ n) (h1 : n ≤ 1099511627776) : Lib.itoa n ≠ [59] := fun e => by
 have := (zgz h0 h1).1
 rw [e] at this
 revert this
 decide
theorem zoL {o : Opr} (ho : o ∈ oprs) : o.text ≠ [59] := by
 simp only [oprs, List.mem_cons, List.mem_nil_iff, or_false] at ho
 rcases ho with rfl | rfl | rfl | rfl | rfl | rfl | rfl | rfl <;> decide
theorem zgN : ∀ (d : Nat) (e : Exp), zaE d e = true → ∀ least, NoSemi (zaP e least)
 | 0, e, h => by rw [zaE] at h; cases h
 | d + 1, .mk op n u s args, h => by
  intro least
  refine znh ?_ least
  rcases zcl h with ⟨rfl, rfl, rfl, hn⟩ | ⟨rfl, rfl, rfl, rfl, hn⟩ | ⟨rfl, rfl, rfl, ha, h3⟩
  ·have hb : za3 (.mk 0 n u [] []) = zdv n u := by rw [za3, zcV, if_pos rfl]
   obtain ⟨hu0, hu1, hn0, hn2, hn1⟩ := zgY hn
   rw [hb, zdv]
   split
   ·refine NoSemi.cons ?_ NoSemi.nil
    split <;> decide
   ·refine NoSemi.cons (zjO hn0 hn2) ?_
    split
    ·exact NoSemi.cons (by decide) NoSemi.nil
    ·split
     ·exact NoSemi.cons (by decide) NoSemi.nil
     ·split
      ·exact NoSemi.cons (by decide) (NoSemi.cons (by decide) NoSemi.nil)
      ·exact NoSemi.nil
  ·have hb : za3 (.mk 1 0 0 s []) = [s] := by rw [za3, zcV, if_neg (by decide), if_pos rfl]
   rw [hb]
   exact NoSemi.cons (zjE hn) NoSemi.nil
  ·have hm : ∀ x ∈ args, ∀ least, NoSemi (zaP x least) := fun x hx => zgN d x (ha x hx)
   rcases h3 with ⟨rfl, hl⟩ | ⟨rfl, hl⟩ | ⟨g0, g1, g12, g13, g2, g3, hl⟩
   ·obtain ⟨a, rfl⟩ := zkM hl
    rw [zfD]
    exact (hm a (by simp) 3).cons (by decide)
   ·obtain ⟨a, b, c, rfl⟩ := zkK hl
    rw [zho]
    exact ((hm a (by simp) 0).app (((hm b (by simp) 0).app ((hm c (by simp) 0).cons (by decide))).cons (by decide))).cons (by decide)
   ·obtain ⟨a, b, rfl⟩ := zkL hl
    have hab := ((hm a (by simp) 0).app (((hm b (by simp) 0).app (NoSemi.cons (w := [41]) (by decide) NoSemi.nil)).cons (w := [44]) (by decide))).cons (w := [40]) (by decide)
    by_cases h6 : op = 6
    ·subst h6
     rw [zfE]
     exact hab.cons (by decide)
    ·by_cases h7 : op = 7
     ·subst h7
      rw [zfF]
      exact hab.cons (by decide)
     ·obtain ⟨o, ho, rfl⟩ := zgX (op := op) (by omega) (by omega) h6 h7
      rw [zfC ho]
      exact (hm a (by simp) _).app ((hm b (by simp) _).cons (zoL ho))
/-- Bylaws that are right are parsed from their printed text. -/
theorem zlX {b : By} (h : zca b = true) (hlen : (textB b).length ≤ 2000) : ∃ ts, ziZ (textB b) = .ok ts ∧ TokOK ts ∧ zob ts = .ok b (byW b).length :=
 zqp h (zku (zqq h)) (zoD _) hlen
theorem zkR {w : W8} {e : Exp} (hw : w ≠ [59]) (he : zaE 12 e = true) : zbJ (zgk (zb4 w e)) = w ++ [32] ++ zbC (zaP e 0) ++ [32, 59, 10] := by
 have hs := zgN 12 e he 0
 have hne := zks e he
 have : zb4 w e = (w :: zaP e 0) ++ [[59]] := by simp [zb4]
 rw [this, zfl _ (by simp) (NoSemi.cons hw hs)]
 obtain ⟨v, l, hv⟩ : ∃ v l, zaP e 0 = v :: l := by
  cases hc : zaP e 0 with
  | nil => exact absurd hc hne
  | cons v l => exact ⟨v, l, rfl⟩
 rw [hv, zaV]
theorem zoY {x : Let} (hn : zbD x.name = true) (he : zaE 12 x.body = true) : zbJ (zgk (zos x)) = [108, 101, 116, 32] ++ x.name ++ [32, 61, 32] ++ zbC (zaP x.body 0) ++ [32, 59, 10] := by
 have hs := zgN 12 x.body he 0
 have hne := zks x.body he
 have : zos x = ([108, 101, 116] :: x.name :: [61] :: zaP x.body 0) ++ [[59]] := by simp [zos]
 rw [this, zfl _ (by simp) (NoSemi.cons (by decide) (NoSemi.cons (zjE hn) (NoSemi.cons (by decide) hs)))]
 obtain ⟨v, l, hv⟩ : ∃ v l, zaP x.body 0 = v :: l := by
  cases hc : zaP x.body 0 with
  | nil => exact absurd hc hne
  | cons v l => exact ⟨v, l, rfl⟩
 rw [hv, zaV, zaV, zaV]
 simp
end Go.Proofs.YthnemhfamhnfjaaGreatDoor
namespace Go.Proofs.YthnemhfamhnfjaaGreatDoor
open Go Go.VL
/-- The text of an operand. -/
def txt (e : Exp) (least : Int) : W8 := zbC (zaP e least)
theorem zbd (w : W8) : zbC [w] = w := by simp [zbC, spW, zbJ]
theorem zbK {w : W8} {l : List W8} (h : l ≠ []) : zbC (w :: l) = w ++ [32] ++ zbC l := by
 cases l with
 | nil => exact absurd rfl h
 | cons v l => exact zaV w v l
theorem zj9 {d : Nat} {e : Exp} (h : zaE d e = true) : za3 e ≠ [] := by
 cases d with
 | zero => rw [zaE] at h; cases h
 | succ d =>
  obtain ⟨op, n, u, s, args⟩ := e
  rcases zcl h with ⟨rfl, rfl, rfl, hn⟩ | ⟨rfl, rfl, rfl, rfl, hn⟩ | ⟨rfl, rfl, rfl, ha, ⟨rfl, hl⟩ | ⟨rfl, hl⟩ | ⟨g0, g1, g12, g13, g2, g3, hl⟩⟩
  ·rw [za3, zcV, if_pos rfl, zdv]
   split <;> simp
  ·rw [za3, zcV, if_neg (by decide), if_pos rfl]; simp
  ·obtain ⟨a, rfl⟩ := zkM hl
   rw [zfD]; simp
  ·obtain ⟨a, b, c, rfl⟩ := zkK hl
   rw [zho]; simp
  ·obtain ⟨a, b, rfl⟩ := zkL hl
   by_cases h6 : op = 6
   ·subst h6; rw [zfE]; simp
   ·by_cases h7 : op = 7
    ·subst h7; rw [zfF]; simp
    ·obtain ⟨o, ho, rfl⟩ := zgX (by omega) (by omega) h6 h7
     rw [zfC ho]; simp
theorem zde {d : Nat} {e : Exp} (h : zaE d e = true) (least : Int) : zaP e least ≠ [] := by
 rw [zaP, zor]
 split
 ·simp
 ·exact zj9 h
theorem zgt {d : Nat} {e : Exp} (h : zaE d e = true) {least : Int} (hl : zcb e.op < least) : txt e least = [40, 32] ++ zbC (za3 e) ++ [32, 41] := by
 rw [txt, zaP, zor, if_pos hl]
 simp only [List.cons_append]
 rw [zbK (by simp), zcP _ _ (zj9 h) (by simp), zbd]
 simp
theorem zdc {e : Exp} {least : Int} (hl : ¬ zcb e.op < least) : txt e least = zbC (za3 e) := by
 rw [txt, zaP, zor, if_neg hl]
theorem znP {d : Nat} {a b c : Exp} (ha : zaE d a = true) (hb : zaE d b = true) (hc : zaE d c = true) :
  zbC (za3 (.mk 13 0 0 [] [a, b, c])) = [105, 102, 32] ++ txt a 0 ++ [32, 116, 104, 101, 110, 32] ++ txt b 0 ++ [32, 101, 108, 115, 101, 32] ++ txt c 0 := by
 rw [zho, zbK (by simp), zcP _ _ (zde ha 0) (by simp), zbK (by simp), zcP _ _ (zde hb 0) (by simp), zbK (zde hc 0)]
 simp [txt]
theorem zlk {d : Nat} {a : Exp} (ha : zaE d a = true) : zbC (za3 (.mk 12 0 0 [] [a])) = [110, 111, 116, 32] ++ txt a 3 := by
 rw [zfD, zbK (zde ha 3)]
 simp [txt]
theorem zll {d : Nat} {a b : Exp} (ha : zaE d a = true) (hb : zaE d b = true) : zbC (za3 (.mk 6 0 0 [] [a, b])) = [109, 105, 110, 32, 40, 32] ++ txt a 0 ++ [32, 44, 32] ++ txt b 0 ++ [32, 41] := by
 rw [zfE, zbK (by simp), zbK (by simp), zcP _ _ (zde ha 0) (by simp), zbK (by simp), zcP _ _ (zde hb 0) (by simp), zbd]
 simp [txt]
theorem zlm {d : Nat} {a b : Exp} (ha : zaE d a = true) (hb : zaE d b = true) : zbC (za3 (.mk 7 0 0 [] [a, b])) = [109, 97, 120, 32, 40, 32] ++ txt a 0 ++ [32, 44, 32] ++ txt b 0 ++ [32, 41] := by
 rw [zfF, zbK (by simp), zbK (by simp), zcP _ _ (zde ha 0) (by simp), zbK (by simp), zcP _ _ (zde hb 0) (by simp), zbd]
 simp [txt]
theorem zeQ {d : Nat} {a b : Exp} {o : Opr} (ho : o ∈ oprs) (ha : zaE d a = true) (hb : zaE d b = true) :
  zbC (za3 (.mk o.op 0 0 [] [a, b])) = txt a (if o.form = 4 then 5 else o.form) ++ [32] ++ o.text ++ [32] ++ txt b (o.form + 1) := by
 rw [zfC ho, zcP _ _ (zde ha _) (by simp), zbK (zde hb _)]
 simp [txt]
def SB : Nat → Nat
 | 0 => 0
 | d + 1 => 3 * SB d + 200
theorem ziC {n : Int} (h0 : 0 ≤ n) (h1 : n ≤ 1099511627776) : (Lib.itoa n).length ≤ 13 := by
 rw [Lib.itoa, if_neg (by omega)]
 have hlt : n.toNat < 10 ^ (12 + 1) := by
  have : (10 : Nat) ^ 13 = 10000000000000 := by decide
  omega
 exact zfz n.toNat 12 hlt
theorem znm {n u : Int} (h : zoP (.mk 0 n u [] []) = true) : (zbC (zdv n u)).length ≤ 30 := by
 obtain ⟨hu0, hu1, hn0, hn2, hn1⟩ := zgY h
 have hi := ziC hn0 hn2
 rw [zdv]
 split
 ·rw [zbd]; split <;> simp
 ·split
  ·rw [zaV, zbd]; simp; omega
  ·split
   ·rw [zaV, zbd]; simp; omega
   ·split
    ·rw [zaV, zaV, zbd]; simp; omega
    ·rw [zbd]; omega
theorem ziy {s : W8} (h : zbD s = true) : s.length ≤ 20 := by
 simp only [zbD, Bool.and_eq_true] at h
 have h := h.1
 cases s with
 | nil => simp
 | cons c r =>
  simp only [zeW, Bool.and_eq_true, decide_eq_true_eq] at h
  exact h.1.2
theorem zng {o : Opr} (ho : o ∈ oprs) : o.text.length ≤ 3 := by
 simp only [oprs, List.mem_cons, List.not_mem_nil, or_false] at ho
 rcases ho with rfl | rfl | rfl | rfl | rfl | rfl | rfl | rfl <;> decide
theorem zlF : ∀ (d : Nat) (e : Exp), zaE d e = true → (zbC (za3 e)).length + 4 ≤ SB d
 | 0, e, h => by rw [zaE] at h; cases h
 | d + 1, .mk op n u s args, h => by
  have hx : ∀ x : Exp, zaE d x = true → ∀ least, (txt x least).length ≤ SB d := fun x hx least => by
   have h1 := zlF d x hx
   by_cases hl : zcb x.op < least
   ·rw [zgt hx hl]; simp; omega
   ·rw [zdc hl]; omega
  rw [SB]
  rcases zcl h with ⟨rfl, rfl, rfl, hn⟩ | ⟨rfl, rfl, rfl, rfl, hn⟩ | ⟨rfl, rfl, rfl, ha, ⟨rfl, hl⟩ | ⟨rfl, hl⟩ | ⟨g0, g1, g12, g13, g2, g3, hl⟩⟩
  ·rw [za3, zcV, if_pos rfl]
   have := znm hn
   omega
  ·rw [za3, zcV, if_neg (by decide), if_pos rfl, zbd]
   have := ziy hn
   omega
  ·obtain ⟨a, rfl⟩ := zkM hl
   have h1 := ha a (by simp)
   rw [zlk h1]
   have := hx a h1 3
   simp
   omega
  ·obtain ⟨a, b, c, rfl⟩ := zkK hl
   have h1 := ha a (by simp)
   have h2 := ha b (by simp)
   have h3 := ha c (by simp)
   rw [znP h1 h2 h3]
   have := hx a h1 0
   have := hx b h2 0
   have := hx c h3 0
   simp
   omega
  ·obtain ⟨a, b, rfl⟩ := zkL hl
   have h1 := ha a (by simp)
   have h2 := ha b (by simp)
   by_cases h6 : op = 6
   ·subst h6
    rw [zll h1 h2]
    have := hx a h1 0
    have := hx b h2 0
    simp
    omega
   ·by_cases h7 : op = 7
    ·subst h7
     rw [zlm h1 h2]
     have := hx a h1 0
     have := hx b h2 0
     simp
     omega
    ·obtain ⟨o, ho, rfl⟩ := zgX (by omega) (by omega) h6 h7
     rw [zeQ ho h1 h2]
     have := hx a h1 (if o.form = 4 then 5 else o.form)
     have := hx b h2 (o.form + 1)
     have := zng ho
     simp only [List.length_append, List.length_cons, List.length_nil]
     omega
theorem zrU {d : Nat} (h : d ≤ 12) : SB d ≤ 53144000 := by
 have key : ∀ n, n ≤ 12 → SB n ≤ 53144000 := by decide
 exact key d h
theorem zcD {d : Nat} {e : Exp} (h : zaE d e = true) (hd : d ≤ 12) (least : Int) : (txt e least).length ≤ 53144000 := by
 have h1 := zlF d e h
 have h2 := zrU hd
 by_cases hl : zcb e.op < least
 ·rw [zgt h hl]; simp; omega
 ·rw [zdc hl]; omega
attribute [local simp] HS zcR zb0 evPure opd uOf zaH St.put St.at getK binD binI binS binB nilD aggD zgp zhi lookD lookR zcm Go.VL.nextD zcq zhv zhu zfX zcs mkV zdb zbj zbr mapEff zd1 zfM Key.kk shiftI arith unD convD zdH loadD cellsAt fieldAddrD fieldD indexAddrD indexD sliceD cutD lenD minmaxD nilCheckD buildD fillD zbH zcW zes setAll zcE zeJ zch zgC zcd St.add zaM zbB rowsOf zdw zcA zak zac zaa zba zcz zaR entry zbo zbq valD zb5 zcu zgh zc8 zda zbO zbG zau za2 zbm delAll effD St.effS zcM za6 zaY zcN za7 za0 zbY zaZ zaS zbZ zcH zbv zbV zbi zbT zbU zaJ mkD zbI zbs zbF zau zcf D.ids Op.operands Call.operands zbx makeIfD makeFuncD typeAssertD zhh zds zdt zgK zcn IntKind.bits zcG List.take_of_length_le List.range_succ
attribute [local irreducible] V G H HD HD2 HD4 zkk RetX zao Eff CallP CallV EndOK Fun Ret FinOK LoopI LoopW EndW
theorem zlu (e : Exp) : Fun Tryz.prog 111 [.u (.agg e.row)] (· = .u (.int .i64 (zcb e.op))) := by
 have hop := zeg
 rw [Exp.row_eq]
 by_cases h1 : e.op = 13
 ·rw [zcb, if_pos h1]
  (refine Fun.of_body Tryz.func111 rfl (by simp) fun Γ hn => ?_); simp only [entry, List.zipIdx_cons, List.zipIdx_nil, List.map_cons, List.map_nil, Nat.zero_add, Tryz.ntmps111]
  repeat' (first
  | (refine zaf ?_; simp [h1])
  | (refine zal ?_; simp [h1])
  | (refine zah ?_; simp [h1])
  | (refine zai ?_; simp [h1])
  | (refine zaA ?_; simp [h1])
  | (refine zar ?_; simp only [zao])
  | fail)
  (refine EndOK.val (.inr rfl) ?_; simp [zaL, zag, zas, Tryz.results111])
 ·by_cases h2 : e.op = 12
  ·rw [zcb, if_neg h1, if_pos h2]
   (refine Fun.of_body Tryz.func111 rfl (by simp) fun Γ hn => ?_); simp only [entry, List.zipIdx_cons, List.zipIdx_nil, List.map_cons, List.map_nil, Nat.zero_add, Tryz.ntmps111]
   repeat' (first
  | (refine zaf ?_; simp [h1, h2])
  | (refine zal ?_; simp [h1, h2])
  | (refine zah ?_; simp [h1, h2])
  | (refine zai ?_; simp [h1, h2])
  | (refine zaA ?_; simp [h1, h2])
  | (refine zar ?_; simp only [zao])
  | fail)
   (refine EndOK.val (.inr rfl) ?_; simp [zaL, zag, zas, Tryz.results111])
  ·rw [zcb, if_neg h1, if_neg h2]
   have hlen : oprs.length = 8 := rfl
   generalize oprs = L at *
   (refine Fun.of_body Tryz.func111 rfl (by simp) fun Γ hn => ?_); simp only [entry, List.zipIdx_cons, List.zipIdx_nil, List.map_cons, List.map_nil, Nat.zero_add, Tryz.ntmps111]
   repeat' (first
  | (refine zaf ?_; simp [h1, h2, hlen])
  | (refine zal ?_; simp [h1, h2, hlen])
  | (refine zah ?_; simp [h1, h2, hlen])
  | (refine zai ?_; simp [h1, h2, hlen])
  | (refine zaA ?_; simp [h1, h2, hlen])
  | (refine zap ?_; simp only [zao])
  | (refine CallP.fE (hop) (by first | rfl | fail) (by first | (simp [h1, h2, hlen]; done) | (simp [h1, h2, hlen]; rfl) | fail) ?_; (try simp [h1, h2, hlen]))
  | fail)
   refine zdY (α := { i : Nat // i ≤ 8 ∧ ∀ o ∈ L.take i, decide (o.op = e.op) = false }) [1, 2, 11, 12] (fun x => [(13, .u (.int .i64 x.1))]) (fun x => [(0, .box [.u (.int .i64 e.op), .u (.int .i64 e.n), .u (.int .i64 e.unit), .u (.str e.s), .u (.sl (e.args.map Exp.row))])]) 1 (fun x => 8 - x.1) ⟨0, by omega, by simp⟩ ?_ ?_
   ·exact (Wk.cut rfl (by simp [hn, St.lp]) (by simp [wkO, St.lp, zaa, getK, Ob.under, D.under, zad, zae, hlen]) (by simp [wkU, St.lp, zan, zaa, getK, D.under, hlen]) (by simp [wkE, St.lp, zan, zaa, getK, hlen] <;> (try (intros; simp_all; done)) <;> (try (intros; omega)) <;> (try grind)))
   rintro ⟨i, hi, hb⟩
   simp [St.lp, St.only, zan, zaa, getK]
   rcases hx : L[i]? with _ | o
   ·have hge : L.length ≤ i := by simpa using hx
    obtain rfl : i = 8 := by omega
    rw [List.take_of_length_le (by omega)] at hb
    have hn0 : L.find? (fun o => decide (o.op = e.op)) = none := by rw [List.find?_eq_none]; intro o ho; simp [hb o ho]
    rw [hn0]
    repeat' (first
  | (refine zaf ?_; simp [hx, hlen])
  | (refine zal ?_; simp [hx, hlen])
  | (refine zah ?_; simp [hx, hlen])
  | (refine zar ?_; simp only [zao])
  | (refine zbR ?_; simp [zao])
  | fail)
    (refine EndOK.val (.inr rfl) ?_; simp [zaL, zag, zas, Tryz.results111])
   ·have hlt : i < L.length := (List.getElem?_eq_some_iff.1 hx).1
    have hi8 : i < 8 := by omega
    have hxe : L[i]'hlt = o := (List.getElem?_eq_some_iff.1 hx).2
    by_cases hp : o.op = e.op
    ·have hf : L.find? (fun o => decide (o.op = e.op)) = some o := by
      rw [List.find?_eq_some_iff_getElem]
      refine ⟨by simpa using hp, i, hlt, (List.getElem?_eq_some_iff.1 hx).2, fun j hj => ?_⟩
      have := hb (L[j]'(by omega)) (by rw [List.mem_take_iff_getElem]; exact ⟨j, by omega, rfl⟩)
      simp [this]
     rw [hf]
     repeat' (first
  | (refine zaf ?_; simp [hx, hlen, hp, hi8, hxe])
  | (refine zal ?_; simp [hx, hlen, hp, hi8, hxe])
  | (refine zah ?_; simp [hx, hlen, hp, hi8, hxe])
  | (refine zai ?_; simp [hx, hlen, hp, hi8, hxe])
  | (refine zar ?_; simp only [zao])
  | (refine zap ?_; simp only [zao])
  | (refine ⟨?_, by omega⟩)
  | (intro hc <;> (try (exfalso; omega)))
  | fail)
     (refine EndOK.val (.inr rfl) ?_; simp [zaL, zag, zas, Tryz.results111])
    ·repeat' (first
  | (refine zaf ?_; simp [hx, hlen, hp, hi8, hxe])
  | (refine zal ?_; simp [hx, hlen, hp, hi8, hxe])
  | (refine ⟨by omega, ?_⟩)
  | (refine zah ?_; simp [hx, hlen, hp, hi8, hxe])
  | (refine zai ?_; simp [hx, hlen, hp, hi8, hxe])
  | (refine zaC ?_; simp [hx, hlen, hp, hi8, hxe])
  | (refine zap ?_; simp only [zao])
  | (refine ⟨?_, by omega⟩)
  | (intro hc <;> (try (exfalso; omega)))
  | fail)
     refine LoopW.next ⟨i + 1, by omega, zby (p := fun o : Opr => decide (o.op = e.op) = false) hx hb (by simpa using hp)⟩ (by simp; omega) ?_
     exact (Wk.cut rfl (by simp [hn, St.lp]) (by simp [wkO, St.lp, zaa, getK, Ob.under, D.under, zad, zae, hlen]) (by simp [wkU, St.lp, zan, zaa, getK, D.under, hlen]) (by simp [wkE, St.lp, zan, zaa, getK, hlen] <;> (try (intros; simp_all; done)) <;> (try (intros; omega)) <;> (try grind)))
theorem zma (n u : Int) (h : zoP (.mk 0 n u [] []) = true) : Fun Tryz.prog 113 [.u (.agg (Exp.mk 0 n u [] []).row)] (· = .u (.str (zbC (zdv n u)))) := by
 obtain ⟨hu0, hu1, hn0, hn2, hn1⟩ := zgY h
 have hit := zlo n (by omega) (by omega)
 have hil := ziC hn0 hn2
 rw [Exp.row, List.map_nil, zdv]
 generalize Lib.itoa n = T at *
 have hil2 : T.length ≤ 1000 := by omega
 by_cases c0 : u = 0
 ·rw [if_pos c0]
  by_cases c1 : n = 1
  ·rw [if_pos c1, zbd]
   (refine Fun.of_body Tryz.func113 rfl (by simp) fun Γ hn => ?_); simp only [entry, List.zipIdx_cons, List.zipIdx_nil, List.map_cons, List.map_nil, Nat.zero_add, Tryz.ntmps113]
   repeat' (first
  | (refine zaf ?_; simp [c0, c1])
  | (refine zal ?_; simp [c0, c1])
  | (refine zah ?_; simp [c0, c1])
  | (refine zai ?_; simp [c0, c1])
  | (refine zaA ?_; simp [c0, c1])
  | (refine zar ?_; simp only [zao])
  | (refine CallP.fE (hit) (by first | rfl | fail) (by first | (simp [c0, c1]; done) | (simp [c0, c1]; rfl) | fail) ?_; (try simp [c0, c1]))
  | fail)
   (refine EndOK.val (.inr rfl) ?_; simp [zaL, zag, zas, Tryz.results113])
  ·rw [if_neg c1, zbd]
   (refine Fun.of_body Tryz.func113 rfl (by simp) fun Γ hn => ?_); simp only [entry, List.zipIdx_cons, List.zipIdx_nil, List.map_cons, List.map_nil, Nat.zero_add, Tryz.ntmps113]
   repeat' (first
  | (refine zaf ?_; simp [c0, c1])
  | (refine zal ?_; simp [c0, c1])
  | (refine zah ?_; simp [c0, c1])
  | (refine zai ?_; simp [c0, c1])
  | (refine zaA ?_; simp [c0, c1])
  | (refine zar ?_; simp only [zao])
  | (refine zap ?_; simp only [zao])
  | (refine CallP.fE (hit) (by first | rfl | fail) (by first | (simp [c0, c1]; done) | (simp [c0, c1]; rfl) | fail) ?_; (try simp [c0, c1]))
  | fail)
   (refine EndOK.val (.inr rfl) ?_; simp [zaL, zag, zas, Tryz.results113])
 ·rw [if_neg c0]
  by_cases c3 : u = 3
  ·rw [if_pos c3, zaV, zbd]
   (refine Fun.of_body Tryz.func113 rfl (by simp) fun Γ hn => ?_); simp only [entry, List.zipIdx_cons, List.zipIdx_nil, List.map_cons, List.map_nil, Nat.zero_add, Tryz.ntmps113]
   repeat' (first
  | (refine zaf ?_; simp [c0, c3])
  | (refine zal ?_; simp [c0, c3])
  | (refine ⟨by omega, ?_⟩)
  | (refine zah ?_; simp [c0, c3])
  | (refine zai ?_; simp [c0, c3])
  | (refine zaA ?_; simp [c0, c3])
  | (refine zar ?_; simp only [zao])
  | (refine CallP.fE (hit) (by first | rfl | fail) (by first | (simp [c0, c3]; done) | (simp [c0, c3]; rfl) | fail) ?_; (try simp [c0, c3]))
  | fail)
   (refine EndOK.val (.inr rfl) ?_; simp [zaL, zag, zas, Tryz.results113])
  ·rw [if_neg c3]
   by_cases c2 : u = 2
   ·rw [if_pos c2, zaV, zbd]
    (refine Fun.of_body Tryz.func113 rfl (by simp) fun Γ hn => ?_); simp only [entry, List.zipIdx_cons, List.zipIdx_nil, List.map_cons, List.map_nil, Nat.zero_add, Tryz.ntmps113]
    repeat' (first
  | (refine zaf ?_; simp [c0, c2, c3])
  | (refine zal ?_; simp [c0, c2, c3])
  | (refine ⟨by omega, ?_⟩)
  | (refine zah ?_; simp [c0, c2, c3])
  | (refine zai ?_; simp [c0, c2, c3])
  | (refine zaA ?_; simp [c0, c2, c3])
  | (refine zar ?_; simp only [zao])
  | (refine CallP.fE (hit) (by first | rfl | fail) (by first | (simp [c0, c2, c3]; done) | (simp [c0, c2, c3]; rfl) | fail) ?_; (try simp [c0, c2, c3]))
  | fail)
    (refine EndOK.val (.inr rfl) ?_; simp [zaL, zag, zas, Tryz.results113])
   ·rw [if_neg c2]
    by_cases c4 : u = 4
    ·rw [if_pos c4, zaV, zaV, zbd]
     (refine Fun.of_body Tryz.func113 rfl (by simp) fun Γ hn => ?_); simp only [entry, List.zipIdx_cons, List.zipIdx_nil, List.map_cons, List.map_nil, Nat.zero_add, Tryz.ntmps113]
     repeat' (first
  | (refine zaf ?_; simp [c0, c2, c3, c4])
  | (refine zal ?_; simp [c0, c2, c3, c4])
  | (refine ⟨by omega, ?_⟩)
  | (refine zah ?_; simp [c0, c2, c3, c4])
  | (refine zai ?_; simp [c0, c2, c3, c4])
  | (refine zaA ?_; simp [c0, c2, c3, c4])
  | (refine zar ?_; simp only [zao])
  | (refine CallP.fE (hit) (by first | rfl | fail) (by first | (simp [c0, c2, c3, c4]; done) | (simp [c0, c2, c3, c4]; rfl) | fail) ?_; (try simp [c0, c2, c3, c4]))
  | fail)
     (refine EndOK.val (.inr rfl) ?_; simp [zaL, zag, zas, Tryz.results113])
    ·rw [if_neg c4, zbd]
     (refine Fun.of_body Tryz.func113 rfl (by simp) fun Γ hn => ?_); simp only [entry, List.zipIdx_cons, List.zipIdx_nil, List.map_cons, List.map_nil, Nat.zero_add, Tryz.ntmps113]
     repeat' (first
  | (refine zaf ?_; simp [c0, c2, c3, c4])
  | (refine zal ?_; simp [c0, c2, c3, c4])
  | (refine zah ?_; simp [c0, c2, c3, c4])
  | (refine zai ?_; simp [c0, c2, c3, c4])
  | (refine zaA ?_; simp [c0, c2, c3, c4])
  | (refine zar ?_; simp only [zao])
  | (refine zap ?_; simp only [zao])
  | (refine CallP.fE (hit) (by first | rfl | fail) (by first | (simp [c0, c2, c3, c4]; done) | (simp [c0, c2, c3, c4]; rfl) | fail) ?_; (try simp [c0, c2, c3, c4]))
  | fail)
     (refine EndOK.val (.inr rfl) ?_; simp [zaL, zag, zas, Tryz.results113])
theorem zlv (s : W8) : Fun Tryz.prog 61 [.u (.str s)] (· = if 2000 < s.length then .tup [.u (.str []), .u (.int .i64 6)] else .tup [.u (.str s), .u (.int .i64 0)]) := by
 by_cases h1 : 2000 < s.length
 ·have h2 : (2000 : Int) < s.length := by omega
  rw [if_pos h1]
  (refine Fun.of_body Tryz.func61 rfl (by simp) fun Γ hn => ?_); simp only [entry, List.zipIdx_cons, List.zipIdx_nil, List.map_cons, List.map_nil, Nat.zero_add, Tryz.ntmps61]
  repeat' (first
  | (refine zaf ?_; simp [h2])
  | (refine zal ?_; simp [h2])
  | (refine zah ?_; simp [h2])
  | (refine zai ?_; simp [h2])
  | (refine zar ?_; simp only [zao])
  | fail)
  (refine EndOK.val (.inr rfl) ?_; simp [zaL, zag, zas, Tryz.results61])
 ·have h2 : ¬ (2000 : Int) < s.length := by omega
  rw [if_neg h1]
  (refine Fun.of_body Tryz.func61 rfl (by simp) fun Γ hn => ?_); simp only [entry, List.zipIdx_cons, List.zipIdx_nil, List.map_cons, List.map_nil, Nat.zero_add, Tryz.ntmps61]
  repeat' (first
  | (refine zaf ?_; simp [h2])
  | (refine zal ?_; simp [h2])
  | (refine zah ?_; simp [h2])
  | (refine zai ?_; simp [h2])
  | (refine zar ?_; simp only [zao])
  | (refine zap ?_; simp only [zao])
  | fail)
  (refine EndOK.val (.inr rfl) ?_; simp [zaL, zag, zas, Tryz.results61])
abbrev zlK (e : Exp) : Prop := ∀ least : Int, Fun Tryz.prog 59 [.u (.agg e.row), .u (.int .i64 least)] (· = .u (.str (txt e least)))
theorem zdX (op n u : Int) (s : W8) (args : List Exp) (i : Nat) (a : Exp) (least : Int) (ha : args[i]? = some a) (h : zlK a) :
  Fun Tryz.prog 112 [.u (.int .i64 i), .u (.int .i64 least), .u (.row [.int .i64 op, .int .i64 n, .int .i64 u, .str s, .sl (args.map Exp.row)] 0)] (· = .u (.str (txt a least))) := by
 have hs := h least
 rw [Exp.row_eq] at hs
 generalize txt a least = T at *
 have hi := (List.getElem?_eq_some_iff.1 ha).1
 (refine Fun.of_body Tryz.func112 rfl (by simp) fun Γ hn => ?_); simp only [entry, List.zipIdx_cons, List.zipIdx_nil, List.map_cons, List.map_nil, Nat.zero_add, Tryz.ntmps112]
 have hlt : (i : Int) < args.length := by omega
 repeat' (first
  | (refine zaf ?_; simp [ha, hlt, Exp.row_eq])
  | (refine zal ?_; simp [ha, hlt, Exp.row_eq])
  | (refine zah ?_; simp [ha, hlt, Exp.row_eq])
  | (refine zar ?_; simp only [zao])
  | (refine CallP.fE (hs) (by first | rfl | fail) (by first | (simp [ha, hlt, Exp.row_eq]; done) | (simp [ha, hlt, Exp.row_eq]; rfl) | fail) ?_; (try simp [ha, hlt, Exp.row_eq]))
  | fail)
 (refine EndOK.val (.inr rfl) ?_; simp [zaL, zag, zas, Tryz.results112])
theorem zoN (o : Opr) (op n u : Int) (s : W8) (g : U) : Fun Tryz.prog 114 (zqL o :: [U.row [.int .i64 op, .int .i64 n, .int .i64 u, .str s, g] 0].map .u) (· = .u (.bool (decide (o.op = op)))) := by
 simp only [List.map_cons, List.map_nil, zqL]
 (refine Fun.of_body Tryz.func114 rfl (by simp) fun Γ hn => ?_); simp only [entry, List.zipIdx_cons, List.zipIdx_nil, List.map_cons, List.map_nil, Nat.zero_add, Tryz.ntmps114]
 repeat' (first
  | (refine zaf ?_; simp)
  | (refine zal ?_; simp)
  | (refine zah ?_; simp)
  | (refine zar ?_; simp only [zao])
  | fail)
 (refine EndOK.val (.inr rfl) ?_; simp [zaL, zag, zas, Tryz.results114])
theorem zoO (op n u : Int) (s : W8) (g : U) : Fun Tryz.prog 96 [.u (zl4 oprs), .fnc (.func 114) [.u (.row [.int .i64 op, .int .i64 n, .int .i64 u, .str s, g] 0)]]
  (· = .u (.int .i64 (zhB (fun o => decide (o.op = op)) oprs 0))) :=
 zh0 oprs 114 [U.row [.int .i64 op, .int .i64 n, .int .i64 u, .str s, g] 0] (fun o => decide (o.op = op)) (fun o _ => zoN o op n u s g) rfl (fun o => rfl)
/-- Ahead of the parentheses. -/
theorem zm1 {d : Nat} {e : Exp} (he : zaE d e = true) (hd : d ≤ 12) (h0 : Fun Tryz.prog 59 [.u (.agg e.row), .u (.int .i64 0)] (· = .u (.str (txt e 0)))) {least : Int} (hl : zcb e.op < least) (h00 : ¬ zcb e.op < 0) :
  Fun Tryz.prog 59 [.u (.agg e.row), .u (.int .i64 least)] (· = .u (.str (txt e least))) := by
 have hf := zlu e
 have hlen := zcD he hd 0
 rw [zgt he hl]
 rw [zdc h00] at h0 hlen
 rw [Exp.row_eq] at *
 generalize zbC (za3 e) = T at *
 generalize zcb e.op = F at *
 have hT : T.length ≤ 9223372036854775000 := by omega
 (refine Fun.of_body Tryz.func59 rfl (by simp) fun Γ hn => ?_); simp only [entry, List.zipIdx_cons, List.zipIdx_nil, List.map_cons, List.map_nil, Nat.zero_add, Tryz.ntmps59]
 repeat' (first
  | (refine zaf ?_; simp [hl])
  | (refine zal ?_; simp [hl])
  | (refine ⟨by omega, ?_⟩)
  | (refine zah ?_; simp [hl])
  | (refine zai ?_; simp [hl])
  | (refine zar ?_; simp only [zao])
  | (refine CallP.fE (hf) (by first | rfl | fail) (by first | (simp [hl]; done) | (simp [hl]; rfl) | fail) ?_; (try simp [hl]))
  | (refine CallP.fE (h0) (by first | rfl | fail) (by first | (simp [hl]; done) | (simp [hl]; rfl) | fail) ?_; (try simp [hl]))
  | fail)
 (refine EndOK.val (.inr rfl) ?_; simp [zaL, zag, zas, Tryz.results59])
theorem zi9 : ∀ (d : Nat), d ≤ 12 → ∀ e : Exp, zaE d e = true → ∀ least : Int, ¬ zcb e.op < least → (∀ x ∈ e.args, zaE (d - 1) x = true → zlK x) →
  Fun Tryz.prog 59 [.u (.agg e.row), .u (.int .i64 least)] (· = .u (.str (zbC (za3 e))))
 | 0, _, e, h, _, _, _ => by rw [zaE] at h; cases h
 | d + 1, hd, .mk op n u s args, h, least, hl, ih => by
  have hf := zlu (.mk op n u s args)
  simp only [Exp.op] at hl hf
  rw [Exp.row] at hf ⊢
  rcases zcl h with ⟨rfl, rfl, rfl, hn⟩ | ⟨rfl, rfl, rfl, rfl, hn⟩ | ⟨rfl, rfl, rfl, ha, ⟨rfl, hl3⟩ | ⟨rfl, hl3⟩ | ⟨g0, g1, g12, g13, g2, g3, hl3⟩⟩
  ·have h1 := zma n u hn
   rw [za3, zcV, if_pos rfl]
   rw [Exp.row] at h1
   simp only [List.map_nil] at *
   generalize zbC (zdv n u) = T at *
   (refine Fun.of_body Tryz.func59 rfl (by simp) fun Γ hn => ?_); simp only [entry, List.zipIdx_cons, List.zipIdx_nil, List.map_cons, List.map_nil, Nat.zero_add, Tryz.ntmps59]
   repeat' (first
  | (refine zaf ?_; simp [hl])
  | (refine zal ?_; simp [hl])
  | (refine zah ?_; simp [hl])
  | (refine zai ?_; simp [hl])
  | (refine zaA ?_; simp [hl])
  | (refine zar ?_; simp only [zao])
  | (refine zap ?_; simp only [zao])
  | (refine CallP.fE (hf) (by first | rfl | fail) (by first | (simp [hl]; done) | (simp [hl]; rfl) | fail) ?_; (try simp [hl]))
  | (refine CallP.fE (h1) (by first | rfl | fail) (by first | (simp [hl]; done) | (simp [hl]; rfl) | fail) ?_; (try simp [hl]))
  | fail)
   (refine EndOK.val (.inr rfl) ?_; simp [zaL, zag, zas, Tryz.results59])
  ·rw [za3, zcV, if_neg (by decide), if_pos rfl, zbd]
   simp only [List.map_nil] at *
   (refine Fun.of_body Tryz.func59 rfl (by simp) fun Γ hn => ?_); simp only [entry, List.zipIdx_cons, List.zipIdx_nil, List.map_cons, List.map_nil, Nat.zero_add, Tryz.ntmps59]
   repeat' (first
  | (refine zaf ?_; simp [hl])
  | (refine zal ?_; simp [hl])
  | (refine zah ?_; simp [hl])
  | (refine zai ?_; simp [hl])
  | (refine zaA ?_; simp [hl])
  | (refine zar ?_; simp only [zao])
  | (refine zap ?_; simp only [zao])
  | (refine CallP.fE (hf) (by first | rfl | fail) (by first | (simp [hl]; done) | (simp [hl]; rfl) | fail) ?_; (try simp [hl]))
  | fail)
   (refine EndOK.val (.inr rfl) ?_; simp [zaL, zag, zas, Tryz.results59])
  ·obtain ⟨a, rfl⟩ := zkM hl3
   have h1 := ha a (by simp)
   have hb := zcD h1 (by omega) 3
   have k1 := zdX 12 0 0 [] [a] 0 a 3 rfl (ih a (by simp [Exp.args]) h1)
   rw [zlk h1]
   simp only [List.map_cons, List.map_nil] at *
   generalize txt a 3 = T at *
   have hT : T.length ≤ 9223372036854775000 := by omega
   (refine Fun.of_body Tryz.func59 rfl (by simp) fun Γ hn => ?_); simp only [entry, List.zipIdx_cons, List.zipIdx_nil, List.map_cons, List.map_nil, Nat.zero_add, Tryz.ntmps59]
   repeat' (first
  | (refine zaf ?_; simp [hl])
  | (refine zal ?_; simp [hl])
  | (refine ⟨by omega, ?_⟩)
  | (refine zah ?_; simp [hl])
  | (refine zai ?_; simp [hl])
  | (refine zaA ?_; simp [hl])
  | (refine zar ?_; simp only [zao])
  | (refine zap ?_; simp only [zao])
  | (refine CallP.fE (hf) (by first | rfl | fail) (by first | (simp [hl]; done) | (simp [hl]; rfl) | fail) ?_; (try simp [hl]))
  | (refine CallP.fE (k1) (by first | rfl | fail) (by first | (simp [hl]; done) | (simp [hl]; rfl) | fail) ?_; (try simp [hl]))
  | fail)
   (refine EndOK.val (.inr rfl) ?_; simp [zaL, zag, zas, Tryz.results59])
  ·obtain ⟨a, b, c, rfl⟩ := zkK hl3
   have h1 := ha a (by simp)
   have h2 := ha b (by simp)
   have h3 := ha c (by simp)
   have hb1 := zcD h1 (by omega) 0
   have hb2 := zcD h2 (by omega) 0
   have hb3 := zcD h3 (by omega) 0
   have k1 := zdX 13 0 0 [] [a, b, c] 0 a 0 rfl (ih a (by simp [Exp.args]) h1)
   have k2 := zdX 13 0 0 [] [a, b, c] 1 b 0 rfl (ih b (by simp [Exp.args]) h2)
   have k3 := zdX 13 0 0 [] [a, b, c] 2 c 0 rfl (ih c (by simp [Exp.args]) h3)
   rw [znP h1 h2 h3]
   simp only [List.map_cons, List.map_nil] at *
   generalize txt a 0 = T1 at *
   generalize txt b 0 = T2 at *
   generalize txt c 0 = T3 at *
   (refine Fun.of_body Tryz.func59 rfl (by simp) fun Γ hn => ?_); simp only [entry, List.zipIdx_cons, List.zipIdx_nil, List.map_cons, List.map_nil, Nat.zero_add, Tryz.ntmps59]
   repeat' (first
  | (refine zaf ?_; simp [hl])
  | (refine zal ?_; simp [hl])
  | (refine ⟨by omega, ?_⟩)
  | (refine zah ?_; simp [hl])
  | (refine zai ?_; simp [hl])
  | (refine zaA ?_; simp [hl])
  | (refine zar ?_; simp only [zao])
  | (refine zap ?_; simp only [zao])
  | (refine CallP.fE (hf) (by first | rfl | fail) (by first | (simp [hl]; done) | (simp [hl]; rfl) | fail) ?_; (try simp [hl]))
  | (refine CallP.fE (k1) (by first | rfl | fail) (by first | (simp [hl]; done) | (simp [hl]; rfl) | fail) ?_; (try simp [hl]))
  | (refine CallP.fE (k2) (by first | rfl | fail) (by first | (simp [hl]; done) | (simp [hl]; rfl) | fail) ?_; (try simp [hl]))
  | (refine CallP.fE (k3) (by first | rfl | fail) (by first | (simp [hl]; done) | (simp [hl]; rfl) | fail) ?_; (try simp [hl]))
  | fail)
   (refine EndOK.val (.inr rfl) ?_; simp [zaL, zag, zas, Tryz.results59])
  ·obtain ⟨a, b, rfl⟩ := zkL hl3
   have h1 := ha a (by simp)
   have h2 := ha b (by simp)
   have ia := ih a (by simp [Exp.args]) h1
   have ib := ih b (by simp [Exp.args]) h2
   by_cases h6 : op = 6
   ·subst h6
    have hb1 := zcD h1 (by omega) 0
    have hb2 := zcD h2 (by omega) 0
    have k1 := zdX 6 0 0 [] [a, b] 0 a 0 rfl ia
    have k2 := zdX 6 0 0 [] [a, b] 1 b 0 rfl ib
    rw [zll h1 h2]
    simp only [List.map_cons, List.map_nil] at *
    generalize txt a 0 = T1 at *
    generalize txt b 0 = T2 at *
    (refine Fun.of_body Tryz.func59 rfl (by simp) fun Γ hn => ?_); simp only [entry, List.zipIdx_cons, List.zipIdx_nil, List.map_cons, List.map_nil, Nat.zero_add, Tryz.ntmps59]
    repeat' (first
  | (refine zaf ?_; simp [hl])
  | (refine zal ?_; simp [hl])
  | (refine ⟨by omega, ?_⟩)
  | (refine zah ?_; simp [hl])
  | (refine zai ?_; simp [hl])
  | (refine zaA ?_; simp [hl])
  | (refine zar ?_; simp only [zao])
  | (refine zap ?_; simp only [zao])
  | (refine CallP.fE (hf) (by first | rfl | fail) (by first | (simp [hl]; done) | (simp [hl]; rfl) | fail) ?_; (try simp [hl]))
  | (refine CallP.fE (k1) (by first | rfl | fail) (by first | (simp [hl]; done) | (simp [hl]; rfl) | fail) ?_; (try simp [hl]))
  | (refine CallP.fE (k2) (by first | rfl | fail) (by first | (simp [hl]; done) | (simp [hl]; rfl) | fail) ?_; (try simp [hl]))
  | fail)
    (refine EndOK.val (.inr rfl) ?_; simp [zaL, zag, zas, Tryz.results59])
   ·by_cases h7 : op = 7
    ·subst h7
     have hb1 := zcD h1 (by omega) 0
     have hb2 := zcD h2 (by omega) 0
     have k1 := zdX 7 0 0 [] [a, b] 0 a 0 rfl ia
     have k2 := zdX 7 0 0 [] [a, b] 1 b 0 rfl ib
     rw [zlm h1 h2]
     simp only [List.map_cons, List.map_nil] at *
     generalize txt a 0 = T1 at *
     generalize txt b 0 = T2 at *
     (refine Fun.of_body Tryz.func59 rfl (by simp) fun Γ hn => ?_); simp only [entry, List.zipIdx_cons, List.zipIdx_nil, List.map_cons, List.map_nil, Nat.zero_add, Tryz.ntmps59]
     repeat' (first
  | (refine zaf ?_; simp [hl])
  | (refine zal ?_; simp [hl])
  | (refine ⟨by omega, ?_⟩)
  | (refine zah ?_; simp [hl])
  | (refine zai ?_; simp [hl])
  | (refine zaA ?_; simp [hl])
  | (refine zar ?_; simp only [zao])
  | (refine zap ?_; simp only [zao])
  | (refine CallP.fE (hf) (by first | rfl | fail) (by first | (simp [hl]; done) | (simp [hl]; rfl) | fail) ?_; (try simp [hl]))
  | (refine CallP.fE (k1) (by first | rfl | fail) (by first | (simp [hl]; done) | (simp [hl]; rfl) | fail) ?_; (try simp [hl]))
  | (refine CallP.fE (k2) (by first | rfl | fail) (by first | (simp [hl]; done) | (simp [hl]; rfl) | fail) ?_; (try simp [hl]))
  | fail)
     (refine EndOK.val (.inr rfl) ?_; simp [zaL, zag, zas, Tryz.results59])
    ·obtain ⟨o, ho, rfl⟩ := zgX (by omega) (by omega) h6 h7
     have hop := zeg
     have hfd : oprs.find? (fun x => decide (x.op = o.op)) = some o := by
      simp only [oprs, List.mem_cons, List.mem_nil_iff, or_false] at ho
      rcases ho with rfl | rfl | rfl | rfl | rfl | rfl | rfl | rfl <;> rfl
     obtain ⟨j, hj1, hj2⟩ := (zft oprs 0).2 o hfd
     have hix := zoO o.op 0 0 [] (.sl ([a, b].map Exp.row))
     rw [hj2] at hix
     have hj0 : ¬ ((j : Int) < 0) := by omega
     have hjl : j < 8 := (List.getElem?_eq_some_iff.1 hj1).1
     rw [show (0 : Int) + j = (j : Int) by omega] at hix
     have hfm : 0 ≤ o.form ∧ o.form ≤ 6 := by
      simp only [oprs, List.mem_cons, List.mem_nil_iff, or_false] at ho
      rcases ho with rfl | rfl | rfl | rfl | rfl | rfl | rfl | rfl <;> decide
     obtain ⟨hf0, hf6⟩ := hfm
     have hot := zng ho
     have hb1 := zcD h1 (by omega) (if o.form = 4 then 5 else o.form)
     have hb2 := zcD h2 (by omega) (o.form + 1)
     have k1 := zdX o.op 0 0 [] [a, b] 0 a (if o.form = 4 then 5 else o.form) rfl ia
     have k2 := zdX o.op 0 0 [] [a, b] 1 b (o.form + 1) rfl ib
     rw [zeQ ho h1 h2]
     simp only [List.map_cons, List.map_nil] at *
     clear hfd hj2 ho
     generalize hL : oprs = L at hop hix hj1
     by_cases c4 : o.form = 4
     ·have e1 : o.form + 1 = 5 := by omega
      rw [if_pos c4] at k1 hb1 ⊢
      rw [e1] at k2 hb2 ⊢
      generalize txt a 5 = T1 at *
      generalize txt b 5 = T2 at *
      (refine Fun.of_body Tryz.func59 rfl (by simp) fun Γ hn => ?_); simp only [entry, List.zipIdx_cons, List.zipIdx_nil, List.map_cons, List.map_nil, Nat.zero_add, Tryz.ntmps59]
      repeat' (first
  | (refine zaf ?_; simp [hl, g0, g1, g12, g13, h6, h7, hj0, hj1, c4])
  | (refine zbt rfl ?_; simp [hl, g0, g1, g12, g13, h6, h7, hj0, hj1, c4])
  | (refine zal ?_; simp [hl, g0, g1, g12, g13, h6, h7, hj0, hj1, c4])
  | (refine ⟨by omega, ?_⟩)
  | (refine zah ?_; simp [hl, g0, g1, g12, g13, h6, h7, hj0, hj1, c4])
  | (refine zai ?_; simp [hl, g0, g1, g12, g13, h6, h7, hj0, hj1, c4])
  | (refine zbQ (hC _ (by kernel_rfl)) (hk _ ?_); clear hC hk C k; simp only [zao])
  | (refine zb6 rfl (by kernel_rfl) (by first | (simp [hn]; done) | (simp [hn]; omega) | fail) fun C k hC hk => ?_; simp [hl, g0, g1, g12, g13, h6, h7, hj0, hj1, c4])
  | (refine zaA ?_; simp [hl, g0, g1, g12, g13, h6, h7, hj0, hj1, c4])
  | (refine zaC ?_; simp [hl, g0, g1, g12, g13, h6, h7, hj0, hj1, c4])
  | (refine zar ?_; simp only [zao])
  | (refine zap ?_; simp only [zao])
  | (refine CallP.fE (hf) (by first | rfl | fail) (by first | (simp [hl, g0, g1, g12, g13, h6, h7, hj0, hj1, c4]; done) | (simp [hl, g0, g1, g12, g13, h6, h7, hj0, hj1, c4]; rfl) | fail) ?_; (try simp [hl, g0, g1, g12, g13, h6, h7, hj0, hj1, c4]))
  | (refine CallP.fE (hop) (by first | rfl | fail) (by first | (simp [hl, g0, g1, g12, g13, h6, h7, hj0, hj1, c4]; done) | (simp [hl, g0, g1, g12, g13, h6, h7, hj0, hj1, c4]; rfl) | fail) ?_; (try simp [hl, g0, g1, g12, g13, h6, h7, hj0, hj1, c4]))
  | (refine CallP.fE (hix) (by first | rfl | fail) (by first | (simp [hl, g0, g1, g12, g13, h6, h7, hj0, hj1, c4]; done) | (simp [hl, g0, g1, g12, g13, h6, h7, hj0, hj1, c4]; rfl) | fail) ?_; (try simp [hl, g0, g1, g12, g13, h6, h7, hj0, hj1, c4]))
  | (refine CallV.fun_ (k1) (by first | rfl | fail) (by first | (simp [hl, g0, g1, g12, g13, h6, h7, hj0, hj1, c4]; done) | (simp [hl, g0, g1, g12, g13, h6, h7, hj0, hj1, c4]; rfl) | fail) ?_ <;> (try simp [hl, g0, g1, g12, g13, h6, h7, hj0, hj1, c4]))
  | (refine CallV.fun_ (k2) (by first | rfl | fail) (by first | (simp [hl, g0, g1, g12, g13, h6, h7, hj0, hj1, c4]; done) | (simp [hl, g0, g1, g12, g13, h6, h7, hj0, hj1, c4]; rfl) | fail) ?_ <;> (try simp [hl, g0, g1, g12, g13, h6, h7, hj0, hj1, c4]))
  | fail)
      (refine EndOK.val (.inr rfl) ?_; simp [zaL, zag, zas, Tryz.results59])
     ·rw [if_neg c4] at k1 hb1 ⊢
      generalize txt a o.form = T1 at *
      generalize txt b (o.form + 1) = T2 at *
      (refine Fun.of_body Tryz.func59 rfl (by simp) fun Γ hn => ?_); simp only [entry, List.zipIdx_cons, List.zipIdx_nil, List.map_cons, List.map_nil, Nat.zero_add, Tryz.ntmps59]
      repeat' (first
  | (refine zaf ?_; simp [hl, g0, g1, g12, g13, h6, h7, hj0, hj1, c4])
  | (refine zbt rfl ?_; simp [hl, g0, g1, g12, g13, h6, h7, hj0, hj1, c4])
  | (refine zal ?_; simp [hl, g0, g1, g12, g13, h6, h7, hj0, hj1, c4])
  | (refine ⟨by omega, ?_⟩)
  | (refine zah ?_; simp [hl, g0, g1, g12, g13, h6, h7, hj0, hj1, c4])
  | (refine zai ?_; simp [hl, g0, g1, g12, g13, h6, h7, hj0, hj1, c4])
  | (refine zbQ (hC _ (by kernel_rfl)) (hk _ ?_); clear hC hk C k; simp only [zao])
  | (refine zb6 rfl (by kernel_rfl) (by first | (simp [hn]; done) | (simp [hn]; omega) | fail) fun C k hC hk => ?_; simp [hl, g0, g1, g12, g13, h6, h7, hj0, hj1, c4])
  | (refine zaA ?_; simp [hl, g0, g1, g12, g13, h6, h7, hj0, hj1, c4])
  | (refine zar ?_; simp only [zao])
  | (refine zap ?_; simp only [zao])
  | (refine CallP.fE (hf) (by first | rfl | fail) (by first | (simp [hl, g0, g1, g12, g13, h6, h7, hj0, hj1, c4]; done) | (simp [hl, g0, g1, g12, g13, h6, h7, hj0, hj1, c4]; rfl) | fail) ?_; (try simp [hl, g0, g1, g12, g13, h6, h7, hj0, hj1, c4]))
  | (refine CallP.fE (hop) (by first | rfl | fail) (by first | (simp [hl, g0, g1, g12, g13, h6, h7, hj0, hj1, c4]; done) | (simp [hl, g0, g1, g12, g13, h6, h7, hj0, hj1, c4]; rfl) | fail) ?_; (try simp [hl, g0, g1, g12, g13, h6, h7, hj0, hj1, c4]))
  | (refine CallP.fE (hix) (by first | rfl | fail) (by first | (simp [hl, g0, g1, g12, g13, h6, h7, hj0, hj1, c4]; done) | (simp [hl, g0, g1, g12, g13, h6, h7, hj0, hj1, c4]; rfl) | fail) ?_; (try simp [hl, g0, g1, g12, g13, h6, h7, hj0, hj1, c4]))
  | (refine CallV.fun_ (k1) (by first | rfl | fail) (by first | (simp [hl, g0, g1, g12, g13, h6, h7, hj0, hj1, c4]; done) | (simp [hl, g0, g1, g12, g13, h6, h7, hj0, hj1, c4]; rfl) | fail) ?_ <;> (try simp [hl, g0, g1, g12, g13, h6, h7, hj0, hj1, c4]))
  | (refine CallV.fun_ (k2) (by first | rfl | fail) (by first | (simp [hl, g0, g1, g12, g13, h6, h7, hj0, hj1, c4]; done) | (simp [hl, g0, g1, g12, g13, h6, h7, hj0, hj1, c4]; rfl) | fail) ?_ <;> (try simp [hl, g0, g1, g12, g13, h6, h7, hj0, hj1, c4]))
  | fail)
      (refine EndOK.val (.inr rfl) ?_; simp [zaL, zag, zas, Tryz.results59])
theorem zgu : ∀ (d : Nat), d ≤ 12 → ∀ e : Exp, zaE d e = true → zlK e
 | 0, _, e, h => by rw [zaE] at h; cases h
 | d + 1, hd, e, h => fun least => by
  have ih : ∀ x ∈ e.args, zaE (d + 1 - 1) x = true → zlK x := fun x _ hx => zgu d (by omega) x hx
  have h00 : ¬ zcb e.op < 0 := by
   unfold zcb
   split
   ·omega
   ·split
    ·omega
    ·split
     ·rename_i o ho
      have := List.mem_of_find?_eq_some ho
      simp only [oprs, List.mem_cons, List.mem_nil_iff, or_false] at this
      rcases this with rfl | rfl | rfl | rfl | rfl | rfl | rfl | rfl <;> decide
     ·omega
  have h0 := zi9 (d + 1) hd e h 0 h00 ih
  by_cases hl : zcb e.op < least
  ·exact zm1 h hd (by rw [zdc h00]; exact h0) hl h00
  ·have := zi9 (d + 1) hd e h least hl ih
   rwa [← zdc hl] at this
/-- What PrintExp returns. -/
def zjj (e : Exp) : W8 × Int := if zaE 12 e = true then (if 2000 < (txt e 0).length then ([], 6) else (txt e 0, 0)) else ([], 1)
theorem zjk (e : Exp) : Fun Tryz.prog 21 [.u (.agg e.row)] (· = .tup [.u (.str (zjj e).1), .u (.int .i64 (zjj e).2)]) := by
 have h1 : Fun Tryz.prog 25 [.u (.agg e.row)] (· = .u (.bool (zaE 12 e))) := by rw [Exp.row_eq]; exact zdO e
 unfold zjj
 cases hr : zaE 12 e with
 | false =>
  rw [hr] at h1
  rw [if_neg (by simp)]
  rw [Exp.row_eq] at *
  (refine Fun.of_body Tryz.func21 rfl (by simp) fun Γ hn => ?_); simp only [entry, List.zipIdx_cons, List.zipIdx_nil, List.map_cons, List.map_nil, Nat.zero_add, Tryz.ntmps21]
  repeat' (first
  | (refine zaf ?_; simp)
  | (refine zal ?_; simp)
  | (refine zah ?_; simp)
  | (refine zai ?_; simp)
  | (refine zar ?_; simp only [zao])
  | (refine CallP.fE (h1) (by first | rfl | fail) (by first | (simp; done) | (simp; rfl) | fail) ?_; (try simp))
  | fail)
  (refine EndOK.val (.inr rfl) ?_; simp [zaL, zag, zas, Tryz.results21])
 | true =>
  have h2 := zgu 12 (Nat.le_refl _) e hr 0
  have h3 := zlv (txt e 0)
  rw [hr] at h1
  rw [if_pos rfl]
  rw [Exp.row_eq] at *
  generalize txt e 0 = T at *
  by_cases hl : 2000 < T.length
  ·rw [if_pos hl] at h3 ⊢
   (refine Fun.of_body Tryz.func21 rfl (by simp) fun Γ hn => ?_); simp only [entry, List.zipIdx_cons, List.zipIdx_nil, List.map_cons, List.map_nil, Nat.zero_add, Tryz.ntmps21]
   repeat' (first
  | (refine zaf ?_; simp)
  | (refine zal ?_; simp)
  | (refine zah ?_; simp)
  | (refine zai ?_; simp)
  | (refine zar ?_; simp only [zao])
  | (refine zap ?_; simp only [zao])
  | (refine CallP.fE (h1) (by first | rfl | fail) (by first | (simp; done) | (simp; rfl) | fail) ?_; (try simp))
  | (refine CallP.fE (h2) (by first | rfl | fail) (by first | (simp; done) | (simp; rfl) | fail) ?_; (try simp))
  | (refine CallP.fE (h3) (by first | rfl | fail) (by first | (simp; done) | (simp; rfl) | fail) ?_; (try simp))
  | fail)
   (refine EndOK.val (.inr rfl) ?_; simp [zaL, zag, zas, Tryz.results21])
  ·rw [if_neg hl] at h3 ⊢
   (refine Fun.of_body Tryz.func21 rfl (by simp) fun Γ hn => ?_); simp only [entry, List.zipIdx_cons, List.zipIdx_nil, List.map_cons, List.map_nil, Nat.zero_add, Tryz.ntmps21]
   repeat' (first
  | (refine zaf ?_; simp)
  | (refine zal ?_; simp)
  | (refine zah ?_; simp)
  | (refine zai ?_; simp)
  | (refine zar ?_; simp only [zao])
  | (refine zap ?_; simp only [zao])
  | (refine CallP.fE (h1) (by first | rfl | fail) (by first | (simp; done) | (simp; rfl) | fail) ?_; (try simp))
  | (refine CallP.fE (h2) (by first | rfl | fail) (by first | (simp; done) | (simp; rfl) | fail) ?_; (try simp))
  | (refine CallP.fE (h3) (by first | rfl | fail) (by first | (simp; done) | (simp; rfl) | fail) ?_; (try simp))
  | fail)
   (refine EndOK.val (.inr rfl) ?_; simp [zaL, zag, zas, Tryz.results21])
end Go.Proofs.YthnemhfamhnfjaaGreatDoor
namespace Go.Proofs.YthnemhfamhnfjaaGreatDoor
open Go Go.VL
noncomputable def eqB {α : Type} (a b : α) : Bool := @decide (a = b) (Classical.propDecidable _)
theorem zcg {α : Type} {a b : α} : eqB a b = true ↔ a = b := by unfold eqB; exact @decide_eq_true_iff _ (Classical.propDecidable _)
theorem ze6 {α : Type} (a : α) : eqB a a = true := zcg.2 rfl
theorem zd8 {α : Type} {a b : α} (h : a ≠ b) : eqB a b = false := by
 cases hb : eqB a b with
 | false => rfl
 | true => exact absurd (zcg.1 hb) h
attribute [local simp] HS zcR zb0 evPure opd uOf zaH St.put St.at getK binD binI binS binB nilD aggD zgp zhi lookD lookR zcm Go.VL.nextD zcq zhv zhu zfX zcs mkV zdb zbj zbr mapEff zd1 zfM Key.kk shiftI arith unD convD zdH loadD cellsAt fieldAddrD fieldD indexAddrD indexD sliceD cutD lenD minmaxD nilCheckD buildD fillD zbH zcW zes setAll zcE zeJ zch zgC zcd St.add zaM zbB rowsOf zdw zcA zak zac zaa zba zcz zaR entry zbo zbq valD zb5 zcu zgh zc8 zda zbO zbG zau za2 zbm delAll effD St.effS zcM za6 zaY zcN za7 za0 zbY zaZ zaS zbZ zcH zbv zbV zbi zbT zbU zaJ mkD zbI zbs zbF zau zcf D.ids Op.operands Call.operands zbx makeIfD makeFuncD typeAssertD zhh zds zdt zgK zcn IntKind.bits zcG List.take_of_length_le List.range_succ
attribute [local irreducible] V G H HD HD2 HD4 zkk RetX zao Eff CallP CallV EndOK Fun Ret FinOK LoopI LoopW EndW
abbrev zdu (a b : Exp) : Prop := Fun Tryz.prog 28 [.u (.agg a.row), .u (.agg b.row)] (· = .u (.bool (eqB a b)))
theorem zmD (A B : List Exp) (h : ∀ a ∈ A, ∀ b, zdu a b) : Fun Tryz.prog 73 [.u (.sl (A.map Exp.row)), .u (.sl (B.map Exp.row)), .fnc (.func 28) []] (· = .u (.bool (eqB A B))) := by
 by_cases hl : A.length = B.length
 ·have hl' : (A.length : Int) = B.length := by omega
  (refine Fun.of_body Tryz.func73 rfl (by simp) fun Γ hn => ?_); simp only [entry, List.zipIdx_cons, List.zipIdx_nil, List.map_cons, List.map_nil, Nat.zero_add, Tryz.ntmps73]
  refine ziV (x := 0) rfl fun hll => ?_
  simp at hll
  repeat' (first
  | (refine zaf ?_; simp [hl, hl'])
  | (refine zal ?_; simp [hl, hl'])
  | (refine zah ?_; simp [hl, hl'])
  | (refine zai ?_; simp [hl, hl'])
  | (refine zaA ?_; simp [hl, hl'])
  | (refine zap ?_; simp only [zao])
  | fail)
  refine zdY (α := { i : Nat // i ≤ A.length ∧ A.take i = B.take i }) [0, 1, 2, 6, 15, 16] (fun x => [(17, .u (.int .i64 x.1))]) (fun x => []) 0 (fun x => A.length - x.1) ⟨0, by omega, by simp⟩ ?_ ?_
  ·exact (Wk.cut rfl (by simp [hn, St.lp]) (by simp [wkO, St.lp, zaa, getK, Ob.under, D.under, zad, zae, hl]) (by simp [wkU, St.lp, zan, zaa, getK, D.under, hl]) (by simp [wkE, St.lp, zan, zaa, getK, hl] <;> (try (intros; simp_all; done)) <;> (try (intros; omega)) <;> (try grind)))
  rintro ⟨i, hi, hb⟩
  simp [St.lp, St.only, zan, zaa, getK]
  rcases hx : A[i]? with _ | a
  ·have hge : A.length ≤ i := by simpa using hx
   obtain rfl : i = A.length := by omega
   rw [List.take_of_length_le (Nat.le_refl _), List.take_of_length_le (by omega)] at hb
   subst hb
   rw [ze6]
   repeat' (first
  | (refine zaf ?_; simp [hx, hl])
  | (refine zal ?_; simp [hx, hl])
  | (refine zah ?_; simp [hx, hl])
  | (refine zar ?_; simp only [zao])
  | (refine zbR ?_; simp [zao])
  | fail)
   (refine EndOK.val (.inr rfl) ?_; simp [zaL, zag, zas, Tryz.results73])
  ·have hlt : i < A.length := (List.getElem?_eq_some_iff.1 hx).1
   have hlt2 : i < B.length := by omega
   obtain ⟨b, hy⟩ : ∃ b, B[i]? = some b := ⟨_, List.getElem?_eq_getElem hlt2⟩
   have hi2 : (i : Int) < B.length := by omega
   have h1 : zdu a b := h a (List.mem_of_getElem? hx) b
   unfold zdu at h1
   by_cases hab : a = b
   ·rw [zcg.2 hab] at h1
    rw [Exp.row_eq, Exp.row_eq] at h1
    repeat' (first
  | (refine zaf ?_; simp [hx, hy, hi2, Exp.row_eq])
  | (refine zal ?_; simp [hx, hy, hi2, Exp.row_eq])
  | (refine ⟨by omega, ?_⟩)
  | (refine zah ?_; simp [hx, hy, hi2, Exp.row_eq])
  | (refine zai ?_; simp [hx, hy, hi2, Exp.row_eq])
  | (refine zaC ?_; simp [hx, hy, hi2, Exp.row_eq])
  | (refine zap ?_; simp only [zao])
  | (refine CallP.fE (h1) (by first | rfl | fail) (by first | (simp [hx, hy, hi2, Exp.row_eq]; done) | (simp [hx, hy, hi2, Exp.row_eq]; rfl) | fail) ?_; (try simp [hx, hy, hi2, Exp.row_eq]))
  | fail)
    have hsn : A.take (i + 1) = B.take (i + 1) := by
     rw [List.take_succ_eq_append_getElem hlt, List.take_succ_eq_append_getElem hlt2, hb, (List.getElem?_eq_some_iff.1 hx).2, (List.getElem?_eq_some_iff.1 hy).2, hab]
    refine LoopW.next ⟨i + 1, by omega, hsn⟩ (by simp; omega) ?_
    exact (Wk.cut rfl (by simp [hn, St.lp]) (by simp [wkO, St.lp, zaa, getK, Ob.under, D.under, zad, zae, hl]) (by simp [wkU, St.lp, zan, zaa, getK, D.under, hl]) (by simp [wkE, St.lp, zan, zaa, getK, hl] <;> (try (intros; simp_all; done)) <;> (try (intros; omega)) <;> (try grind)))
   ·rw [zd8 hab] at h1
    rw [Exp.row_eq, Exp.row_eq] at h1
    have hne : A ≠ B := fun e => by subst e; rw [hx] at hy; cases hy; exact hab rfl
    rw [zd8 hne]
    repeat' (first
  | (refine zaf ?_; simp [hx, hy, hi2, Exp.row_eq])
  | (refine zal ?_; simp [hx, hy, hi2, Exp.row_eq])
  | (refine zah ?_; simp [hx, hy, hi2, Exp.row_eq])
  | (refine zai ?_; simp [hx, hy, hi2, Exp.row_eq])
  | (refine zar ?_; simp only [zao])
  | (refine zap ?_; simp only [zao])
  | (refine CallP.fE (h1) (by first | rfl | fail) (by first | (simp [hx, hy, hi2, Exp.row_eq]; done) | (simp [hx, hy, hi2, Exp.row_eq]; rfl) | fail) ?_; (try simp [hx, hy, hi2, Exp.row_eq]))
  | fail)
    (refine EndOK.val (.inr rfl) ?_; simp [zaL, zag, zas, Tryz.results73])
 ·have hl' : ¬ (A.length : Int) = B.length := by omega
  rw [zd8 (fun e => hl (by rw [e]))]
  (refine Fun.of_body Tryz.func73 rfl (by simp) fun Γ hn => ?_); simp only [entry, List.zipIdx_cons, List.zipIdx_nil, List.map_cons, List.map_nil, Nat.zero_add, Tryz.ntmps73]
  repeat' (first
  | (refine zaf ?_; simp [hl, hl'])
  | (refine zal ?_; simp [hl, hl'])
  | (refine zah ?_; simp [hl, hl'])
  | (refine zai ?_; simp [hl, hl'])
  | (refine zar ?_; simp only [zao])
  | fail)
  (refine EndOK.val (.inr rfl) ?_; simp [zaL, zag, zas, Tryz.results73])
theorem zoE : ∀ (n : Nat) (a b : Exp), SizeOf.sizeOf a ≤ n → zdu a b := by
 intro n
 induction n with
 | zero =>
  intro a b h
  cases a with
  | mk op n u s args => simp only [Exp.mk.sizeOf_spec] at h; omega
 | succ n ih =>
  intro a b hs
  have h1 := zmD a.args b.args (fun x hx y => ih x y (by have := Exp.zfb hx; omega))
  unfold zdu
  have key : ∀ B : Bool, (B = true ↔ a = b) → eqB a b = B := fun B h => by
   cases B with
   | true => exact zcg.2 (h.1 rfl)
   | false => exact zd8 fun e => by have := h.2 e; cases this
  have hmk : a = b ↔ a.op = b.op ∧ a.n = b.n ∧ a.unit = b.unit ∧ a.s = b.s ∧ a.args = b.args := by
   cases a; cases b
   simp only [Exp.op, Exp.n, Exp.unit, Exp.s, Exp.args, Exp.mk.injEq]
  rw [Exp.row_eq, Exp.row_eq b]
  by_cases c1 : a.op = b.op
  ·by_cases c2 : a.n = b.n
   ·by_cases c3 : a.unit = b.unit
    ·by_cases c4 : a.s = b.s
     ·rw [key (eqB a.args b.args) (by rw [zcg, hmk]; exact ⟨fun h => ⟨c1, c2, c3, c4, h⟩, fun h => h.2.2.2.2⟩)]
      (refine Fun.of_body Tryz.func28 rfl (by simp) fun Γ hn => ?_); simp only [entry, List.zipIdx_cons, List.zipIdx_nil, List.map_cons, List.map_nil, Nat.zero_add, Tryz.ntmps28]
      repeat' (first
  | (refine zaf ?_; simp [c1, c2, c3, c4])
  | (refine zal ?_; simp [c1, c2, c3, c4])
  | (refine zah ?_; simp [c1, c2, c3, c4])
  | (refine zar ?_; simp only [zao])
  | (refine CallP.fE (h1) (by first | rfl | fail) (by first | (simp [c1, c2, c3, c4]; done) | (simp [c1, c2, c3, c4]; rfl) | fail) ?_; (try simp [c1, c2, c3, c4]))
  | fail)
      (refine EndOK.val (.inr rfl) ?_; simp [zaL, zag, zas, Tryz.results28])
     ·rw [key false (by rw [hmk]; simp [c4])]
      (refine Fun.of_body Tryz.func28 rfl (by simp) fun Γ hn => ?_); simp only [entry, List.zipIdx_cons, List.zipIdx_nil, List.map_cons, List.map_nil, Nat.zero_add, Tryz.ntmps28]
      repeat' (first
  | (refine zaf ?_; simp [c1, c2, c3, c4])
  | (refine zal ?_; simp [c1, c2, c3, c4])
  | (refine zah ?_; simp [c1, c2, c3, c4])
  | (refine zar ?_; simp only [zao])
  | fail)
      (refine EndOK.val (.inr rfl) ?_; simp [zaL, zag, zas, Tryz.results28])
    ·rw [key false (by rw [hmk]; simp [c3])]
     (refine Fun.of_body Tryz.func28 rfl (by simp) fun Γ hn => ?_); simp only [entry, List.zipIdx_cons, List.zipIdx_nil, List.map_cons, List.map_nil, Nat.zero_add, Tryz.ntmps28]
     repeat' (first
  | (refine zaf ?_; simp [c1, c2, c3])
  | (refine zal ?_; simp [c1, c2, c3])
  | (refine zah ?_; simp [c1, c2, c3])
  | (refine zar ?_; simp only [zao])
  | fail)
     (refine EndOK.val (.inr rfl) ?_; simp [zaL, zag, zas, Tryz.results28])
   ·rw [key false (by rw [hmk]; simp [c2])]
    (refine Fun.of_body Tryz.func28 rfl (by simp) fun Γ hn => ?_); simp only [entry, List.zipIdx_cons, List.zipIdx_nil, List.map_cons, List.map_nil, Nat.zero_add, Tryz.ntmps28]
    repeat' (first
  | (refine zaf ?_; simp [c1, c2])
  | (refine zal ?_; simp [c1, c2])
  | (refine zah ?_; simp [c1, c2])
  | (refine zar ?_; simp only [zao])
  | fail)
    (refine EndOK.val (.inr rfl) ?_; simp [zaL, zag, zas, Tryz.results28])
  ·rw [key false (by rw [hmk]; simp [c1])]
   (refine Fun.of_body Tryz.func28 rfl (by simp) fun Γ hn => ?_); simp only [entry, List.zipIdx_cons, List.zipIdx_nil, List.map_cons, List.map_nil, Nat.zero_add, Tryz.ntmps28]
   repeat' (first
  | (refine zaf ?_; simp [c1])
  | (refine zal ?_; simp [c1])
  | (refine zah ?_; simp [c1])
  | (refine zar ?_; simp only [zao])
  | fail)
   (refine EndOK.val (.inr rfl) ?_; simp [zaL, zag, zas, Tryz.results28])
theorem zck (a b : Exp) : zdu a b := zoE (SizeOf.sizeOf a) a b (Nat.le_refl _)
theorem zlS (x y : Let) : Fun Tryz.prog 72 [znL x, znL y] (· = .u (.bool (eqB x y))) := by
 have h1 := zck x.body y.body
 unfold zdu at h1
 rw [Exp.row_eq, Exp.row_eq] at h1
 simp only [znL]
 have hmk : x = y ↔ x.name = y.name ∧ x.body = y.body := by cases x; cases y; simp
 by_cases c1 : x.name = y.name
 ·have e : eqB x y = eqB x.body y.body := by
   by_cases c2 : x.body = y.body
   ·rw [zcg.2 c2, zcg.2 (hmk.2 ⟨c1, c2⟩)]
   ·rw [zd8 c2, zd8 fun h => c2 (hmk.1 h).2]
  rw [e]
  (refine Fun.of_body Tryz.func72 rfl (by simp) fun Γ hn => ?_); simp only [entry, List.zipIdx_cons, List.zipIdx_nil, List.map_cons, List.map_nil, Nat.zero_add, Tryz.ntmps72]
  repeat' (first
  | (refine zaf ?_; simp [c1])
  | (refine zal ?_; simp [c1])
  | (refine zah ?_; simp [c1])
  | (refine zar ?_; simp only [zao])
  | (refine CallP.fE (h1) (by first | rfl | fail) (by first | (simp [c1]; done) | (simp [c1]; rfl) | fail) ?_; (try simp [c1]))
  | fail)
  (refine EndOK.val (.inr rfl) ?_; simp [zaL, zag, zas, Tryz.results72])
 ·rw [zd8 fun h => c1 (hmk.1 h).1]
  (refine Fun.of_body Tryz.func72 rfl (by simp) fun Γ hn => ?_); simp only [entry, List.zipIdx_cons, List.zipIdx_nil, List.map_cons, List.map_nil, Nat.zero_add, Tryz.ntmps72]
  repeat' (first
  | (refine zaf ?_; simp [c1])
  | (refine zal ?_; simp [c1])
  | (refine zah ?_; simp [c1])
  | (refine zar ?_; simp only [zao])
  | fail)
  (refine EndOK.val (.inr rfl) ?_; simp [zaL, zag, zas, Tryz.results72])
theorem zmC (A B : List Let) : Fun Tryz.prog 71 [.u (zfm A), .u (zfm B), .fnc (.func 72) []] (· = .u (.bool (eqB A B))) := by
 simp only [zfm]
 by_cases hl : A.length = B.length
 ·have hl' : (A.length : Int) = B.length := by omega
  (refine Fun.of_body Tryz.func71 rfl (by simp) fun Γ hn => ?_); simp only [entry, List.zipIdx_cons, List.zipIdx_nil, List.map_cons, List.map_nil, Nat.zero_add, Tryz.ntmps71]
  refine ziV (x := 0) rfl fun hll => ?_
  simp at hll
  repeat' (first
  | (refine zaf ?_; simp [hl, hl'])
  | (refine zal ?_; simp [hl, hl'])
  | (refine zah ?_; simp [hl, hl'])
  | (refine zai ?_; simp [hl, hl'])
  | (refine zaA ?_; simp [hl, hl'])
  | (refine zap ?_; simp only [zao])
  | fail)
  refine zdY (α := { i : Nat // i ≤ A.length ∧ A.take i = B.take i }) [0, 1, 2, 6, 15, 16] (fun x => [(17, .u (.int .i64 x.1))]) (fun x => []) 0 (fun x => A.length - x.1) ⟨0, by omega, by simp⟩ ?_ ?_
  ·exact (Wk.cut rfl (by simp [hn, St.lp]) (by simp [wkO, St.lp, zaa, getK, Ob.under, D.under, zad, zae, hl]) (by simp [wkU, St.lp, zan, zaa, getK, D.under, hl]) (by simp [wkE, St.lp, zan, zaa, getK, hl] <;> (try (intros; simp_all; done)) <;> (try (intros; omega)) <;> (try grind)))
  rintro ⟨i, hi, hb⟩
  simp [St.lp, St.only, zan, zaa, getK]
  rcases hx : A[i]? with _ | a
  ·have hge : A.length ≤ i := by simpa using hx
   obtain rfl : i = A.length := by omega
   rw [List.take_of_length_le (Nat.le_refl _), List.take_of_length_le (by omega)] at hb
   subst hb
   rw [ze6]
   repeat' (first
  | (refine zaf ?_; simp [hx, hl])
  | (refine zal ?_; simp [hx, hl])
  | (refine zah ?_; simp [hx, hl])
  | (refine zar ?_; simp only [zao])
  | (refine zbR ?_; simp [zao])
  | fail)
   (refine EndOK.val (.inr rfl) ?_; simp [zaL, zag, zas, Tryz.results71])
  ·have hlt : i < A.length := (List.getElem?_eq_some_iff.1 hx).1
   have hlt2 : i < B.length := by omega
   obtain ⟨b, hy⟩ : ∃ b, B[i]? = some b := ⟨_, List.getElem?_eq_getElem hlt2⟩
   have hi2 : (i : Int) < B.length := by omega
   have h1 := zlS a b
   simp only [znL] at h1
   by_cases hab : a = b
   ·rw [zcg.2 hab] at h1
    repeat' (first
  | (refine zaf ?_; simp [hx, hy, hi2])
  | (refine zal ?_; simp [hx, hy, hi2])
  | (refine ⟨by omega, ?_⟩)
  | (refine zah ?_; simp [hx, hy, hi2])
  | (refine zai ?_; simp [hx, hy, hi2])
  | (refine zaC ?_; simp [hx, hy, hi2])
  | (refine zap ?_; simp only [zao])
  | (refine CallP.fE (h1) (by first | rfl | fail) (by first | (simp [hx, hy, hi2]; done) | (simp [hx, hy, hi2]; rfl) | fail) ?_; (try simp [hx, hy, hi2]))
  | fail)
    have hsn : A.take (i + 1) = B.take (i + 1) := by
     rw [List.take_succ_eq_append_getElem hlt, List.take_succ_eq_append_getElem hlt2, hb, (List.getElem?_eq_some_iff.1 hx).2, (List.getElem?_eq_some_iff.1 hy).2, hab]
    refine LoopW.next ⟨i + 1, by omega, hsn⟩ (by simp; omega) ?_
    exact (Wk.cut rfl (by simp [hn, St.lp]) (by simp [wkO, St.lp, zaa, getK, Ob.under, D.under, zad, zae, hl]) (by simp [wkU, St.lp, zan, zaa, getK, D.under, hl]) (by simp [wkE, St.lp, zan, zaa, getK, hl] <;> (try (intros; simp_all; done)) <;> (try (intros; omega)) <;> (try grind)))
   ·rw [zd8 hab] at h1
    have hne : A ≠ B := fun e => by subst e; rw [hx] at hy; cases hy; exact hab rfl
    rw [zd8 hne]
    repeat' (first
  | (refine zaf ?_; simp [hx, hy, hi2])
  | (refine zal ?_; simp [hx, hy, hi2])
  | (refine zah ?_; simp [hx, hy, hi2])
  | (refine zai ?_; simp [hx, hy, hi2])
  | (refine zar ?_; simp only [zao])
  | (refine zap ?_; simp only [zao])
  | (refine CallP.fE (h1) (by first | rfl | fail) (by first | (simp [hx, hy, hi2]; done) | (simp [hx, hy, hi2]; rfl) | fail) ?_; (try simp [hx, hy, hi2]))
  | fail)
    (refine EndOK.val (.inr rfl) ?_; simp [zaL, zag, zas, Tryz.results71])
 ·have hl' : ¬ (A.length : Int) = B.length := by omega
  rw [zd8 (fun e => hl (by rw [e]))]
  (refine Fun.of_body Tryz.func71 rfl (by simp) fun Γ hn => ?_); simp only [entry, List.zipIdx_cons, List.zipIdx_nil, List.map_cons, List.map_nil, Nat.zero_add, Tryz.ntmps71]
  repeat' (first
  | (refine zaf ?_; simp [hl, hl'])
  | (refine zal ?_; simp [hl, hl'])
  | (refine zah ?_; simp [hl, hl'])
  | (refine zai ?_; simp [hl, hl'])
  | (refine zar ?_; simp only [zao])
  | fail)
  (refine EndOK.val (.inr rfl) ?_; simp [zaL, zag, zas, Tryz.results71])
theorem zjb (b : By) : Fun Tryz.prog 27 [.u (.agg (zbc b)), .u (.agg (zbc b))] (· = .u (.bool true)) := by
 have e0 := zmC b.lets b.lets
 have e1 : zdu b.due b.due := zck _ _
 have e2 : zdu b.fine b.fine := zck _ _
 have e3 : zdu b.pay b.pay := zck _ _
 have e4 : zdu b.cover b.cover := zck _ _
 have e5 : zdu b.hold b.hold := zck _ _
 unfold zdu at e1 e2 e3 e4 e5
 rw [Exp.row_eq] at e1 e2 e3 e4 e5
 rw [ze6] at e0 e1 e2 e3 e4 e5
 simp only [zfm] at e0
 unfold zbc
 (refine Fun.of_body Tryz.func27 rfl (by simp) fun Γ hn => ?_); simp only [entry, List.zipIdx_cons, List.zipIdx_nil, List.map_cons, List.map_nil, Nat.zero_add, Tryz.ntmps27]
 repeat' (first
  | (refine zaf ?_; simp)
  | (refine zal ?_; simp)
  | (refine zah ?_; simp)
  | (refine zar ?_; simp only [zao])
  | (refine CallP.fE (e0) (by first | rfl | fail) (by first | (simp; done) | (simp; rfl) | fail) ?_; (try simp))
  | (refine CallP.fE (e1) (by first | rfl | fail) (by first | (simp; done) | (simp; rfl) | fail) ?_; (try simp))
  | (refine CallP.fE (e2) (by first | rfl | fail) (by first | (simp; done) | (simp; rfl) | fail) ?_; (try simp))
  | (refine CallP.fE (e3) (by first | rfl | fail) (by first | (simp; done) | (simp; rfl) | fail) ?_; (try simp))
  | (refine CallP.fE (e4) (by first | rfl | fail) (by first | (simp; done) | (simp; rfl) | fail) ?_; (try simp))
  | (refine CallP.fE (e5) (by first | rfl | fail) (by first | (simp; done) | (simp; rfl) | fail) ?_; (try simp))
  | fail)
 (refine EndOK.val (.inr rfl) ?_; simp [zaL, zag, zas, Tryz.results27])
end Go.Proofs.YthnemhfamhnfjaaGreatDoor
