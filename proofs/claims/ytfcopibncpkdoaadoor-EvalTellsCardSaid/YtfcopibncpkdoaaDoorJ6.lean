/- Texts joined by a program of mine: Ek El Em En Eo Ep Er Es Et Fi Fn Fp Fu Fv Gd Ge. -/
import Derived.Test.YtfcopibncpkdoaaDoorJ5
set_option linter.all false
set_option maxRecDepth 100000
set_option maxHeartbeats 8000000
namespace Go.Proofs.YtfcopibncpkdoaaDoor
open Go Go.VL
attribute [local simp] HS zcp zbN evPure opd uOf zaB St.put St.at getK binD binI binS binB nilD aggD zeJ ze8 lookD lookR zbT Go.VL.nextD zbY zfe zfd zev zbM mkV zaW zaP zaO zaN zcm zaM za1 zbc mapEff zcS zek Key.kk shiftI arith unD convD zcP loadD cellsAt fieldAddrD fieldD indexAddrD indexD sliceD cutD lenD minmaxD nilCheckD buildD fillD zbt zcq zdR setAll zcg zdy zbQ zeN zbO St.add zaC zbj rowsOf zcM zce zaj zac zaa za5 zcl zaH entry za4 za6 valD zbS zb7 zez zct zcu zbx zbs zav zaT za7 delAll effD St.effS zb9 zaQ zaI zca zaR zaK zby zaJ zaD zbz zb8 zbb zbw zaZ zbu zbv zat mkD zbk zbd zbB zav zbP D.ids Op.operands Call.operands za8 makeIfD typeAssertD ze6 zcH zcI zeR zbV IntKind.bits zch List.take_of_length_le List.range_succ
attribute [local irreducible] V G H HD HD2 HD4 zhn RetX zal Eff CallP CallV EndOK Fun Ret FinOK LoopI LoopW EndW
theorem ziu {l : List Tok} (hl : TokOK l) {f p : Nat} {t : Tok} (ht : l[p]? = some t) (hk : ¬ t.kind = 2) (h1 : isB l p [116, 114, 117, 101] = false) (h2 : isB l p [102, 97, 108, 115, 101] = false)
  (h3 : isB l p [109, 105, 110] = false) (h4 : isB l p [109, 97, 120] = false) (h5 : isB l p [40] = false) {i nx : Nat} (hi : i < nx) :
  RetX Tryd.prog 98 [.ptr i 0] [(i, pOb l p)] nx (PPost l i nx zmY (zbf l (f + 1) p)) := by
 have hne := zbh hi
 have hp := (List.getElem?_eq_some_iff.1 ht).1
 have hnx := zcw l p t ht hl.len
 have hll := hl.len
 rw [zbf, ht]
 have hh1 := fun nx' (h : nx ≤ nx') => zbE l p [116, 114, 117, 101] i nx' (by omega) hp hl.len
 have hh2 := fun nx' (h : nx ≤ nx') => zbE l p [102, 97, 108, 115, 101] i nx' (by omega) hp hl.len
 have hm1 := zey l p [109, 105, 110] hp hl.len
 have hm2 := zey l p [109, 97, 120] hp hl.len
 have hh3 := fun nx' (h : nx ≤ nx') => zbE l p [40] i nx' (by omega) hp hl.len
 have hnm := zhM t.text
 have hc1 := fun nx' (h : nx ≤ nx') => zfT l p 12 i nx' (by omega)
 have hc2 := fun nx' (h : nx ≤ nx') => ze9 l p t 12 i nx' (by omega) ht hl.len
 simp only [hk, h1, h2, h3, h4, h5, if_false, if_true, Bool.false_eq_true, or_self] at hh1 hh2 hm1 hm2 hh3 ⊢
 by_cases hw : t.kind = 1
 ·cases hb : zeW t.text with
  | true =>
   simp only [hb, hw, and_self, if_true] at hnm ⊢
   (refine RetX.of_bodyW Tryd.func98 rfl (by simp) fun Γ hn hpan => ?_); simp only [entry, List.zipIdx_cons, List.zipIdx_nil, List.map_cons, List.map_nil, Nat.zero_add, Tryd.ntmps98]
   repeat' (first
  | (refine zah ?_; simp [hne, hk, hw, del, Nat.add_assoc])
  | (refine zak ?_; simp [hne, hk, hw, del, Nat.add_assoc])
  | (refine ⟨by omega, ?_⟩)
  | (refine zai ?_; simp [hne, hk, hw, del, Nat.add_assoc])
  | (refine zag ?_; simp [hne, hk, hw, del, Nat.add_assoc])
  | (refine zar ?_; simp only [zal])
  | (refine zaq ?_; simp only [zal])
  | (refine CallP.fun_ (hnx) (by first | rfl | fail) (by first | assumption | (simp; done) | fail) (by first | (simp [hne, hk, hw, del, Nat.add_assoc]; done) | (simp [hne, hk, hw, del, Nat.add_assoc]; rfl) | fail) (by first | (simp; done) | fail) (fun d hd => ?_); subst hd; (try simp [hne, hk, hw, del, Nat.add_assoc]))
  | (refine CallP.fun_ (hm1) (by first | rfl | fail) (by first | assumption | (simp; done) | fail) (by first | (simp [hne, hk, hw, del, Nat.add_assoc]; done) | (simp [hne, hk, hw, del, Nat.add_assoc]; rfl) | fail) (by first | (simp; done) | fail) (fun d hd => ?_); subst hd; (try simp [hne, hk, hw, del, Nat.add_assoc]))
  | (refine CallP.fun_ (hm2) (by first | rfl | fail) (by first | assumption | (simp; done) | fail) (by first | (simp [hne, hk, hw, del, Nat.add_assoc]; done) | (simp [hne, hk, hw, del, Nat.add_assoc]; rfl) | fail) (by first | (simp; done) | fail) (fun d hd => ?_); subst hd; (try simp [hne, hk, hw, del, Nat.add_assoc]))
  | (refine CallP.fun_ (hnm) (by first | rfl | fail) (by first | assumption | (simp; done) | fail) (by first | (simp [hne, hk, hw, del, Nat.add_assoc]; done) | (simp [hne, hk, hw, del, Nat.add_assoc]; rfl) | fail) (by first | (simp; done) | fail) (fun d hd => ?_); subst hd; (try simp [hne, hk, hw, del, Nat.add_assoc]))
  | (refine CallP.ok1 (hh1 _ (by first | omega | (simp; done) | (simp; omega) | fail)) (by first | (simp [hne, hk, hw, del, Nat.add_assoc, zaa, getK, zab, zac]; done) | fail) (by rfl) (by first | assumption | (simp; done) | fail) (by rfl) (by simp) ?_; (try simp [hne, hk, hw, del, Nat.add_assoc]))
  | (refine CallP.ok1 (hh2 _ (by first | omega | (simp; done) | (simp; omega) | fail)) (by first | (simp [hne, hk, hw, del, Nat.add_assoc, zaa, getK, zab, zac]; done) | fail) (by rfl) (by first | assumption | (simp; done) | fail) (by rfl) (by simp) ?_; (try simp [hne, hk, hw, del, Nat.add_assoc]))
  | (refine CallP.ok1 (hh3 _ (by first | omega | (simp; done) | (simp; omega) | fail)) (by first | (simp [hne, hk, hw, del, Nat.add_assoc, zaa, getK, zab, zac]; done) | fail) (by rfl) (by first | assumption | (simp; done) | fail) (by rfl) (by simp) ?_; (try simp [hne, hk, hw, del, Nat.add_assoc]))
  | (refine CallP.ok1 (hc1 _ (by first | omega | (simp; done) | (simp; omega) | fail)) (by first | (simp [hne, hk, hw, del, Nat.add_assoc, zaa, getK, zab, zac]; done) | fail) (by rfl) (by first | assumption | (simp; done) | fail) (by rfl) (by simp) ?_; (try simp [hne, hk, hw, del, Nat.add_assoc]))
  | fail)
   refine EndW.norm ?_
   simp [St.norm, zbq, zcf, zcy, zcz, hne]
   (refine EndW.here ?_; (first | (refine EndOK.fin (.inr rfl) ?_) | (refine EndOK.fin (.inl rfl) ?_)); simp [zay, zae, Tryd.results98, hne, hi]; refine FinOK.cut [(i, pOb l (p + 1))] (nx) (by simp [zaa, getK, zab, zac, Ob.under, D.under, zad, zaf, hne, hi] <;> omega) (by simp [D.under]) (by simp [hn]) ?_; try simp)
   exact PPost.zdF rfl (by simp [Exp.row]) rfl
  | false =>
   simp only [hb, hw, Bool.false_eq_true, and_false, if_false] at hnm ⊢
   (refine RetX.of_bodyW Tryd.func98 rfl (by simp) fun Γ hn hpan => ?_); simp only [entry, List.zipIdx_cons, List.zipIdx_nil, List.map_cons, List.map_nil, Nat.zero_add, Tryd.ntmps98]
   repeat' (first
  | (refine zah ?_; simp [hne, hk, hw, del, Nat.add_assoc])
  | (refine zak ?_; simp [hne, hk, hw, del, Nat.add_assoc])
  | (refine zai ?_; simp [hne, hk, hw, del, Nat.add_assoc])
  | (refine zag ?_; simp [hne, hk, hw, del, Nat.add_assoc])
  | (refine zaq ?_; simp only [zal])
  | (refine CallP.fun_ (hnx) (by first | rfl | fail) (by first | assumption | (simp; done) | fail) (by first | (simp [hne, hk, hw, del, Nat.add_assoc]; done) | (simp [hne, hk, hw, del, Nat.add_assoc]; rfl) | fail) (by first | (simp; done) | fail) (fun d hd => ?_); subst hd; (try simp [hne, hk, hw, del, Nat.add_assoc]))
  | (refine CallP.fun_ (hm1) (by first | rfl | fail) (by first | assumption | (simp; done) | fail) (by first | (simp [hne, hk, hw, del, Nat.add_assoc]; done) | (simp [hne, hk, hw, del, Nat.add_assoc]; rfl) | fail) (by first | (simp; done) | fail) (fun d hd => ?_); subst hd; (try simp [hne, hk, hw, del, Nat.add_assoc]))
  | (refine CallP.fun_ (hm2) (by first | rfl | fail) (by first | assumption | (simp; done) | fail) (by first | (simp [hne, hk, hw, del, Nat.add_assoc]; done) | (simp [hne, hk, hw, del, Nat.add_assoc]; rfl) | fail) (by first | (simp; done) | fail) (fun d hd => ?_); subst hd; (try simp [hne, hk, hw, del, Nat.add_assoc]))
  | (refine CallP.fun_ (hnm) (by first | rfl | fail) (by first | assumption | (simp; done) | fail) (by first | (simp [hne, hk, hw, del, Nat.add_assoc]; done) | (simp [hne, hk, hw, del, Nat.add_assoc]; rfl) | fail) (by first | (simp; done) | fail) (fun d hd => ?_); subst hd; (try simp [hne, hk, hw, del, Nat.add_assoc]))
  | (refine CallP.ok1 (hh1 _ (by first | omega | (simp; done) | (simp; omega) | fail)) (by first | (simp [hne, hk, hw, del, Nat.add_assoc, zaa, getK, zab, zac]; done) | fail) (by rfl) (by first | assumption | (simp; done) | fail) (by rfl) (by simp) ?_; (try simp [hne, hk, hw, del, Nat.add_assoc]))
  | (refine CallP.ok1 (hh2 _ (by first | omega | (simp; done) | (simp; omega) | fail)) (by first | (simp [hne, hk, hw, del, Nat.add_assoc, zaa, getK, zab, zac]; done) | fail) (by rfl) (by first | assumption | (simp; done) | fail) (by rfl) (by simp) ?_; (try simp [hne, hk, hw, del, Nat.add_assoc]))
  | (refine CallP.ok1 (hh3 _ (by first | omega | (simp; done) | (simp; omega) | fail)) (by first | (simp [hne, hk, hw, del, Nat.add_assoc, zaa, getK, zab, zac]; done) | fail) (by rfl) (by first | assumption | (simp; done) | fail) (by rfl) (by simp) ?_; (try simp [hne, hk, hw, del, Nat.add_assoc]))
  | (refine CallP.zfc (hc2 _ (by first | omega | (simp; done) | (simp; omega) | fail)) (by first | (simp [hne, hk, hw, del, Nat.add_assoc, zaa, getK, zab, zac]; done) | fail) (by rfl) (by first | assumption | (simp; done) | fail) (by rfl) (by simp) ?_; rintro ob' ⟨q', rfl⟩; refine ⟨_, Wk.refl _, ?_⟩)
  | fail)
   (refine hpan _ _ ⟨{ n := _, env := [], obs := [(i, pOb l q')], next := nx }, (Wk.cut rfl (by simp [hn]) (by simp [wkO, zaa, getK, zab, zac, Ob.under, D.under, zad, zaf, hi, hne, zab, zac, zaa, getK]) (by simp [wkU, zap, zaa, getK, D.under, hi, hne, zab, zac, zaa, getK]) (by simp [wkE, zap, zaa, getK, hi, hne, zab, zac, zaa, getK])), by simp [hn], ?_⟩; try simp)
   exact PPost.zbn rfl
 ·simp only [hw, false_and, if_false]
  (refine RetX.of_bodyW Tryd.func98 rfl (by simp) fun Γ hn hpan => ?_); simp only [entry, List.zipIdx_cons, List.zipIdx_nil, List.map_cons, List.map_nil, Nat.zero_add, Tryd.ntmps98]
  repeat' (first
  | (refine zah ?_; simp [hne, hk, hw, del, Nat.add_assoc])
  | (refine zak ?_; simp [hne, hk, hw, del, Nat.add_assoc])
  | (refine zai ?_; simp [hne, hk, hw, del, Nat.add_assoc])
  | (refine zag ?_; simp [hne, hk, hw, del, Nat.add_assoc])
  | (refine zaq ?_; simp only [zal])
  | (refine CallP.fun_ (hnx) (by first | rfl | fail) (by first | assumption | (simp; done) | fail) (by first | (simp [hne, hk, hw, del, Nat.add_assoc]; done) | (simp [hne, hk, hw, del, Nat.add_assoc]; rfl) | fail) (by first | (simp; done) | fail) (fun d hd => ?_); subst hd; (try simp [hne, hk, hw, del, Nat.add_assoc]))
  | (refine CallP.fun_ (hm1) (by first | rfl | fail) (by first | assumption | (simp; done) | fail) (by first | (simp [hne, hk, hw, del, Nat.add_assoc]; done) | (simp [hne, hk, hw, del, Nat.add_assoc]; rfl) | fail) (by first | (simp; done) | fail) (fun d hd => ?_); subst hd; (try simp [hne, hk, hw, del, Nat.add_assoc]))
  | (refine CallP.fun_ (hm2) (by first | rfl | fail) (by first | assumption | (simp; done) | fail) (by first | (simp [hne, hk, hw, del, Nat.add_assoc]; done) | (simp [hne, hk, hw, del, Nat.add_assoc]; rfl) | fail) (by first | (simp; done) | fail) (fun d hd => ?_); subst hd; (try simp [hne, hk, hw, del, Nat.add_assoc]))
  | (refine CallP.ok1 (hh1 _ (by first | omega | (simp; done) | (simp; omega) | fail)) (by first | (simp [hne, hk, hw, del, Nat.add_assoc, zaa, getK, zab, zac]; done) | fail) (by rfl) (by first | assumption | (simp; done) | fail) (by rfl) (by simp) ?_; (try simp [hne, hk, hw, del, Nat.add_assoc]))
  | (refine CallP.ok1 (hh2 _ (by first | omega | (simp; done) | (simp; omega) | fail)) (by first | (simp [hne, hk, hw, del, Nat.add_assoc, zaa, getK, zab, zac]; done) | fail) (by rfl) (by first | assumption | (simp; done) | fail) (by rfl) (by simp) ?_; (try simp [hne, hk, hw, del, Nat.add_assoc]))
  | (refine CallP.ok1 (hh3 _ (by first | omega | (simp; done) | (simp; omega) | fail)) (by first | (simp [hne, hk, hw, del, Nat.add_assoc, zaa, getK, zab, zac]; done) | fail) (by rfl) (by first | assumption | (simp; done) | fail) (by rfl) (by simp) ?_; (try simp [hne, hk, hw, del, Nat.add_assoc]))
  | (refine CallP.zfc (hc2 _ (by first | omega | (simp; done) | (simp; omega) | fail)) (by first | (simp [hne, hk, hw, del, Nat.add_assoc, zaa, getK, zab, zac]; done) | fail) (by rfl) (by first | assumption | (simp; done) | fail) (by rfl) (by simp) ?_; rintro ob' ⟨q', rfl⟩; refine ⟨_, Wk.refl _, ?_⟩)
  | fail)
  (refine hpan _ _ ⟨{ n := _, env := [], obs := [(i, pOb l q')], next := nx }, (Wk.cut rfl (by simp [hn]) (by simp [wkO, zaa, getK, zab, zac, Ob.under, D.under, zad, zaf, hi, hne, zab, zac, zaa, getK]) (by simp [wkU, zap, zaa, getK, D.under, hi, hne, zab, zac, zaa, getK]) (by simp [wkE, zap, zaa, getK, hi, hne, zab, zac, zaa, getK])), by simp [hn], ?_⟩; try simp)
  exact PPost.zbn rfl
theorem zkl {l : List Tok} {p : Nat} {w : List UInt8} {t : Tok} (ht : l[p]? = some t) (h : isB l p w = true) : t.text = w := by
 unfold isB at h
 rw [ht] at h
 simp only [Bool.and_eq_true, decide_eq_true_eq] at h
 exact h.2
theorem zit {l : List Tok} (hl : TokOK l) {f : Nat} (hE : zgB l f) : zhm l (f + 1) := by
 intro p i nx hi hp hf
 obtain ⟨t, ht⟩ : ∃ t, l[p]? = some t := ⟨_, List.getElem?_eq_getElem hp⟩
 by_cases hk : t.kind = 2
 ·exact zjs hl ht hk hi
 cases h1 : isB l p [116, 114, 117, 101] with
 | true => exact zis hl ht hk h1 hi
 | false =>
 cases h2 : isB l p [102, 97, 108, 115, 101] with
 | true => exact zhD hl ht hk h1 h2 hi
 | false =>
 cases h3 : isB l p [109, 105, 110] with
 | true =>
  cases h4 : isB l p [109, 97, 120] with
  | true => exact absurd ((zkl ht h3).symm.trans (zkl ht h4)) (by decide)
  | false => exact zjt hl hE (by omega) ht hk h1 h2 h3 h4 hi
 | false =>
 cases h4 : isB l p [109, 97, 120] with
 | true => exact zju hl hE (by omega) ht hk h1 h2 h3 h4 hi
 | false =>
 cases h5 : isB l p [40] with
 | true => exact zhC hl hE (by omega) ht hk h1 h2 h3 h4 h5 hi
 | false => exact ziu hl ht hk h1 h2 h3 h4 h5 hi
theorem zlQ {l : List Tok} (hl : TokOK l) {f p : Nat} {form : Int} (hE : zgB l f) (hp : p < l.length) (hf : 4 * (l.length - p) + 1 ≤ f)
  (hf0 : form = 0) (h1 : isB l p [105, 102] = true) {i nx : Nat} (hi : i < nx) :
  RetX Tryd.prog 67 [.ptr i 0, zmX form] [(i, pOb l p)] nx (PPost l i nx ziD (zbZ l (f + 1) p form)) := by
 have hne := zbh hi
 have hll := hl.len
 rw [zbZ]
 have hp2 := zcB hl h1
 subst hf0
 have hf0 : (0 : Int) = 0 := rfl
 have hf3 : (0 : Int) ≤ 3 := by omega
 have hh1 := fun nx' (h : nx ≤ nx') => zbE l p [105, 102] i nx' (by omega) hp hl.len
 simp only [h1, if_true] at hh1
 rw [if_pos ⟨rfl, h1⟩]
 have ha := fun nx' (h : nx ≤ nx') => hE (p + 1) 0 i nx' (by omega) hp2 (by omega) (by omega) (by omega)
 cases hr0 : zeM l f (p + 1) 0 with
 | stop pos e =>
  simp only [hr0] at ha
  (refine RetX.of_bodyW Tryd.func67 rfl (by simp) fun Γ hn hpan => ?_); simp only [entry, List.zipIdx_cons, List.zipIdx_nil, List.map_cons, List.map_nil, Nat.zero_add, Tryd.ntmps67]
  repeat' (first
  | (refine zah ?_; simp [hne, hf0, hf3, del, Nat.add_assoc])
  | (refine zak ?_; simp [hne, hf0, hf3, del, Nat.add_assoc])
  | (refine zai ?_; simp [hne, hf0, hf3, del, Nat.add_assoc])
  | (refine zag ?_; simp [hne, hf0, hf3, del, Nat.add_assoc])
  | (refine CallP.ok1 (hh1 _ (by first | omega | (simp; done) | (simp; omega) | fail)) (by first | (simp [hne, hf0, hf3, del, Nat.add_assoc, zaa, getK, zab, zac]; done) | fail) (by rfl) (by first | assumption | (simp; done) | fail) (by rfl) (by simp) ?_; (try simp [hne, hf0, hf3, del, Nat.add_assoc]))
  | (refine CallP.zfc (ha _ (by first | omega | (simp; done) | (simp; omega) | fail)) (by first | (simp [hne, hf0, hf3, del, Nat.add_assoc, zaa, getK, zab, zac]; done) | fail) (by rfl) (by first | assumption | (simp; done) | fail) (by rfl) (by simp) ?_; rintro ob' ⟨q', rfl⟩; refine ⟨_, Wk.refl _, ?_⟩)
  | fail)
  (refine hpan _ _ ⟨{ n := _, env := [], obs := [(i, pOb l q')], next := nx }, (Wk.cut rfl (by simp [hn]) (by simp [wkO, zaa, getK, zab, zac, Ob.under, D.under, zad, zaf, hi, hne, zab, zac, zaa, getK]) (by simp [wkU, zap, zaa, getK, D.under, hi, hne, zab, zac, zaa, getK]) (by simp [wkE, zap, zaa, getK, hi, hne, zab, zac, zaa, getK])), by simp [hn], ?_⟩; try simp)
  exact PPost.zbn (by simp [PR.bind, *])
 | ok v0 q0 =>
  have ha := fun nx' h => zdr (ha nx' h) hr0
  obtain ⟨g0a, g0b⟩ := (zcD hl f).1 _ _ _ _ hr0 hp2
  have hw1 := fun nx' (h : nx ≤ nx') => zhp hl [116, 104, 101, 110] (q := q0) (i := i) (nx := nx') (by omega) g0b
  cases hr1 : zcW l q0 [[116, 104, 101, 110]] with
  | stop pos e =>
   simp only [hr1] at hw1
   (refine RetX.of_bodyW Tryd.func67 rfl (by simp) fun Γ hn hpan => ?_); simp only [entry, List.zipIdx_cons, List.zipIdx_nil, List.map_cons, List.map_nil, Nat.zero_add, Tryd.ntmps67]
   repeat' (first
  | (refine zah ?_; simp [hne, hf0, hf3, del, Nat.add_assoc])
  | (refine zak ?_; simp [hne, hf0, hf3, del, Nat.add_assoc])
  | (refine zai ?_; simp [hne, hf0, hf3, del, Nat.add_assoc])
  | (refine zag ?_; simp [hne, hf0, hf3, del, Nat.add_assoc])
  | (refine CallP.ok1 (hh1 _ (by first | omega | (simp; done) | (simp; omega) | fail)) (by first | (simp [hne, hf0, hf3, del, Nat.add_assoc, zaa, getK, zab, zac]; done) | fail) (by rfl) (by first | assumption | (simp; done) | fail) (by rfl) (by simp) ?_; (try simp [hne, hf0, hf3, del, Nat.add_assoc]))
  | (refine CallP.ok1 (ha _ (by first | omega | (simp; done) | (simp; omega) | fail)) (by first | (simp [hne, hf0, hf3, del, Nat.add_assoc, zaa, getK, zab, zac]; done) | fail) (by rfl) (by first | assumption | (simp; done) | fail) (by rfl) (by simp) ?_; (try simp [hne, hf0, hf3, del, Nat.add_assoc]))
  | (refine CallP.zfc (hw1 _ (by first | omega | (simp; done) | (simp; omega) | fail)) (by first | (simp [hne, hf0, hf3, del, Nat.add_assoc, zaa, getK, zab, zac]; done) | fail) (by rfl) (by first | assumption | (simp; done) | fail) (by rfl) (by simp) ?_; rintro ob' ⟨q', rfl⟩; refine ⟨_, Wk.refl _, ?_⟩)
  | (refine za2 (by first | rfl | fail) ?_; simp [hne, hf0, hf3, del, Nat.add_assoc, frzN, frz1, zaV, zaU, St.frz, St.frzS, frzS, fv, zbH, zbJ, zbK, zaY, zaF, zaA, del, frz, zb2])
  | fail)
   (refine hpan _ _ ⟨{ n := _, env := [], obs := [(i, pOb l q')], next := nx }, (Wk.cut rfl (by simp [hn]) (by simp [wkO, zaa, getK, zab, zac, Ob.under, D.under, zad, zaf, hi, hne, zab, zac, zaa, getK]) (by simp [wkU, zap, zaa, getK, D.under, hi, hne, zab, zac, zaa, getK]) (by simp [wkE, zap, zaa, getK, hi, hne, zab, zac, zaa, getK])), by simp [hn], ?_⟩; try simp)
   exact PPost.zbn (by simp [PR.bind, *])
  | ok v1 q1 =>
   simp only [hr1] at hw1
   obtain ⟨g1a, g1b⟩ := zb3 hl _ hr1 g0b
   have hb := fun nx' (h : nx ≤ nx') => hE q1 0 i nx' (by omega) g1b (by omega) (by omega) (by omega)
   cases hr2 : zeM l f q1 0 with
   | stop pos e =>
    simp only [hr2] at hb
    (refine RetX.of_bodyW Tryd.func67 rfl (by simp) fun Γ hn hpan => ?_); simp only [entry, List.zipIdx_cons, List.zipIdx_nil, List.map_cons, List.map_nil, Nat.zero_add, Tryd.ntmps67]
    repeat' (first
  | (refine zah ?_; simp [hne, hf0, hf3, del, Nat.add_assoc])
  | (refine zak ?_; simp [hne, hf0, hf3, del, Nat.add_assoc])
  | (refine zai ?_; simp [hne, hf0, hf3, del, Nat.add_assoc])
  | (refine zag ?_; simp [hne, hf0, hf3, del, Nat.add_assoc])
  | (refine CallP.ok1 (hh1 _ (by first | omega | (simp; done) | (simp; omega) | fail)) (by first | (simp [hne, hf0, hf3, del, Nat.add_assoc, zaa, getK, zab, zac]; done) | fail) (by rfl) (by first | assumption | (simp; done) | fail) (by rfl) (by simp) ?_; (try simp [hne, hf0, hf3, del, Nat.add_assoc]))
  | (refine CallP.ok1 (ha _ (by first | omega | (simp; done) | (simp; omega) | fail)) (by first | (simp [hne, hf0, hf3, del, Nat.add_assoc, zaa, getK, zab, zac]; done) | fail) (by rfl) (by first | assumption | (simp; done) | fail) (by rfl) (by simp) ?_; (try simp [hne, hf0, hf3, del, Nat.add_assoc]))
  | (refine CallP.ok1 (hw1 _ (by first | omega | (simp; done) | (simp; omega) | fail)) (by first | (simp [hne, hf0, hf3, del, Nat.add_assoc, zaa, getK, zab, zac]; done) | fail) (by rfl) (by first | assumption | (simp; done) | fail) (by rfl) (by simp) ?_; (try simp [hne, hf0, hf3, del, Nat.add_assoc]))
  | (refine CallP.zfc (hb _ (by first | omega | (simp; done) | (simp; omega) | fail)) (by first | (simp [hne, hf0, hf3, del, Nat.add_assoc, zaa, getK, zab, zac]; done) | fail) (by rfl) (by first | assumption | (simp; done) | fail) (by rfl) (by simp) ?_; rintro ob' ⟨q', rfl⟩; refine ⟨_, Wk.refl _, ?_⟩)
  | (refine za2 (by first | rfl | fail) ?_; simp [hne, hf0, hf3, del, Nat.add_assoc, frzN, frz1, zaV, zaU, St.frz, St.frzS, frzS, fv, zbH, zbJ, zbK, zaY, zaF, zaA, del, frz, zb2])
  | fail)
    (refine hpan _ _ ⟨{ n := _, env := [], obs := [(i, pOb l q')], next := nx }, (Wk.cut rfl (by simp [hn]) (by simp [wkO, zaa, getK, zab, zac, Ob.under, D.under, zad, zaf, hi, hne, zab, zac, zaa, getK]) (by simp [wkU, zap, zaa, getK, D.under, hi, hne, zab, zac, zaa, getK]) (by simp [wkE, zap, zaa, getK, hi, hne, zab, zac, zaa, getK])), by simp [hn], ?_⟩; try simp)
    exact PPost.zbn (by simp [PR.bind, *])
   | ok v2 q2 =>
    have hb := fun nx' h => zdr (hb nx' h) hr2
    obtain ⟨g2a, g2b⟩ := (zcD hl f).1 _ _ _ _ hr2 g1b
    have hw2 := fun nx' (h : nx ≤ nx') => zhp hl [101, 108, 115, 101] (q := q2) (i := i) (nx := nx') (by omega) g2b
    cases hr3 : zcW l q2 [[101, 108, 115, 101]] with
    | stop pos e =>
     simp only [hr3] at hw2
     (refine RetX.of_bodyW Tryd.func67 rfl (by simp) fun Γ hn hpan => ?_); simp only [entry, List.zipIdx_cons, List.zipIdx_nil, List.map_cons, List.map_nil, Nat.zero_add, Tryd.ntmps67]
     repeat' (first
  | (refine zah ?_; simp [hne, hf0, hf3, del, Nat.add_assoc])
  | (refine zak ?_; simp [hne, hf0, hf3, del, Nat.add_assoc])
  | (refine zai ?_; simp [hne, hf0, hf3, del, Nat.add_assoc])
  | (refine zag ?_; simp [hne, hf0, hf3, del, Nat.add_assoc])
  | (refine CallP.ok1 (hh1 _ (by first | omega | (simp; done) | (simp; omega) | fail)) (by first | (simp [hne, hf0, hf3, del, Nat.add_assoc, zaa, getK, zab, zac]; done) | fail) (by rfl) (by first | assumption | (simp; done) | fail) (by rfl) (by simp) ?_; (try simp [hne, hf0, hf3, del, Nat.add_assoc]))
  | (refine CallP.ok1 (ha _ (by first | omega | (simp; done) | (simp; omega) | fail)) (by first | (simp [hne, hf0, hf3, del, Nat.add_assoc, zaa, getK, zab, zac]; done) | fail) (by rfl) (by first | assumption | (simp; done) | fail) (by rfl) (by simp) ?_; (try simp [hne, hf0, hf3, del, Nat.add_assoc]))
  | (refine CallP.ok1 (hw1 _ (by first | omega | (simp; done) | (simp; omega) | fail)) (by first | (simp [hne, hf0, hf3, del, Nat.add_assoc, zaa, getK, zab, zac]; done) | fail) (by rfl) (by first | assumption | (simp; done) | fail) (by rfl) (by simp) ?_; (try simp [hne, hf0, hf3, del, Nat.add_assoc]))
  | (refine CallP.ok1 (hb _ (by first | omega | (simp; done) | (simp; omega) | fail)) (by first | (simp [hne, hf0, hf3, del, Nat.add_assoc, zaa, getK, zab, zac]; done) | fail) (by rfl) (by first | assumption | (simp; done) | fail) (by rfl) (by simp) ?_; (try simp [hne, hf0, hf3, del, Nat.add_assoc]))
  | (refine CallP.zfc (hw2 _ (by first | omega | (simp; done) | (simp; omega) | fail)) (by first | (simp [hne, hf0, hf3, del, Nat.add_assoc, zaa, getK, zab, zac]; done) | fail) (by rfl) (by first | assumption | (simp; done) | fail) (by rfl) (by simp) ?_; rintro ob' ⟨q', rfl⟩; refine ⟨_, Wk.refl _, ?_⟩)
  | (refine za2 (by first | rfl | fail) ?_; simp [hne, hf0, hf3, del, Nat.add_assoc, frzN, frz1, zaV, zaU, St.frz, St.frzS, frzS, fv, zbH, zbJ, zbK, zaY, zaF, zaA, del, frz, zb2])
  | fail)
     (refine hpan _ _ ⟨{ n := _, env := [], obs := [(i, pOb l q')], next := nx }, (Wk.cut rfl (by simp [hn]) (by simp [wkO, zaa, getK, zab, zac, Ob.under, D.under, zad, zaf, hi, hne, zab, zac, zaa, getK]) (by simp [wkU, zap, zaa, getK, D.under, hi, hne, zab, zac, zaa, getK]) (by simp [wkE, zap, zaa, getK, hi, hne, zab, zac, zaa, getK])), by simp [hn], ?_⟩; try simp)
     exact PPost.zbn (by simp [PR.bind, *])
    | ok v3 q3 =>
     simp only [hr3] at hw2
     obtain ⟨g3a, g3b⟩ := zb3 hl _ hr3 g2b
     have hc := fun nx' (h : nx ≤ nx') => hE q3 0 i nx' (by omega) g3b (by omega) (by omega) (by omega)
     cases hr4 : zeM l f q3 0 with
     | stop pos e =>
      simp only [hr4] at hc
      (refine RetX.of_bodyW Tryd.func67 rfl (by simp) fun Γ hn hpan => ?_); simp only [entry, List.zipIdx_cons, List.zipIdx_nil, List.map_cons, List.map_nil, Nat.zero_add, Tryd.ntmps67]
      repeat' (first
  | (refine zfX (fun nx' h' => hc nx' (by simp at h'; omega)) (by first | (simp [hne, hf0, hf3, del, Nat.add_assoc, zaa, getK, zab, zac, zaj, zat]; done) | fail) (by rfl) (by first | assumption | simp) (by rfl) (by simp) ?_ ?_; rintro env' ob' n' hn' ⟨q', rfl⟩; refine ⟨_, Wk.refl _, ?_⟩)
  | (refine zfb rfl (by simp) ?_; simp)
  | (refine zah ?_; simp [hne, hf0, hf3, del, Nat.add_assoc])
  | (refine zbo rfl ?_; simp [hne, hf0, hf3, del, Nat.add_assoc])
  | (refine zak ?_; simp [hne, hf0, hf3, del, Nat.add_assoc])
  | (refine zai ?_; simp [hne, hf0, hf3, del, Nat.add_assoc])
  | (refine zag ?_; simp [hne, hf0, hf3, del, Nat.add_assoc])
  | (refine zdB (hC _ (zbg [i] nx (by simp <;> omega) (by simp <;> omega) (by apply Exists.intro; apply And.intro; (focus (repeat' (first | exact KF.nil | exact KL.nil | apply KF.cons | apply KL.cons 0 rfl | apply KL.cons 1 rfl | apply KL.cons 2 rfl | apply KL.cons 3 rfl | apply KL.cons 4 rfl | apply KL.cons 5 rfl | apply KL.cons 6 rfl | apply KL.cons 7 rfl | apply KL.cons 8 rfl | apply KL.cons 9 rfl))); kernel_rfl))) rfl; done)
  | (refine zbm rfl (by kernel_rfl) (by first | (simp [hn]; done) | (simp [hn]; omega) | fail) fun C k hC hk => ?_; simp [hne, hf0, hf3, del, Nat.add_assoc])
  | (refine CallP.ok1 (hh1 _ (by first | omega | (simp; done) | (simp; omega) | fail)) (by first | (simp [hne, hf0, hf3, del, Nat.add_assoc, zaa, getK, zab, zac]; done) | fail) (by rfl) (by first | assumption | (simp; done) | fail) (by rfl) (by simp) ?_; (try simp [hne, hf0, hf3, del, Nat.add_assoc]))
  | (refine CallP.ok1 (ha _ (by first | omega | (simp; done) | (simp; omega) | fail)) (by first | (simp [hne, hf0, hf3, del, Nat.add_assoc, zaa, getK, zab, zac]; done) | fail) (by rfl) (by first | assumption | (simp; done) | fail) (by rfl) (by simp) ?_; (try simp [hne, hf0, hf3, del, Nat.add_assoc]))
  | (refine CallP.ok1 (hw1 _ (by first | omega | (simp; done) | (simp; omega) | fail)) (by first | (simp [hne, hf0, hf3, del, Nat.add_assoc, zaa, getK, zab, zac]; done) | fail) (by rfl) (by first | assumption | (simp; done) | fail) (by rfl) (by simp) ?_; (try simp [hne, hf0, hf3, del, Nat.add_assoc]))
  | (refine CallP.ok1 (hb _ (by first | omega | (simp; done) | (simp; omega) | fail)) (by first | (simp [hne, hf0, hf3, del, Nat.add_assoc, zaa, getK, zab, zac]; done) | fail) (by rfl) (by first | assumption | (simp; done) | fail) (by rfl) (by simp) ?_; (try simp [hne, hf0, hf3, del, Nat.add_assoc]))
  | (refine CallP.ok1 (hw2 _ (by first | omega | (simp; done) | (simp; omega) | fail)) (by first | (simp [hne, hf0, hf3, del, Nat.add_assoc, zaa, getK, zab, zac]; done) | fail) (by rfl) (by first | assumption | (simp; done) | fail) (by rfl) (by simp) ?_; (try simp [hne, hf0, hf3, del, Nat.add_assoc]))
  | (refine za2 (by first | rfl | fail) ?_; simp [hne, hf0, hf3, del, Nat.add_assoc, frzN, frz1, zaV, zaU, St.frz, St.frzS, frzS, fv, zbH, zbJ, zbK, zaY, zaF, zaA, del, frz, zb2])
  | fail)
      (refine hpan _ _ ⟨{ n := _, env := [], obs := [(i, pOb l q')], next := nx }, (Wk.cut rfl (by simp [hn]) (by simp [wkO, zaa, getK, zab, zac, Ob.under, D.under, zad, zaf, hi, hne, zab, zac, zaa, getK]) (by simp [wkU, zap, zaa, getK, D.under, hi, hne, zab, zac, zaa, getK]) (by simp [wkE, zap, zaa, getK, hi, hne, zab, zac, zaa, getK])), by simp [hn], ?_⟩; try simp)
      exact PPost.zbn (by simp [PR.bind, *])
     | ok v4 q4 =>
      have hc := fun nx' h => zdr (hc nx' h) hr4
      obtain ⟨g4a, g4b⟩ := (zcD hl f).1 _ _ _ _ hr4 g3b
      (refine RetX.of_bodyW Tryd.func67 rfl (by simp) fun Γ hn hpan => ?_); simp only [entry, List.zipIdx_cons, List.zipIdx_nil, List.map_cons, List.map_nil, Nat.zero_add, Tryd.ntmps67]
      repeat' (first
  | (refine zh3 (fun nx' h' => hc nx' (by simp at h'; omega)) (by first | (simp [hne, hf0, hf3, del, Nat.add_assoc, zaa, getK, zab, zac, zaj, zat]; done) | fail) (by rfl) (by first | assumption | simp) (by rfl) (by simp [D.under, Ob.under]) (by simp) ?_; (try simp [hne, hf0, hf3, del, Nat.add_assoc]))
  | (refine zah ?_; simp [hne, hf0, hf3, del, Nat.add_assoc])
  | (refine zbo rfl ?_; simp [hne, hf0, hf3, del, Nat.add_assoc])
  | (refine zd7 rfl ?_; simp [hne, hf0, hf3, del, Nat.add_assoc])
  | (refine zak ?_; simp [hne, hf0, hf3, del, Nat.add_assoc])
  | (refine zai ?_; simp [hne, hf0, hf3, del, Nat.add_assoc])
  | (refine zag ?_; simp [hne, hf0, hf3, del, Nat.add_assoc])
  | (refine zb1 (hC _ (zbg [i] nx (by simp <;> omega) (by simp <;> omega) (by apply Exists.intro; apply And.intro; (focus (repeat' (first | exact KF.nil | exact KL.nil | apply KF.cons | apply KL.cons 0 rfl | apply KL.cons 1 rfl | apply KL.cons 2 rfl | apply KL.cons 3 rfl | apply KL.cons 4 rfl | apply KL.cons 5 rfl | apply KL.cons 6 rfl | apply KL.cons 7 rfl | apply KL.cons 8 rfl | apply KL.cons 9 rfl))); kernel_rfl))) (hk _ ?_); clear hC hk C k; simp only [zal])
  | (refine zbm rfl (by kernel_rfl) (by first | (simp [hn]; done) | (simp [hn]; omega) | fail) fun C k hC hk => ?_; simp [hne, hf0, hf3, del, Nat.add_assoc])
  | (refine zar ?_; simp only [zal])
  | (refine CallP.ok1 (hh1 _ (by first | omega | (simp; done) | (simp; omega) | fail)) (by first | (simp [hne, hf0, hf3, del, Nat.add_assoc, zaa, getK, zab, zac]; done) | fail) (by rfl) (by first | assumption | (simp; done) | fail) (by rfl) (by simp) ?_; (try simp [hne, hf0, hf3, del, Nat.add_assoc]))
  | (refine CallP.ok1 (ha _ (by first | omega | (simp; done) | (simp; omega) | fail)) (by first | (simp [hne, hf0, hf3, del, Nat.add_assoc, zaa, getK, zab, zac]; done) | fail) (by rfl) (by first | assumption | (simp; done) | fail) (by rfl) (by simp) ?_; (try simp [hne, hf0, hf3, del, Nat.add_assoc]))
  | (refine CallP.ok1 (hw1 _ (by first | omega | (simp; done) | (simp; omega) | fail)) (by first | (simp [hne, hf0, hf3, del, Nat.add_assoc, zaa, getK, zab, zac]; done) | fail) (by rfl) (by first | assumption | (simp; done) | fail) (by rfl) (by simp) ?_; (try simp [hne, hf0, hf3, del, Nat.add_assoc]))
  | (refine CallP.ok1 (hb _ (by first | omega | (simp; done) | (simp; omega) | fail)) (by first | (simp [hne, hf0, hf3, del, Nat.add_assoc, zaa, getK, zab, zac]; done) | fail) (by rfl) (by first | assumption | (simp; done) | fail) (by rfl) (by simp) ?_; (try simp [hne, hf0, hf3, del, Nat.add_assoc]))
  | (refine CallP.ok1 (hw2 _ (by first | omega | (simp; done) | (simp; omega) | fail)) (by first | (simp [hne, hf0, hf3, del, Nat.add_assoc, zaa, getK, zab, zac]; done) | fail) (by rfl) (by first | assumption | (simp; done) | fail) (by rfl) (by simp) ?_; (try simp [hne, hf0, hf3, del, Nat.add_assoc]))
  | (refine za2 (by first | rfl | fail) ?_; simp [hne, hf0, hf3, del, Nat.add_assoc, frzN, frz1, zaV, zaU, St.frz, St.frzS, frzS, fv, zbH, zbJ, zbK, zaY, zaF, zaA, del, frz, zb2])
  | fail)
      (refine EndW.frzN 1 ?_; simp [frzN, frz1, zaV, zaU, St.frz, St.frzS, frzS, fv, zbH, zbJ, zbK, zaY, zaF, zaA, del, frz, zb2, hne, Nat.add_assoc])
      refine EndW.norm ?_
      simp [St.norm, zbq, zcf, zcy, zcz, hne, Nat.add_assoc]
      (refine EndW.here ?_; (first | (refine EndOK.fin (.inr rfl) ?_) | (refine EndOK.fin (.inl rfl) ?_)); simp [zay, zae, Tryd.results67, hne, hi]; refine FinOK.cut [(i, pOb l q4)] (nx) (by simp [zaa, getK, zab, zac, Ob.under, D.under, zad, zaf, hne, hi] <;> omega) (by simp [D.under]) (by simp [hn]) ?_; try simp)
      exact PPost.zdF (by simp [PR.bind, *]; rfl) (by simp [Exp.row_eq, Exp.op, Exp.n, Exp.unit, Exp.s, Exp.args]) rfl
theorem zjx {l : List Tok} (hl : TokOK l) {f p : Nat} {form : Int} (hE : zgB l f) (hp : p < l.length) (hf : 4 * (l.length - p) + 1 ≤ f)
  (hf0 : form = 0) (hf3 : form ≤ 3) (h1 : isB l p [105, 102] = false) (h2 : isB l p [110, 111, 116] = true) {i nx : Nat} (hi : i < nx) :
  RetX Tryd.prog 67 [.ptr i 0, zmX form] [(i, pOb l p)] nx (PPost l i nx ziD (zbZ l (f + 1) p form)) := by
 have hne := zbh hi
 have hll := hl.len
 rw [zbZ]
 have hh1 := fun nx' (h : nx ≤ nx') => zbE l p [105, 102] i nx' (by omega) hp hl.len
 rw [h1] at hh1
 simp only [if_true, Bool.false_eq_true, if_false] at hh1
 have hp2 := zcB hl h2
 have hh2 := fun nx' (h : nx ≤ nx') => zbE l p [110, 111, 116] i nx' (by omega) hp hl.len
 rw [h2] at hh2
 simp only [if_true, Bool.false_eq_true, if_false] at hh2
 rw [if_neg (by simp [*]), if_pos ⟨hf3, h2⟩]
 have ha := fun nx' (h : nx ≤ nx') => hE (p + 1) 3 i nx' (by omega) hp2 (by omega) (by omega) (by omega)
 cases hr0 : zeM l f (p + 1) 3 with
 | stop pos e =>
  simp only [hr0] at ha
  (refine RetX.of_bodyW Tryd.func67 rfl (by simp) fun Γ hn hpan => ?_); simp only [entry, List.zipIdx_cons, List.zipIdx_nil, List.map_cons, List.map_nil, Nat.zero_add, Tryd.ntmps67]
  repeat' (first
  | (refine zah ?_; simp [hne, hf0, hf3, del, Nat.add_assoc])
  | (refine zak ?_; simp [hne, hf0, hf3, del, Nat.add_assoc])
  | (refine zai ?_; simp [hne, hf0, hf3, del, Nat.add_assoc])
  | (refine zag ?_; simp [hne, hf0, hf3, del, Nat.add_assoc])
  | (refine zaq ?_; simp only [zal])
  | (refine CallP.ok1 (hh1 _ (by first | omega | (simp; done) | (simp; omega) | fail)) (by first | (simp [hne, hf0, hf3, del, Nat.add_assoc, zaa, getK, zab, zac]; done) | fail) (by rfl) (by first | assumption | (simp; done) | fail) (by rfl) (by simp) ?_; (try simp [hne, hf0, hf3, del, Nat.add_assoc]))
  | (refine CallP.ok1 (hh2 _ (by first | omega | (simp; done) | (simp; omega) | fail)) (by first | (simp [hne, hf0, hf3, del, Nat.add_assoc, zaa, getK, zab, zac]; done) | fail) (by rfl) (by first | assumption | (simp; done) | fail) (by rfl) (by simp) ?_; (try simp [hne, hf0, hf3, del, Nat.add_assoc]))
  | (refine CallP.zfc (ha _ (by first | omega | (simp; done) | (simp; omega) | fail)) (by first | (simp [hne, hf0, hf3, del, Nat.add_assoc, zaa, getK, zab, zac]; done) | fail) (by rfl) (by first | assumption | (simp; done) | fail) (by rfl) (by simp) ?_; rintro ob' ⟨q', rfl⟩; refine ⟨_, Wk.refl _, ?_⟩)
  | fail)
  (refine hpan _ _ ⟨{ n := _, env := [], obs := [(i, pOb l q')], next := nx }, (Wk.cut rfl (by simp [hn]) (by simp [wkO, zaa, getK, zab, zac, Ob.under, D.under, zad, zaf, hi, hne, zab, zac, zaa, getK]) (by simp [wkU, zap, zaa, getK, D.under, hi, hne, zab, zac, zaa, getK]) (by simp [wkE, zap, zaa, getK, hi, hne, zab, zac, zaa, getK])), by simp [hn], ?_⟩; try simp)
  exact PPost.zbn (by simp [PR.bind, *])
 | ok v0 q0 =>
  have ha := fun nx' h => zdr (ha nx' h) hr0
  (refine RetX.of_bodyW Tryd.func67 rfl (by simp) fun Γ hn hpan => ?_); simp only [entry, List.zipIdx_cons, List.zipIdx_nil, List.map_cons, List.map_nil, Nat.zero_add, Tryd.ntmps67]
  repeat' (first
  | (refine zah ?_; simp [hne, hf0, hf3, del, Nat.add_assoc])
  | (refine zak ?_; simp [hne, hf0, hf3, del, Nat.add_assoc])
  | (refine zai ?_; simp [hne, hf0, hf3, del, Nat.add_assoc])
  | (refine zag ?_; simp [hne, hf0, hf3, del, Nat.add_assoc])
  | (refine zar ?_; simp only [zal])
  | (refine zaq ?_; simp only [zal])
  | (refine CallP.ok1 (hh1 _ (by first | omega | (simp; done) | (simp; omega) | fail)) (by first | (simp [hne, hf0, hf3, del, Nat.add_assoc, zaa, getK, zab, zac]; done) | fail) (by rfl) (by first | assumption | (simp; done) | fail) (by rfl) (by simp) ?_; (try simp [hne, hf0, hf3, del, Nat.add_assoc]))
  | (refine CallP.ok1 (hh2 _ (by first | omega | (simp; done) | (simp; omega) | fail)) (by first | (simp [hne, hf0, hf3, del, Nat.add_assoc, zaa, getK, zab, zac]; done) | fail) (by rfl) (by first | assumption | (simp; done) | fail) (by rfl) (by simp) ?_; (try simp [hne, hf0, hf3, del, Nat.add_assoc]))
  | (refine CallP.ok1 (ha _ (by first | omega | (simp; done) | (simp; omega) | fail)) (by first | (simp [hne, hf0, hf3, del, Nat.add_assoc, zaa, getK, zab, zac]; done) | fail) (by rfl) (by first | assumption | (simp; done) | fail) (by rfl) (by simp) ?_; (try simp [hne, hf0, hf3, del, Nat.add_assoc]))
  | fail)
  (refine EndW.frzN 1 ?_; simp [frzN, frz1, zaV, zaU, St.frz, St.frzS, frzS, fv, zbH, zbJ, zbK, zaY, zaF, zaA, del, frz, zb2, hne, Nat.add_assoc])
  refine EndW.norm ?_
  simp [St.norm, zbq, zcf, zcy, zcz, hne, Nat.add_assoc]
  (refine EndW.here ?_; (first | (refine EndOK.fin (.inr rfl) ?_) | (refine EndOK.fin (.inl rfl) ?_)); simp [zay, zae, Tryd.results67, hne, hi]; refine FinOK.cut [(i, pOb l q0)] (nx) (by simp [zaa, getK, zab, zac, Ob.under, D.under, zad, zaf, hne, hi] <;> omega) (by simp [D.under]) (by simp [hn]) ?_; try simp)
  exact PPost.zdF (by simp [PR.bind, *]; rfl) (by simp [Exp.row_eq, Exp.op, Exp.n, Exp.unit, Exp.s, Exp.args]) rfl
theorem zjw {l : List Tok} (hl : TokOK l) {f p : Nat} {form : Int} (hE : zgB l f) (hp : p < l.length) (hf : 4 * (l.length - p) + 1 ≤ f)
  (hf0 : ¬ form = 0) (hf3 : form ≤ 3) (h2 : isB l p [110, 111, 116] = true) {i nx : Nat} (hi : i < nx) :
  RetX Tryd.prog 67 [.ptr i 0, zmX form] [(i, pOb l p)] nx (PPost l i nx ziD (zbZ l (f + 1) p form)) := by
 have hne := zbh hi
 have hll := hl.len
 rw [zbZ]
 have hp2 := zcB hl h2
 have hh2 := fun nx' (h : nx ≤ nx') => zbE l p [110, 111, 116] i nx' (by omega) hp hl.len
 rw [h2] at hh2
 simp only [if_true, Bool.false_eq_true, if_false] at hh2
 rw [if_neg (by simp [*]), if_pos ⟨hf3, h2⟩]
 have ha := fun nx' (h : nx ≤ nx') => hE (p + 1) 3 i nx' (by omega) hp2 (by omega) (by omega) (by omega)
 cases hr0 : zeM l f (p + 1) 3 with
 | stop pos e =>
  simp only [hr0] at ha
  (refine RetX.of_bodyW Tryd.func67 rfl (by simp) fun Γ hn hpan => ?_); simp only [entry, List.zipIdx_cons, List.zipIdx_nil, List.map_cons, List.map_nil, Nat.zero_add, Tryd.ntmps67]
  repeat' (first
  | (refine zah ?_; simp [hne, hf0, hf3, del, Nat.add_assoc])
  | (refine zak ?_; simp [hne, hf0, hf3, del, Nat.add_assoc])
  | (refine zai ?_; simp [hne, hf0, hf3, del, Nat.add_assoc])
  | (refine zag ?_; simp [hne, hf0, hf3, del, Nat.add_assoc])
  | (refine zaq ?_; simp only [zal])
  | (refine CallP.ok1 (hh2 _ (by first | omega | (simp; done) | (simp; omega) | fail)) (by first | (simp [hne, hf0, hf3, del, Nat.add_assoc, zaa, getK, zab, zac]; done) | fail) (by rfl) (by first | assumption | (simp; done) | fail) (by rfl) (by simp) ?_; (try simp [hne, hf0, hf3, del, Nat.add_assoc]))
  | (refine CallP.zfc (ha _ (by first | omega | (simp; done) | (simp; omega) | fail)) (by first | (simp [hne, hf0, hf3, del, Nat.add_assoc, zaa, getK, zab, zac]; done) | fail) (by rfl) (by first | assumption | (simp; done) | fail) (by rfl) (by simp) ?_; rintro ob' ⟨q', rfl⟩; refine ⟨_, Wk.refl _, ?_⟩)
  | fail)
  (refine hpan _ _ ⟨{ n := _, env := [], obs := [(i, pOb l q')], next := nx }, (Wk.cut rfl (by simp [hn]) (by simp [wkO, zaa, getK, zab, zac, Ob.under, D.under, zad, zaf, hi, hne, zab, zac, zaa, getK]) (by simp [wkU, zap, zaa, getK, D.under, hi, hne, zab, zac, zaa, getK]) (by simp [wkE, zap, zaa, getK, hi, hne, zab, zac, zaa, getK])), by simp [hn], ?_⟩; try simp)
  exact PPost.zbn (by simp [PR.bind, *])
 | ok v0 q0 =>
  have ha := fun nx' h => zdr (ha nx' h) hr0
  (refine RetX.of_bodyW Tryd.func67 rfl (by simp) fun Γ hn hpan => ?_); simp only [entry, List.zipIdx_cons, List.zipIdx_nil, List.map_cons, List.map_nil, Nat.zero_add, Tryd.ntmps67]
  repeat' (first
  | (refine zah ?_; simp [hne, hf0, hf3, del, Nat.add_assoc])
  | (refine zak ?_; simp [hne, hf0, hf3, del, Nat.add_assoc])
  | (refine zai ?_; simp [hne, hf0, hf3, del, Nat.add_assoc])
  | (refine zag ?_; simp [hne, hf0, hf3, del, Nat.add_assoc])
  | (refine zar ?_; simp only [zal])
  | (refine zaq ?_; simp only [zal])
  | (refine CallP.ok1 (hh2 _ (by first | omega | (simp; done) | (simp; omega) | fail)) (by first | (simp [hne, hf0, hf3, del, Nat.add_assoc, zaa, getK, zab, zac]; done) | fail) (by rfl) (by first | assumption | (simp; done) | fail) (by rfl) (by simp) ?_; (try simp [hne, hf0, hf3, del, Nat.add_assoc]))
  | (refine CallP.ok1 (ha _ (by first | omega | (simp; done) | (simp; omega) | fail)) (by first | (simp [hne, hf0, hf3, del, Nat.add_assoc, zaa, getK, zab, zac]; done) | fail) (by rfl) (by first | assumption | (simp; done) | fail) (by rfl) (by simp) ?_; (try simp [hne, hf0, hf3, del, Nat.add_assoc]))
  | fail)
  (refine EndW.frzN 1 ?_; simp [frzN, frz1, zaV, zaU, St.frz, St.frzS, frzS, fv, zbH, zbJ, zbK, zaY, zaF, zaA, del, frz, zb2, hne, Nat.add_assoc])
  refine EndW.norm ?_
  simp [St.norm, zbq, zcf, zcy, zcz, hne, Nat.add_assoc]
  (refine EndW.here ?_; (first | (refine EndOK.fin (.inr rfl) ?_) | (refine EndOK.fin (.inl rfl) ?_)); simp [zay, zae, Tryd.results67, hne, hi]; refine FinOK.cut [(i, pOb l q0)] (nx) (by simp [zaa, getK, zab, zac, Ob.under, D.under, zad, zaf, hne, hi] <;> omega) (by simp [D.under]) (by simp [hn]) ?_; try simp)
  exact PPost.zdF (by simp [PR.bind, *]; rfl) (by simp [Exp.row_eq, Exp.op, Exp.n, Exp.unit, Exp.s, Exp.args]) rfl
theorem zix {l : List Tok} (hl : TokOK l) {f p : Nat} {form : Int} (hP : zhm l f) (hp : p < l.length) (hf : 4 * (l.length - p) + 1 ≤ f)
  (hf0 : form = 0) (hf3 : form ≤ 3) (h1 : isB l p [105, 102] = false) (h2 : isB l p [110, 111, 116] = false) {i nx : Nat} (hi : i < nx) :
  RetX Tryd.prog 67 [.ptr i 0, zmX form] [(i, pOb l p)] nx (PPost l i nx ziD (zbZ l (f + 1) p form)) := by
 have hne := zbh hi
 have hll := hl.len
 rw [zbZ]
 have hh1 := fun nx' (h : nx ≤ nx') => zbE l p [105, 102] i nx' (by omega) hp hl.len
 rw [h1] at hh1
 simp only [if_true, Bool.false_eq_true, if_false] at hh1
 have hh2 := fun nx' (h : nx ≤ nx') => zbE l p [110, 111, 116] i nx' (by omega) hp hl.len
 rw [h2] at hh2
 simp only [if_true, Bool.false_eq_true, if_false] at hh2
 rw [if_neg (by simp [*]), if_neg (by simp [*])]
 have ha := fun nx' (h : nx ≤ nx') => hP p i nx' (by omega) hp (by omega)
 cases hr0 : zbf l f p with
 | stop pos e =>
  simp only [hr0] at ha
  (refine RetX.of_bodyW Tryd.func67 rfl (by simp) fun Γ hn hpan => ?_); simp only [entry, List.zipIdx_cons, List.zipIdx_nil, List.map_cons, List.map_nil, Nat.zero_add, Tryd.ntmps67]
  repeat' (first
  | (refine zah ?_; simp [hne, hf0, hf3, del, Nat.add_assoc])
  | (refine zak ?_; simp [hne, hf0, hf3, del, Nat.add_assoc])
  | (refine zai ?_; simp [hne, hf0, hf3, del, Nat.add_assoc])
  | (refine zag ?_; simp [hne, hf0, hf3, del, Nat.add_assoc])
  | (refine zaq ?_; simp only [zal])
  | (refine CallP.ok1 (hh1 _ (by first | omega | (simp; done) | (simp; omega) | fail)) (by first | (simp [hne, hf0, hf3, del, Nat.add_assoc, zaa, getK, zab, zac]; done) | fail) (by rfl) (by first | assumption | (simp; done) | fail) (by rfl) (by simp) ?_; (try simp [hne, hf0, hf3, del, Nat.add_assoc]))
  | (refine CallP.ok1 (hh2 _ (by first | omega | (simp; done) | (simp; omega) | fail)) (by first | (simp [hne, hf0, hf3, del, Nat.add_assoc, zaa, getK, zab, zac]; done) | fail) (by rfl) (by first | assumption | (simp; done) | fail) (by rfl) (by simp) ?_; (try simp [hne, hf0, hf3, del, Nat.add_assoc]))
  | (refine CallP.zfc (ha _ (by first | omega | (simp; done) | (simp; omega) | fail)) (by first | (simp [hne, hf0, hf3, del, Nat.add_assoc, zaa, getK, zab, zac]; done) | fail) (by rfl) (by first | assumption | (simp; done) | fail) (by rfl) (by simp) ?_; rintro ob' ⟨q', rfl⟩; refine ⟨_, Wk.refl _, ?_⟩)
  | fail)
  (refine hpan _ _ ⟨{ n := _, env := [], obs := [(i, pOb l q')], next := nx }, (Wk.cut rfl (by simp [hn]) (by simp [wkO, zaa, getK, zab, zac, Ob.under, D.under, zad, zaf, hi, hne, zab, zac, zaa, getK]) (by simp [wkU, zap, zaa, getK, D.under, hi, hne, zab, zac, zaa, getK]) (by simp [wkE, zap, zaa, getK, hi, hne, zab, zac, zaa, getK])), by simp [hn], ?_⟩; try simp)
  exact PPost.zbn (by simp [PR.bind, *])
 | ok v0 q0 =>
  have ha := fun nx' h => zdr (ha nx' h) hr0
  (refine RetX.of_bodyW Tryd.func67 rfl (by simp) fun Γ hn hpan => ?_); simp only [entry, List.zipIdx_cons, List.zipIdx_nil, List.map_cons, List.map_nil, Nat.zero_add, Tryd.ntmps67]
  repeat' (first
  | (refine zah ?_; simp [hne, hf0, hf3, del, Nat.add_assoc])
  | (refine zak ?_; simp [hne, hf0, hf3, del, Nat.add_assoc])
  | (refine zai ?_; simp [hne, hf0, hf3, del, Nat.add_assoc])
  | (refine zag ?_; simp [hne, hf0, hf3, del, Nat.add_assoc])
  | (refine zar ?_; simp only [zal])
  | (refine zaq ?_; simp only [zal])
  | (refine CallP.ok1 (hh1 _ (by first | omega | (simp; done) | (simp; omega) | fail)) (by first | (simp [hne, hf0, hf3, del, Nat.add_assoc, zaa, getK, zab, zac]; done) | fail) (by rfl) (by first | assumption | (simp; done) | fail) (by rfl) (by simp) ?_; (try simp [hne, hf0, hf3, del, Nat.add_assoc]))
  | (refine CallP.ok1 (hh2 _ (by first | omega | (simp; done) | (simp; omega) | fail)) (by first | (simp [hne, hf0, hf3, del, Nat.add_assoc, zaa, getK, zab, zac]; done) | fail) (by rfl) (by first | assumption | (simp; done) | fail) (by rfl) (by simp) ?_; (try simp [hne, hf0, hf3, del, Nat.add_assoc]))
  | (refine CallP.ok1 (ha _ (by first | omega | (simp; done) | (simp; omega) | fail)) (by first | (simp [hne, hf0, hf3, del, Nat.add_assoc, zaa, getK, zab, zac]; done) | fail) (by rfl) (by first | assumption | (simp; done) | fail) (by rfl) (by simp) ?_; (try simp [hne, hf0, hf3, del, Nat.add_assoc]))
  | fail)
  refine EndW.norm ?_
  simp [St.norm, zbq, zcf, zcy, zcz, hne, Nat.add_assoc]
  (refine EndW.here ?_; (first | (refine EndOK.fin (.inr rfl) ?_) | (refine EndOK.fin (.inl rfl) ?_)); simp [zay, zae, Tryd.results67, hne, hi]; refine FinOK.cut [(i, pOb l q0)] (nx) (by simp [zaa, getK, zab, zac, Ob.under, D.under, zad, zaf, hne, hi] <;> omega) (by simp [D.under]) (by simp [hn]) ?_; try simp)
  exact PPost.zdF (by simp [PR.bind, *]; rfl) (by simp [Exp.row_eq, Exp.op, Exp.n, Exp.unit, Exp.s, Exp.args]) rfl
theorem ziw {l : List Tok} (hl : TokOK l) {f p : Nat} {form : Int} (hP : zhm l f) (hp : p < l.length) (hf : 4 * (l.length - p) + 1 ≤ f)
  (hf0 : ¬ form = 0) (hf3 : form ≤ 3) (h2 : isB l p [110, 111, 116] = false) {i nx : Nat} (hi : i < nx) :
  RetX Tryd.prog 67 [.ptr i 0, zmX form] [(i, pOb l p)] nx (PPost l i nx ziD (zbZ l (f + 1) p form)) := by
 have hne := zbh hi
 have hll := hl.len
 rw [zbZ]
 have hh2 := fun nx' (h : nx ≤ nx') => zbE l p [110, 111, 116] i nx' (by omega) hp hl.len
 rw [h2] at hh2
 simp only [if_true, Bool.false_eq_true, if_false] at hh2
 rw [if_neg (by simp [*]), if_neg (by simp [*])]
 have ha := fun nx' (h : nx ≤ nx') => hP p i nx' (by omega) hp (by omega)
 cases hr0 : zbf l f p with
 | stop pos e =>
  simp only [hr0] at ha
  (refine RetX.of_bodyW Tryd.func67 rfl (by simp) fun Γ hn hpan => ?_); simp only [entry, List.zipIdx_cons, List.zipIdx_nil, List.map_cons, List.map_nil, Nat.zero_add, Tryd.ntmps67]
  repeat' (first
  | (refine zah ?_; simp [hne, hf0, hf3, del, Nat.add_assoc])
  | (refine zak ?_; simp [hne, hf0, hf3, del, Nat.add_assoc])
  | (refine zai ?_; simp [hne, hf0, hf3, del, Nat.add_assoc])
  | (refine zag ?_; simp [hne, hf0, hf3, del, Nat.add_assoc])
  | (refine zaq ?_; simp only [zal])
  | (refine CallP.ok1 (hh2 _ (by first | omega | (simp; done) | (simp; omega) | fail)) (by first | (simp [hne, hf0, hf3, del, Nat.add_assoc, zaa, getK, zab, zac]; done) | fail) (by rfl) (by first | assumption | (simp; done) | fail) (by rfl) (by simp) ?_; (try simp [hne, hf0, hf3, del, Nat.add_assoc]))
  | (refine CallP.zfc (ha _ (by first | omega | (simp; done) | (simp; omega) | fail)) (by first | (simp [hne, hf0, hf3, del, Nat.add_assoc, zaa, getK, zab, zac]; done) | fail) (by rfl) (by first | assumption | (simp; done) | fail) (by rfl) (by simp) ?_; rintro ob' ⟨q', rfl⟩; refine ⟨_, Wk.refl _, ?_⟩)
  | fail)
  (refine hpan _ _ ⟨{ n := _, env := [], obs := [(i, pOb l q')], next := nx }, (Wk.cut rfl (by simp [hn]) (by simp [wkO, zaa, getK, zab, zac, Ob.under, D.under, zad, zaf, hi, hne, zab, zac, zaa, getK]) (by simp [wkU, zap, zaa, getK, D.under, hi, hne, zab, zac, zaa, getK]) (by simp [wkE, zap, zaa, getK, hi, hne, zab, zac, zaa, getK])), by simp [hn], ?_⟩; try simp)
  exact PPost.zbn (by simp [PR.bind, *])
 | ok v0 q0 =>
  have ha := fun nx' h => zdr (ha nx' h) hr0
  (refine RetX.of_bodyW Tryd.func67 rfl (by simp) fun Γ hn hpan => ?_); simp only [entry, List.zipIdx_cons, List.zipIdx_nil, List.map_cons, List.map_nil, Nat.zero_add, Tryd.ntmps67]
  repeat' (first
  | (refine zah ?_; simp [hne, hf0, hf3, del, Nat.add_assoc])
  | (refine zak ?_; simp [hne, hf0, hf3, del, Nat.add_assoc])
  | (refine zai ?_; simp [hne, hf0, hf3, del, Nat.add_assoc])
  | (refine zag ?_; simp [hne, hf0, hf3, del, Nat.add_assoc])
  | (refine zar ?_; simp only [zal])
  | (refine zaq ?_; simp only [zal])
  | (refine CallP.ok1 (hh2 _ (by first | omega | (simp; done) | (simp; omega) | fail)) (by first | (simp [hne, hf0, hf3, del, Nat.add_assoc, zaa, getK, zab, zac]; done) | fail) (by rfl) (by first | assumption | (simp; done) | fail) (by rfl) (by simp) ?_; (try simp [hne, hf0, hf3, del, Nat.add_assoc]))
  | (refine CallP.ok1 (ha _ (by first | omega | (simp; done) | (simp; omega) | fail)) (by first | (simp [hne, hf0, hf3, del, Nat.add_assoc, zaa, getK, zab, zac]; done) | fail) (by rfl) (by first | assumption | (simp; done) | fail) (by rfl) (by simp) ?_; (try simp [hne, hf0, hf3, del, Nat.add_assoc]))
  | fail)
  refine EndW.norm ?_
  simp [St.norm, zbq, zcf, zcy, zcz, hne, Nat.add_assoc]
  (refine EndW.here ?_; (first | (refine EndOK.fin (.inr rfl) ?_) | (refine EndOK.fin (.inl rfl) ?_)); simp [zay, zae, Tryd.results67, hne, hi]; refine FinOK.cut [(i, pOb l q0)] (nx) (by simp [zaa, getK, zab, zac, Ob.under, D.under, zad, zaf, hne, hi] <;> omega) (by simp [D.under]) (by simp [hn]) ?_; try simp)
  exact PPost.zdF (by simp [PR.bind, *]; rfl) (by simp [Exp.row_eq, Exp.op, Exp.n, Exp.unit, Exp.s, Exp.args]) rfl
theorem ziv {l : List Tok} (hl : TokOK l) {f p : Nat} {form : Int} (hP : zhm l f) (hp : p < l.length) (hf : 4 * (l.length - p) + 1 ≤ f)
  (hf0 : ¬ form = 0) (hf3 : ¬ form ≤ 3) {i nx : Nat} (hi : i < nx) :
  RetX Tryd.prog 67 [.ptr i 0, zmX form] [(i, pOb l p)] nx (PPost l i nx ziD (zbZ l (f + 1) p form)) := by
 have hne := zbh hi
 have hll := hl.len
 rw [zbZ]
 rw [if_neg (by simp [*]), if_neg (by simp [*])]
 have ha := fun nx' (h : nx ≤ nx') => hP p i nx' (by omega) hp (by omega)
 cases hr0 : zbf l f p with
 | stop pos e =>
  simp only [hr0] at ha
  (refine RetX.of_bodyW Tryd.func67 rfl (by simp) fun Γ hn hpan => ?_); simp only [entry, List.zipIdx_cons, List.zipIdx_nil, List.map_cons, List.map_nil, Nat.zero_add, Tryd.ntmps67]
  repeat' (first
  | (refine zah ?_; simp [hne, hf0, hf3, del, Nat.add_assoc])
  | (refine zak ?_; simp [hne, hf0, hf3, del, Nat.add_assoc])
  | (refine zai ?_; simp [hne, hf0, hf3, del, Nat.add_assoc])
  | (refine zag ?_; simp [hne, hf0, hf3, del, Nat.add_assoc])
  | (refine zaq ?_; simp only [zal])
  | (refine CallP.zfc (ha _ (by first | omega | (simp; done) | (simp; omega) | fail)) (by first | (simp [hne, hf0, hf3, del, Nat.add_assoc, zaa, getK, zab, zac]; done) | fail) (by rfl) (by first | assumption | (simp; done) | fail) (by rfl) (by simp) ?_; rintro ob' ⟨q', rfl⟩; refine ⟨_, Wk.refl _, ?_⟩)
  | fail)
  (refine hpan _ _ ⟨{ n := _, env := [], obs := [(i, pOb l q')], next := nx }, (Wk.cut rfl (by simp [hn]) (by simp [wkO, zaa, getK, zab, zac, Ob.under, D.under, zad, zaf, hi, hne, zab, zac, zaa, getK]) (by simp [wkU, zap, zaa, getK, D.under, hi, hne, zab, zac, zaa, getK]) (by simp [wkE, zap, zaa, getK, hi, hne, zab, zac, zaa, getK])), by simp [hn], ?_⟩; try simp)
  exact PPost.zbn (by simp [PR.bind, *])
 | ok v0 q0 =>
  have ha := fun nx' h => zdr (ha nx' h) hr0
  (refine RetX.of_bodyW Tryd.func67 rfl (by simp) fun Γ hn hpan => ?_); simp only [entry, List.zipIdx_cons, List.zipIdx_nil, List.map_cons, List.map_nil, Nat.zero_add, Tryd.ntmps67]
  repeat' (first
  | (refine zah ?_; simp [hne, hf0, hf3, del, Nat.add_assoc])
  | (refine zak ?_; simp [hne, hf0, hf3, del, Nat.add_assoc])
  | (refine zai ?_; simp [hne, hf0, hf3, del, Nat.add_assoc])
  | (refine zag ?_; simp [hne, hf0, hf3, del, Nat.add_assoc])
  | (refine zar ?_; simp only [zal])
  | (refine zaq ?_; simp only [zal])
  | (refine CallP.ok1 (ha _ (by first | omega | (simp; done) | (simp; omega) | fail)) (by first | (simp [hne, hf0, hf3, del, Nat.add_assoc, zaa, getK, zab, zac]; done) | fail) (by rfl) (by first | assumption | (simp; done) | fail) (by rfl) (by simp) ?_; (try simp [hne, hf0, hf3, del, Nat.add_assoc]))
  | fail)
  refine EndW.norm ?_
  simp [St.norm, zbq, zcf, zcy, zcz, hne, Nat.add_assoc]
  (refine EndW.here ?_; (first | (refine EndOK.fin (.inr rfl) ?_) | (refine EndOK.fin (.inl rfl) ?_)); simp [zay, zae, Tryd.results67, hne, hi]; refine FinOK.cut [(i, pOb l q0)] (nx) (by simp [zaa, getK, zab, zac, Ob.under, D.under, zad, zaf, hne, hi] <;> omega) (by simp [D.under]) (by simp [hn]) ?_; try simp)
  exact PPost.zdF (by simp [PR.bind, *]; rfl) (by simp [Exp.row_eq, Exp.op, Exp.n, Exp.unit, Exp.s, Exp.args]) rfl
theorem zjv {l : List Tok} (hl : TokOK l) {f : Nat} (hE : zgB l f) (hP : zhm l f) : zoY l (f + 1) := by
 intro p form i nx hi hp hf hm0 hm7
 have hf' : 4 * (l.length - p) + 1 ≤ f := by omega
 by_cases hf0 : form = 0
 ·have hf3 : form ≤ 3 := by omega
  cases h1 : isB l p [105, 102] with
  | true => exact zlQ hl hE hp hf' hf0 h1 hi
  | false =>
   cases h2 : isB l p [110, 111, 116] with
   | true => exact zjx hl hE hp hf' hf0 hf3 h1 h2 hi
   | false => exact zix hl hP hp hf' hf0 hf3 h1 h2 hi
 ·by_cases hf3 : form ≤ 3
  ·cases h2 : isB l p [110, 111, 116] with
   | true => exact zjw hl hE hp hf' hf0 hf3 h2 hi
   | false => exact ziw hl hP hp hf' hf0 hf3 h2 hi
  ·exact ziv hl hP hp hf' hf0 hf3 hi
end Go.Proofs.YtfcopibncpkdoaaDoor
namespace Go.Proofs.YtfcopibncpkdoaaDoor
open Go Go.VL
attribute [local simp] zcp zbN evPure opd uOf zaB St.put St.at getK binD binI binS binB nilD aggD zeJ ze8 lookD lookR zbT Go.VL.nextD zbY zfe zfd zev zbM mkV zaW zaP zaO zaN zcm zaM za1 zbc mapEff zcS zek Key.kk shiftI arith unD convD zcP loadD cellsAt fieldAddrD fieldD indexAddrD indexD sliceD cutD lenD minmaxD nilCheckD buildD fillD zbt zcq zdR setAll zcg zdy zbQ zeN zbO St.add zaC zbj rowsOf zcM zce zaj zac zaa za5 zcl zaH entry za4 za6 valD zbS zb7 zez zct zcu zbx zbs zav zaT za7 delAll effD St.effS zb9 zaQ zaI zca zaR zaK zby zaJ zaD zbz zb8 zbb zbw zaZ zbu zbv zat mkD zbk zbd zbB zav zbP D.ids Op.operands Call.operands za8 makeIfD typeAssertD ze6 zcH zcI zeR zbV IntKind.bits zch List.take_of_length_le List.range_succ
attribute [local irreducible] V G H HD HD2 zal Eff CallP CallV EndOK Fun Ret FinOK LoopI LoopW EndW
abbrev zpK (o : Opr) : D := .u (.agg [.str o.text, .int .i64 o.op, .int .i64 o.form])
abbrev zlU (l : List Opr) : U := .sl (l.map fun o => [.str o.text, .int .i64 o.op, .int .i64 o.form])
theorem zhG : Fun Tryd.prog 69 [] (· = .u (zlU oprs)) := by
 unfold zlU oprs
 (refine Fun.of_bodyW Tryd.func69 rfl (by simp) fun Γ hn => ?_); simp only [entry, List.zipIdx_cons, List.zipIdx_nil, List.map_cons, List.map_nil, Nat.zero_add, Tryd.ntmps69]
 repeat' (first
  | (refine zah ?_; simp [za6, za4])
  | (refine zak ?_; simp [za6, za4])
  | (refine zai ?_; simp [za6, za4])
  | (refine zar ?_; simp only [zal])
  | fail)
 (refine EndW.frzN 1 ?_; simp [frzN, frz1, zaV, zaU, St.frz, St.frzS, frzS, fv, zbH, zbJ, zbK, zaY, zaF, zaA, del, frz, zb2])
 refine EndW.here ?_
 (refine EndOK.val (.inr rfl) ?_; simp [zay, zae, zau, Tryd.results69])
theorem zny (l : List Tok) (q : Nat) (o : Opr) (hq : q < l.length) (hl : l.length ≤ 1000000) : Fun Tryd.prog 70 (zpK o :: [U.row [znY l q] 0].map .u) (· = .u (.bool (isB l q o.text))) := by
 have h1 := zey l q o.text hq hl
 simp only [List.map_cons, List.map_nil, zpK]
 (refine Fun.of_body Tryd.func70 rfl (by simp) fun Γ hn => ?_); simp only [entry, List.zipIdx_cons, List.zipIdx_nil, List.map_cons, List.map_nil, Nat.zero_add, Tryd.ntmps70]
 repeat' (first
  | (refine zah ?_; simp)
  | (refine zak ?_; simp)
  | (refine zai ?_; simp)
  | (refine zar ?_; simp only [zal])
  | (refine CallP.fun_ (h1) (by first | rfl | fail) (by first | assumption | (simp; done) | fail) (by first | (simp; done) | (simp; rfl) | fail) (by first | (simp; done) | fail) (fun d hd => ?_); subst hd; (try simp))
  | fail)
 (refine EndOK.val (.inr rfl) ?_; simp [zay, zae, zau, Tryd.results70])
theorem zk5 (l : List (Opr)) (f : FuncId) (caps : List U) (p : Opr → Bool) (hf : ∀ n ∈ l, Fun Tryd.prog f (zpK n :: caps.map .u) (· = .u (.bool (p n)))) (hcl : zao Tryd.prog f = true)
  (hca : ∀ o, zb7 o (caps.map .u) = some (caps.map .u, [])) : Fun Tryd.prog 68 [.u (zlU l), .fnc (.func f) (caps.map .u)] (· = .u (.int .i64 (zg9 p l 0))) := by
 (refine Fun.of_body Tryd.func68 rfl (by simp) fun Γ hn => ?_); simp only [entry, List.zipIdx_cons, List.zipIdx_nil, List.map_cons, List.map_nil, Nat.zero_add, Tryd.ntmps68]
 simp only [zlU]
 refine zfJ (x := 0) rfl fun hl => ?_
 simp at hl
 repeat' (first
  | (refine zah ?_; simp)
  | (refine zak ?_; simp)
  | (refine zai ?_; simp)
  | (refine zam ?_; simp)
  | fail)
 refine zbG (α := { i : Nat // i ≤ l.length ∧ ∀ c ∈ l.take i, p c = false }) [0, 1, 7] (fun i => [(8, .u (.int .i64 i.1))]) (fun i => l.length - i.1) ⟨0, by omega, by simp⟩ ?_ ?_
 ·exact (Wk.env rfl rfl rfl (by simp [wkE, St.lp, zap, zaa, getK] <;> (try (intros; simp_all; done)) <;> (try (intros; omega)) <;> (try grind)))
 rintro ⟨i, hi, hb⟩
 simp [St.lp, St.only, zap, zaa, getK]
 rcases hx : l[i]? with _ | n
 ·have hge : l.length ≤ i := by simpa using hx
  repeat' (first
  | (refine zah ?_; simp [hx])
  | (refine zak ?_; simp [hx])
  | (refine ⟨by omega, ?_⟩)
  | (refine zai ?_; simp [hx])
  | (refine zar ?_; simp only [zal])
  | (refine zba ?_; simp [zal])
  | (intro hc <;> (try (exfalso; omega)))
  | fail)
  (refine EndOK.val (.inr rfl) ?_; simp [zay, zae, zau, Tryd.results68])
  rw [List.take_of_length_le hge] at hb
  exact (zeY hb).symm
 ·have hlt : i < l.length := (List.getElem?_eq_some_iff.1 hx).1
  have h1 := hf n (List.mem_of_getElem? hx)
  simp only [zpK] at h1
  cases hp : p n
  ·rw [hp] at h1
   repeat' (first
  | (refine zah ?_; simp [hx, hca])
  | (refine zak ?_; simp [hx, hca])
  | (refine ⟨by omega, ?_⟩)
  | (refine zai ?_; simp [hx, hca])
  | (refine zag ?_; simp [hx, hca])
  | (refine zas ?_; simp [hx, hca])
  | (refine zaq ?_; simp only [zal])
  | (refine ⟨?_, by omega⟩)
  | (intro hc <;> (try (exfalso; omega)))
  | (refine CallP.fun_ (h1) (by first | rfl | fail) (by first | assumption | (simp; done) | fail) (by first | (simp [hx, hca]; done) | (simp [hx, hca]; rfl) | fail) (by first | (simp; done) | fail) (fun d hd => ?_); subst hd; (try simp [hx, hca]))
  | fail)
   refine LoopW.next ⟨i + 1, by omega, zaG hx hb hp⟩ (by simp; omega) ?_
   exact (Wk.env rfl rfl rfl (by simp [wkE, St.lp, zap, zaa, getK] <;> (try (intros; simp_all; done)) <;> (try (intros; omega)) <;> (try grind)))
  ·rw [hp] at h1
   repeat' (first
  | (refine zah ?_; simp [hx, hca])
  | (refine zak ?_; simp [hx, hca])
  | (refine zai ?_; simp [hx, hca])
  | (refine zag ?_; simp [hx, hca])
  | (refine zar ?_; simp only [zal])
  | (refine zaq ?_; simp only [zal])
  | (refine ⟨?_, by omega⟩)
  | (intro hc <;> (try (exfalso; omega)))
  | (refine CallP.fun_ (h1) (by first | rfl | fail) (by first | assumption | (simp; done) | fail) (by first | (simp [hx, hca]; done) | (simp [hx, hca]; rfl) | fail) (by first | (simp; done) | fail) (fun d hd => ?_); subst hd; (try simp [hx, hca]))
  | fail)
   (refine EndOK.val (.inr rfl) ?_; simp [zay, zae, zau, Tryd.results68])
   rw [zhR hb hx hp]
   omega
theorem zgl {p : Opr → Bool} : ∀ (L : List Opr) (k : Int), (L.find? p = none → zg9 p L k = -1) ∧ ∀ x, L.find? p = some x → ∃ j : Nat, L[j]? = some x ∧ zg9 p L k = k + j
 | [], k => ⟨fun _ => rfl, fun x h => by simp at h⟩
 | a :: L, k => by
  by_cases h : p a = true
  ·refine ⟨fun h1 => by simp [h] at h1, fun x h1 => ?_⟩
   rw [List.find?_cons, h] at h1
   cases h1
   exact ⟨0, rfl, by rw [zg9, if_pos h]; simp⟩
  ·have h' : p a = false := by simpa using h
   obtain ⟨h1, h2⟩ := zgl L (k + 1)
   refine ⟨fun h3 => ?_, fun x h3 => ?_⟩
   ·rw [List.find?_cons, h'] at h3
    rw [zg9, if_neg h]
    exact h1 h3
   ·rw [List.find?_cons, h'] at h3
    obtain ⟨j, h4, h5⟩ := h2 x h3
    exact ⟨j + 1, h4, by rw [zg9, if_neg h, h5]; omega⟩
theorem zk4 (l : List Tok) (q : Nat) (hq : q < l.length) (hl : l.length ≤ 1000000) : Fun Tryd.prog 68 [.u (zlU oprs), .fnc (.func 70) [.u (.row [znY l q] 0)]]
  (· = .u (.int .i64 (zg9 (fun o => isB l q o.text) oprs 0))) :=
 zk5 oprs 70 [U.row [znY l q] 0] (fun o => isB l q o.text) (fun o _ => zny l q o hq hl) rfl (fun o => rfl)
end Go.Proofs.YtfcopibncpkdoaaDoor
namespace Go.Proofs.YtfcopibncpkdoaaDoor
open Go Go.VL
attribute [local simp] HS zcp zbN evPure opd uOf zaB St.put St.at getK binD binI binS binB nilD aggD zeJ ze8 lookD lookR zbT Go.VL.nextD zbY zfe zfd zev zbM mkV zaW zaP zaO zaN zcm zaM za1 zbc mapEff zcS zek Key.kk shiftI arith unD convD zcP loadD cellsAt fieldAddrD fieldD indexAddrD indexD sliceD cutD lenD minmaxD nilCheckD buildD fillD zbt zcq zdR setAll zcg zdy zbQ zeN zbO St.add zaC zbj rowsOf zcM zce zaj zac zaa za5 zcl zaH entry za4 za6 valD zbS zb7 zez zct zcu zbx zbs zav zaT za7 delAll effD St.effS zb9 zaQ zaI zca zaR zaK zby zaJ zaD zbz zb8 zbb zbw zaZ zbu zbv zat mkD zbk zbd zbB zav zbP D.ids Op.operands Call.operands za8 makeIfD typeAssertD ze6 zcH zcI zeR zbV IntKind.bits zch List.take_of_length_le List.range_succ
attribute [local irreducible] V G H HD HD2 HD4 zhn RetX zal Eff CallP CallV EndOK Fun Ret FinOK LoopI LoopW EndW
theorem zpj {l : List Tok} {F : FuncId} {r : PR (Exp × Int)} {e : Exp × Int} {q i nx : Nat} {ds : List D} {obs : List (Nat × Ob)} (h : RetX Tryd.prog F ds obs nx (PPost l i nx ziD r)) (hr : r = .ok e q) :
  RetX Tryd.prog F ds obs nx fun r o n => r = .val (.tup [.u (.agg [.int .i64 e.1.op, .int .i64 e.1.n, .int .i64 e.1.unit, .str e.1.s, .sl (e.1.args.map Exp.row)]), .u (.int .i64 e.2)]) ∧ o = [(i, pOb l q)] ∧ n = nx := by
 subst hr
 rw [← Exp.row_eq]
 exact h
abbrev zqq (e : Exp) : Ob := .box [.u (.int .i64 e.op), .u (.int .i64 e.n), .u (.int .i64 e.unit), .u (.str e.s), .u (.sl (e.args.map Exp.row))]
theorem znx {l : List Tok} (hl : TokOK l) {f : Nat} (hE : ∀ g, g < f → zgB l g) (hP : zoY l f) : zgB l (f + 1) := by
 intro p form i nx hi hp hf hm0 hm7
 have hne := zbh hi
 have hll := hl.len
 rw [zeM]
 have ha := fun nx' (h : nx ≤ nx') => hP p form i nx' (by omega) hp (by omega) hm0 hm7
 have hop := zhG
 cases hr0 : zbZ l f p form with
 | stop pos e =>
  simp only [hr0] at ha
  (refine RetX.of_bodyW Tryd.func41 rfl (by simp) fun Γ hn hpan => ?_); simp only [entry, List.zipIdx_cons, List.zipIdx_nil, List.map_cons, List.map_nil, Nat.zero_add, Tryd.ntmps41]
  repeat' (first
  | (refine zah ?_; simp [hne, del, Nat.add_assoc])
  | (refine zak ?_; simp [hne, del, Nat.add_assoc])
  | (refine zai ?_; simp [hne, del, Nat.add_assoc])
  | (refine CallP.zfc (ha _ (by first | omega | (simp; done) | (simp; omega) | fail)) (by first | (simp [hne, del, Nat.add_assoc, zaa, getK, zab, zac]; done) | fail) (by rfl) (by first | assumption | (simp; done) | fail) (by rfl) (by simp) ?_; rintro ob' ⟨q', rfl⟩; refine ⟨_, Wk.refl _, ?_⟩)
  | fail)
  (refine hpan _ _ ⟨{ n := _, env := [], obs := [(i, pOb l q')], next := nx }, (Wk.cut rfl (by simp [hn]) (by simp [wkO, zaa, getK, zab, zac, Ob.under, D.under, zad, zaf, hi, hne, zab, zac, zaa, getK]) (by simp [wkU, zap, zaa, getK, D.under, hi, hne, zab, zac, zaa, getK]) (by simp [wkE, zap, zaa, getK, hi, hne, zab, zac, zaa, getK])), by simp [hn], ?_⟩; try simp)
  exact PPost.zbn (by simp [PR.bind, *])
 | ok v0 q0 =>
  have ha := fun nx' h => zpj (ha nx' h) hr0
  obtain ⟨g0a, g0b⟩ := (zcD hl f).2.2.1 _ _ _ _ hr0 hp
  generalize hR : (PR.ok v0 q0).bind (fun e q => zfG l f form e.1 e.2 q) = R
  have hR' : R = zfG l f form v0.1 v0.2 q0 := hR.symm
  (refine RetX.of_bodyW Tryd.func41 rfl (by simp) fun Γ hn hpan => ?_); simp only [entry, List.zipIdx_cons, List.zipIdx_nil, List.map_cons, List.map_nil, Nat.zero_add, Tryd.ntmps41]
  repeat' (first
  | (refine zah ?_; simp [hne, del, Nat.add_assoc])
  | (refine zak ?_; simp [hne, del, Nat.add_assoc])
  | (refine zai ?_; simp [hne, del, Nat.add_assoc])
  | (refine zam ?_; simp [hne, del, Nat.add_assoc])
  | (refine CallP.ok1 (ha _ (by first | omega | (simp; done) | (simp; omega) | fail)) (by first | (simp [hne, del, Nat.add_assoc, zaa, getK, zab, zac]; done) | fail) (by rfl) (by first | assumption | (simp; done) | fail) (by rfl) (by simp) ?_; (try simp [hne, del, Nat.add_assoc]))
  | fail)
  refine zcR (α := { x : Exp × Int × Nat × Nat // x.2.2.1 < l.length ∧ 4 * (l.length - x.2.2.1) + 2 ≤ x.2.2.2 ∧ x.2.2.2 ≤ f ∧ R = zfG l x.2.2.2 form x.1 x.2.1 x.2.2.1 }) [0, 1, 2, 4, 5] (fun x => [(6, .u (.int .i64 x.1.2.1))])
   (fun x => [(nx + 2, zqq x.1.1), (nx + 1, .box [.u (.int .i64 0), .u (.int .i64 0), .u (.int .i64 0), .u (.str []), .u .nil]), (nx, .box [.ptr i 0]), (i, pOb l x.1.2.2.1)]) (nx + 3) (fun x => x.1.2.2.2) ⟨(v0.1, v0.2, q0, f), g0b, (by show 4 * (l.length - q0) + 2 ≤ f; omega), (by show f ≤ f; omega), hR'⟩ ?_ ?_
  ·have hi3 : i < nx + 3 := by omega
   exact (Wk.cut rfl (by simp [hn, St.lp]) (by simp [wkO, St.lp, zaa, getK, Ob.under, D.under, zad, zaf, hi, hi3, hne]) (by simp [wkU, St.lp, zap, zaa, getK, D.under, hi, hi3, hne]) (by simp [wkE, St.lp, zap, zaa, getK, hi, hi3, hne] <;> (try (intros; simp_all; done)) <;> (try (intros; omega)) <;> (try grind)))
  rintro ⟨⟨e, own, q, g⟩, h1, h2, h2b, h3⟩
  simp only at h1 h2 h2b h3
  simp [St.lp, St.only, zap, zaa, getK]
  obtain ⟨g, rfl⟩ : ∃ g', g = g' + 1 := ⟨g - 1, by omega⟩
  rw [zfG] at h3
  have hix := zk4 l q h1 hl.len
  cases hx : zpk l q with
  | none =>
   rw [(zgl oprs 0).1 hx] at hix
   rw [hx] at h3
   repeat' (first
  | (refine zah ?_; simp [hne, del, Nat.add_assoc])
  | (refine zak ?_; simp [hne, del, Nat.add_assoc])
  | (refine zai ?_; simp [hne, del, Nat.add_assoc])
  | (refine zag ?_; simp [hne, del, Nat.add_assoc])
  | (refine zam ?_; simp [hne, del, Nat.add_assoc])
  | (refine zar ?_; simp only [zal])
  | (refine CallP.fun_ (hop) (by first | rfl | fail) (by first | assumption | (simp; done) | fail) (by first | (simp [hne, del, Nat.add_assoc]; done) | (simp [hne, del, Nat.add_assoc]; rfl) | fail) (by first | (simp; done) | fail) (fun d hd => ?_); subst hd; (try simp [hne, del, Nat.add_assoc]))
  | (refine CallP.fun_ (hix) (by first | rfl | fail) (by first | assumption | (simp; done) | fail) (by first | (simp [hne, del, Nat.add_assoc]; done) | (simp [hne, del, Nat.add_assoc]; rfl) | fail) (by first | (simp; done) | fail) (fun d hd => ?_); subst hd; (try simp [hne, del, Nat.add_assoc]))
  | fail)
   refine EndW.norm ?_
   simp [St.norm, zbq, zcf, zcy, zcz, hne, Nat.add_assoc]
   (refine EndW.here ?_; (first | (refine EndOK.fin (.inr rfl) ?_) | (refine EndOK.fin (.inl rfl) ?_)); simp [zay, zae, Tryd.results41, hne, hi]; refine FinOK.cut [(i, pOb l q)] (nx) (by simp [zaa, getK, zab, zac, Ob.under, D.under, zad, zaf, hne, hi] <;> omega) (by simp [D.under]) (by simp [hn]) ?_; try simp)
   exact PPost.zdF h3 (by simp [Exp.row_eq]) rfl
  | some x =>
   obtain ⟨k, hk1, hk2⟩ := (zgl oprs 0).2 x hx
   rw [hk2] at hix
   rw [hx] at h3
   simp only at h3
   have hqb := zcB hl (by have := List.find?_some (p := fun o : Opr => isB l q o.text) hx; exact this)
   have hk0 : ¬ ((k : Int) < 0) := by omega
   have hkl : k < 8 := (List.getElem?_eq_some_iff.1 hk1).1
   rw [show (0 : Int) + k = (k : Int) by omega] at hix
   have hfm : 0 ≤ x.form ∧ x.form ≤ 6 := by
    have := List.mem_of_getElem? hk1
    simp only [oprs, List.mem_cons, List.not_mem_nil, or_false] at this
    rcases this with rfl | rfl | rfl | rfl | rfl | rfl | rfl | rfl <;> decide
   obtain ⟨hf0, hf6⟩ := hfm
   generalize hL : oprs = L at hop hix hk1
   by_cases c1 : x.form < form
   ·rw [if_pos (Or.inl c1)] at h3
    repeat' (first
  | (refine zah ?_; simp [hne, del, Nat.add_assoc, hk0, hk1, c1])
  | (refine zak ?_; simp [hne, del, Nat.add_assoc, hk0, hk1, c1])
  | (refine zai ?_; simp [hne, del, Nat.add_assoc, hk0, hk1, c1])
  | (refine zag ?_; simp [hne, del, Nat.add_assoc, hk0, hk1, c1])
  | (refine zam ?_; simp [hne, del, Nat.add_assoc, hk0, hk1, c1])
  | (refine zar ?_; simp only [zal])
  | (refine zaq ?_; simp only [zal])
  | (refine CallP.fun_ (hop) (by first | rfl | fail) (by first | assumption | (simp; done) | fail) (by first | (simp [hne, del, Nat.add_assoc, hk0, hk1, c1]; done) | (simp [hne, del, Nat.add_assoc, hk0, hk1, c1]; rfl) | fail) (by first | (simp; done) | fail) (fun d hd => ?_); subst hd; (try simp [hne, del, Nat.add_assoc, hk0, hk1, c1]))
  | (refine CallP.fun_ (hix) (by first | rfl | fail) (by first | assumption | (simp; done) | fail) (by first | (simp [hne, del, Nat.add_assoc, hk0, hk1, c1]; done) | (simp [hne, del, Nat.add_assoc, hk0, hk1, c1]; rfl) | fail) (by first | (simp; done) | fail) (fun d hd => ?_); subst hd; (try simp [hne, del, Nat.add_assoc, hk0, hk1, c1]))
  | fail)
    refine EndW.norm ?_
    simp [St.norm, zbq, zcf, zcy, zcz, hne, Nat.add_assoc]
    (refine EndW.here ?_; (first | (refine EndOK.fin (.inr rfl) ?_) | (refine EndOK.fin (.inl rfl) ?_)); simp [zay, zae, Tryd.results41, hne, hi]; refine FinOK.cut [(i, pOb l q)] (nx) (by simp [zaa, getK, zab, zac, Ob.under, D.under, zad, zaf, hne, hi] <;> omega) (by simp [D.under]) (by simp [hn]) ?_; try simp)
    exact PPost.zdF h3 (by simp [Exp.row_eq]) rfl
   ·by_cases c2 : own < x.form
    ·rw [if_pos (Or.inr (Or.inl c2))] at h3
     repeat' (first
  | (refine zah ?_; simp [hne, del, Nat.add_assoc, hk0, hk1, c1, c2])
  | (refine zak ?_; simp [hne, del, Nat.add_assoc, hk0, hk1, c1, c2])
  | (refine zai ?_; simp [hne, del, Nat.add_assoc, hk0, hk1, c1, c2])
  | (refine zag ?_; simp [hne, del, Nat.add_assoc, hk0, hk1, c1, c2])
  | (refine zam ?_; simp [hne, del, Nat.add_assoc, hk0, hk1, c1, c2])
  | (refine zar ?_; simp only [zal])
  | (refine zaq ?_; simp only [zal])
  | (refine CallP.fun_ (hop) (by first | rfl | fail) (by first | assumption | (simp; done) | fail) (by first | (simp [hne, del, Nat.add_assoc, hk0, hk1, c1, c2]; done) | (simp [hne, del, Nat.add_assoc, hk0, hk1, c1, c2]; rfl) | fail) (by first | (simp; done) | fail) (fun d hd => ?_); subst hd; (try simp [hne, del, Nat.add_assoc, hk0, hk1, c1, c2]))
  | (refine CallP.fun_ (hix) (by first | rfl | fail) (by first | assumption | (simp; done) | fail) (by first | (simp [hne, del, Nat.add_assoc, hk0, hk1, c1, c2]; done) | (simp [hne, del, Nat.add_assoc, hk0, hk1, c1, c2]; rfl) | fail) (by first | (simp; done) | fail) (fun d hd => ?_); subst hd; (try simp [hne, del, Nat.add_assoc, hk0, hk1, c1, c2]))
  | fail)
     refine EndW.norm ?_
     simp [St.norm, zbq, zcf, zcy, zcz, hne, Nat.add_assoc]
     (refine EndW.here ?_; (first | (refine EndOK.fin (.inr rfl) ?_) | (refine EndOK.fin (.inl rfl) ?_)); simp [zay, zae, Tryd.results41, hne, hi]; refine FinOK.cut [(i, pOb l q)] (nx) (by simp [zaa, getK, zab, zac, Ob.under, D.under, zad, zaf, hne, hi] <;> omega) (by simp [D.under]) (by simp [hn]) ?_; try simp)
     exact PPost.zdF h3 (by simp [Exp.row_eq]) rfl
    ·by_cases c3 : own = 4 ∧ x.form = 4
     ·rw [if_pos (Or.inr (Or.inr c3))] at h3
      obtain ⟨c4, c5⟩ := c3
      repeat' (first
  | (refine zah ?_; simp [hne, del, Nat.add_assoc, hk0, hk1, c1, c2, c4, c5])
  | (refine zak ?_; simp [hne, del, Nat.add_assoc, hk0, hk1, c1, c2, c4, c5])
  | (refine zai ?_; simp [hne, del, Nat.add_assoc, hk0, hk1, c1, c2, c4, c5])
  | (refine zag ?_; simp [hne, del, Nat.add_assoc, hk0, hk1, c1, c2, c4, c5])
  | (refine zam ?_; simp [hne, del, Nat.add_assoc, hk0, hk1, c1, c2, c4, c5])
  | (refine zar ?_; simp only [zal])
  | (refine zaq ?_; simp only [zal])
  | (refine ⟨?_, by omega⟩)
  | (intro hc <;> (try (exfalso; omega)))
  | (refine CallP.fun_ (hop) (by first | rfl | fail) (by first | assumption | (simp; done) | fail) (by first | (simp [hne, del, Nat.add_assoc, hk0, hk1, c1, c2, c4, c5]; done) | (simp [hne, del, Nat.add_assoc, hk0, hk1, c1, c2, c4, c5]; rfl) | fail) (by first | (simp; done) | fail) (fun d hd => ?_); subst hd; (try simp [hne, del, Nat.add_assoc, hk0, hk1, c1, c2, c4, c5]))
  | (refine CallP.fun_ (hix) (by first | rfl | fail) (by first | assumption | (simp; done) | fail) (by first | (simp [hne, del, Nat.add_assoc, hk0, hk1, c1, c2, c4, c5]; done) | (simp [hne, del, Nat.add_assoc, hk0, hk1, c1, c2, c4, c5]; rfl) | fail) (by first | (simp; done) | fail) (fun d hd => ?_); subst hd; (try simp [hne, del, Nat.add_assoc, hk0, hk1, c1, c2, c4, c5]))
  | fail)
      refine EndW.norm ?_
      simp [St.norm, zbq, zcf, zcy, zcz, hne, Nat.add_assoc]
      (refine EndW.here ?_; (first | (refine EndOK.fin (.inr rfl) ?_) | (refine EndOK.fin (.inl rfl) ?_)); simp [zay, zae, Tryd.results41, hne, hi]; refine FinOK.cut [(i, pOb l q)] (nx) (by simp [zaa, getK, zab, zac, Ob.under, D.under, zad, zaf, hne, hi] <;> omega) (by simp [D.under]) (by simp [hn]) ?_; try simp)
      exact PPost.zdF h3 (by simp [Exp.row_eq]) rfl
     ·rw [if_neg (by rintro (h | h | h) <;> contradiction)] at h3
      have hb := fun nx' (h : nx ≤ nx') => hE g (by omega) (q + 1) (x.form + 1) i nx' (by omega) hqb (by omega) (by omega) (by omega)
      cases hr1 : zeM l g (q + 1) (x.form + 1) with
      | stop pos err =>
       simp only [hr1] at hb
       rw [hr1] at h3
       by_cases c4 : own = 4
       ·have c5 : ¬ x.form = 4 := fun h => c3 ⟨c4, h⟩
        repeat' (first
  | (refine zfX (fun nx' h' => hb nx' (by simp at h'; omega)) (by first | (simp [hne, del, Nat.add_assoc, hk0, hk1, c1, c2, c4, c5, zaa, getK, zab, zac, zaj, zat]; done) | fail) (by rfl) (by first | assumption | simp) (by rfl) (by simp) ?_ ?_; rintro env' ob' n' hn' ⟨q', rfl⟩; refine ⟨_, Wk.refl _, ?_⟩)
  | (refine zfb rfl (by simp) ?_; simp)
  | (refine zah ?_; simp [hne, del, Nat.add_assoc, hk0, hk1, c1, c2, c4, c5])
  | (refine zbo rfl ?_; simp [hne, del, Nat.add_assoc, hk0, hk1, c1, c2, c4, c5])
  | (refine zak ?_; simp [hne, del, Nat.add_assoc, hk0, hk1, c1, c2, c4, c5])
  | (refine ⟨by omega, ?_⟩)
  | (refine zai ?_; simp [hne, del, Nat.add_assoc, hk0, hk1, c1, c2, c4, c5])
  | (refine zag ?_; simp [hne, del, Nat.add_assoc, hk0, hk1, c1, c2, c4, c5])
  | (refine zdB (hC _ (zbg [i] nx (by simp <;> omega) (by simp <;> omega) (by apply Exists.intro; apply And.intro; (focus (repeat' (first | exact KF.nil | exact KL.nil | apply KF.cons | apply KL.cons 0 rfl | apply KL.cons 1 rfl | apply KL.cons 2 rfl | apply KL.cons 3 rfl | apply KL.cons 4 rfl | apply KL.cons 5 rfl | apply KL.cons 6 rfl | apply KL.cons 7 rfl | apply KL.cons 8 rfl | apply KL.cons 9 rfl))); kernel_rfl))) rfl; done)
  | (refine zbm rfl (by kernel_rfl) (by first | (simp [hn]; done) | (simp [hn]; omega) | fail) fun C k hC hk => ?_; simp [hne, del, Nat.add_assoc, hk0, hk1, c1, c2, c4, c5])
  | (refine zam ?_; simp [hne, del, Nat.add_assoc, hk0, hk1, c1, c2, c4, c5])
  | (refine zaq ?_; simp only [zal])
  | (refine ⟨?_, by omega⟩)
  | (intro hc <;> (try (exfalso; omega)))
  | (refine CallP.fun_ (hop) (by first | rfl | fail) (by first | assumption | (simp; done) | fail) (by first | (simp [hne, del, Nat.add_assoc, hk0, hk1, c1, c2, c4, c5]; done) | (simp [hne, del, Nat.add_assoc, hk0, hk1, c1, c2, c4, c5]; rfl) | fail) (by first | (simp; done) | fail) (fun d hd => ?_); subst hd; (try simp [hne, del, Nat.add_assoc, hk0, hk1, c1, c2, c4, c5]))
  | (refine CallP.fun_ (hix) (by first | rfl | fail) (by first | assumption | (simp; done) | fail) (by first | (simp [hne, del, Nat.add_assoc, hk0, hk1, c1, c2, c4, c5]; done) | (simp [hne, del, Nat.add_assoc, hk0, hk1, c1, c2, c4, c5]; rfl) | fail) (by first | (simp; done) | fail) (fun d hd => ?_); subst hd; (try simp [hne, del, Nat.add_assoc, hk0, hk1, c1, c2, c4, c5]))
  | fail)
        (refine hpan _ _ ⟨{ n := _, env := [], obs := [(i, pOb l q')], next := nx }, (Wk.cut rfl (by simp [hn]) (by simp [wkO, zaa, getK, zab, zac, Ob.under, D.under, zad, zaf, hi, hne, zab, zac, zaa, getK]) (by simp [wkU, zap, zaa, getK, D.under, hi, hne, zab, zac, zaa, getK]) (by simp [wkE, zap, zaa, getK, hi, hne, zab, zac, zaa, getK])), by simp [hn], ?_⟩; try simp)
        exact PPost.zbn h3
       ·repeat' (first
  | (refine zfX (fun nx' h' => hb nx' (by simp at h'; omega)) (by first | (simp [hne, del, Nat.add_assoc, hk0, hk1, c1, c2, c4, zaa, getK, zab, zac, zaj, zat]; done) | fail) (by rfl) (by first | assumption | simp) (by rfl) (by simp) ?_ ?_; rintro env' ob' n' hn' ⟨q', rfl⟩; refine ⟨_, Wk.refl _, ?_⟩)
  | (refine zfb rfl (by simp) ?_; simp)
  | (refine zah ?_; simp [hne, del, Nat.add_assoc, hk0, hk1, c1, c2, c4])
  | (refine zbo rfl ?_; simp [hne, del, Nat.add_assoc, hk0, hk1, c1, c2, c4])
  | (refine zak ?_; simp [hne, del, Nat.add_assoc, hk0, hk1, c1, c2, c4])
  | (refine ⟨by omega, ?_⟩)
  | (refine zai ?_; simp [hne, del, Nat.add_assoc, hk0, hk1, c1, c2, c4])
  | (refine zag ?_; simp [hne, del, Nat.add_assoc, hk0, hk1, c1, c2, c4])
  | (refine zdB (hC _ (zbg [i] nx (by simp <;> omega) (by simp <;> omega) (by apply Exists.intro; apply And.intro; (focus (repeat' (first | exact KF.nil | exact KL.nil | apply KF.cons | apply KL.cons 0 rfl | apply KL.cons 1 rfl | apply KL.cons 2 rfl | apply KL.cons 3 rfl | apply KL.cons 4 rfl | apply KL.cons 5 rfl | apply KL.cons 6 rfl | apply KL.cons 7 rfl | apply KL.cons 8 rfl | apply KL.cons 9 rfl))); kernel_rfl))) rfl; done)
  | (refine zbm rfl (by kernel_rfl) (by first | (simp [hn]; done) | (simp [hn]; omega) | fail) fun C k hC hk => ?_; simp [hne, del, Nat.add_assoc, hk0, hk1, c1, c2, c4])
  | (refine zam ?_; simp [hne, del, Nat.add_assoc, hk0, hk1, c1, c2, c4])
  | (refine zaq ?_; simp only [zal])
  | (refine CallP.fun_ (hop) (by first | rfl | fail) (by first | assumption | (simp; done) | fail) (by first | (simp [hne, del, Nat.add_assoc, hk0, hk1, c1, c2, c4]; done) | (simp [hne, del, Nat.add_assoc, hk0, hk1, c1, c2, c4]; rfl) | fail) (by first | (simp; done) | fail) (fun d hd => ?_); subst hd; (try simp [hne, del, Nat.add_assoc, hk0, hk1, c1, c2, c4]))
  | (refine CallP.fun_ (hix) (by first | rfl | fail) (by first | assumption | (simp; done) | fail) (by first | (simp [hne, del, Nat.add_assoc, hk0, hk1, c1, c2, c4]; done) | (simp [hne, del, Nat.add_assoc, hk0, hk1, c1, c2, c4]; rfl) | fail) (by first | (simp; done) | fail) (fun d hd => ?_); subst hd; (try simp [hne, del, Nat.add_assoc, hk0, hk1, c1, c2, c4]))
  | fail)
        (refine hpan _ _ ⟨{ n := _, env := [], obs := [(i, pOb l q')], next := nx }, (Wk.cut rfl (by simp [hn]) (by simp [wkO, zaa, getK, zab, zac, Ob.under, D.under, zad, zaf, hi, hne, zab, zac, zaa, getK]) (by simp [wkU, zap, zaa, getK, D.under, hi, hne, zab, zac, zaa, getK]) (by simp [wkE, zap, zaa, getK, hi, hne, zab, zac, zaa, getK])), by simp [hn], ?_⟩; try simp)
        exact PPost.zbn h3
      | ok e2 q2 =>
       have hb := fun nx' h => zdr (hb nx' h) hr1
       obtain ⟨g1a, g1b⟩ := (zcD hl g).1 _ _ _ _ hr1 hqb
       rw [hr1] at h3
       by_cases c4 : own = 4
       ·have c5 : ¬ x.form = 4 := fun h => c3 ⟨c4, h⟩
        repeat' (first
  | (refine zh3 (fun nx' h' => hb nx' (by simp at h'; omega)) (by first | (simp [hne, del, Nat.add_assoc, hk0, hk1, c1, c2, c4, c5, zaa, getK, zab, zac, zaj, zat]; done) | fail) (by rfl) (by first | assumption | simp) (by rfl) (by simp [D.under, Ob.under]) (by simp) ?_; (try simp [hne, del, Nat.add_assoc, hk0, hk1, c1, c2, c4, c5]))
  | (refine zah ?_; simp [hne, del, Nat.add_assoc, hk0, hk1, c1, c2, c4, c5])
  | (refine zbo rfl ?_; simp [hne, del, Nat.add_assoc, hk0, hk1, c1, c2, c4, c5])
  | (refine zd7 rfl ?_; simp [hne, del, Nat.add_assoc, hk0, hk1, c1, c2, c4, c5])
  | (refine zak ?_; simp [hne, del, Nat.add_assoc, hk0, hk1, c1, c2, c4, c5])
  | (refine ⟨by omega, ?_⟩)
  | (refine zai ?_; simp [hne, del, Nat.add_assoc, hk0, hk1, c1, c2, c4, c5])
  | (refine zag ?_; simp [hne, del, Nat.add_assoc, hk0, hk1, c1, c2, c4, c5])
  | (refine zb1 (hC _ (zbg [i] nx (by simp <;> omega) (by simp <;> omega) (by apply Exists.intro; apply And.intro; (focus (repeat' (first | exact KF.nil | exact KL.nil | apply KF.cons | apply KL.cons 0 rfl | apply KL.cons 1 rfl | apply KL.cons 2 rfl | apply KL.cons 3 rfl | apply KL.cons 4 rfl | apply KL.cons 5 rfl | apply KL.cons 6 rfl | apply KL.cons 7 rfl | apply KL.cons 8 rfl | apply KL.cons 9 rfl))); kernel_rfl))) (hk _ ?_); clear hC hk C k; simp only [zal])
  | (refine zbm rfl (by kernel_rfl) (by first | (simp [hn]; done) | (simp [hn]; omega) | fail) fun C k hC hk => ?_; simp [hne, del, Nat.add_assoc, hk0, hk1, c1, c2, c4, c5])
  | (refine zam ?_; simp [hne, del, Nat.add_assoc, hk0, hk1, c1, c2, c4, c5])
  | (refine zas ?_; simp [hne, del, Nat.add_assoc, hk0, hk1, c1, c2, c4, c5])
  | (refine zaq ?_; simp only [zal])
  | (refine ⟨?_, by omega⟩)
  | (intro hc <;> (try (exfalso; omega)))
  | (refine CallP.fun_ (hop) (by first | rfl | fail) (by first | assumption | (simp; done) | fail) (by first | (simp [hne, del, Nat.add_assoc, hk0, hk1, c1, c2, c4, c5]; done) | (simp [hne, del, Nat.add_assoc, hk0, hk1, c1, c2, c4, c5]; rfl) | fail) (by first | (simp; done) | fail) (fun d hd => ?_); subst hd; (try simp [hne, del, Nat.add_assoc, hk0, hk1, c1, c2, c4, c5]))
  | (refine CallP.fun_ (hix) (by first | rfl | fail) (by first | assumption | (simp; done) | fail) (by first | (simp [hne, del, Nat.add_assoc, hk0, hk1, c1, c2, c4, c5]; done) | (simp [hne, del, Nat.add_assoc, hk0, hk1, c1, c2, c4, c5]; rfl) | fail) (by first | (simp; done) | fail) (fun d hd => ?_); subst hd; (try simp [hne, del, Nat.add_assoc, hk0, hk1, c1, c2, c4, c5]))
  | fail)
        have hi3 : i < nx + 3 := by omega
        refine LoopW.next ⟨(.mk x.op 0 0 [] [e, e2], x.form, q2, g), g1b, (by show 4 * (l.length - q2) + 2 ≤ g; omega), (by show g ≤ f; omega), h3⟩ (by show g < g + 1; omega) ?_
        refine Wk.trans (Wk.frzN 1 _) ?_
        simp [hne, Nat.add_assoc, frzN, frz1, zaV, zaU, St.frz, St.frzS, frzS, fv, zbH, zbJ, zbK, zaY, zaF, zaA, del, frz, zb2]
        exact (Wk.cut rfl (by simp [hn, St.lp]) (by simp [wkO, St.lp, zaa, getK, Ob.under, D.under, zad, zaf, hi, hi3, hne, Exp.row_eq, Exp.op, Exp.n, Exp.unit, Exp.s, Exp.args]) (by simp [wkU, St.lp, zap, zaa, getK, D.under, hi, hi3, hne, Exp.row_eq, Exp.op, Exp.n, Exp.unit, Exp.s, Exp.args]) (by simp [wkE, St.lp, zap, zaa, getK, hi, hi3, hne, Exp.row_eq, Exp.op, Exp.n, Exp.unit, Exp.s, Exp.args] <;> (try (intros; simp_all; done)) <;> (try (intros; omega)) <;> (try grind)))
       ·repeat' (first
  | (refine zh3 (fun nx' h' => hb nx' (by simp at h'; omega)) (by first | (simp [hne, del, Nat.add_assoc, hk0, hk1, c1, c2, c4, zaa, getK, zab, zac, zaj, zat]; done) | fail) (by rfl) (by first | assumption | simp) (by rfl) (by simp [D.under, Ob.under]) (by simp) ?_; (try simp [hne, del, Nat.add_assoc, hk0, hk1, c1, c2, c4]))
  | (refine zah ?_; simp [hne, del, Nat.add_assoc, hk0, hk1, c1, c2, c4])
  | (refine zbo rfl ?_; simp [hne, del, Nat.add_assoc, hk0, hk1, c1, c2, c4])
  | (refine zd7 rfl ?_; simp [hne, del, Nat.add_assoc, hk0, hk1, c1, c2, c4])
  | (refine zak ?_; simp [hne, del, Nat.add_assoc, hk0, hk1, c1, c2, c4])
  | (refine ⟨by omega, ?_⟩)
  | (refine zai ?_; simp [hne, del, Nat.add_assoc, hk0, hk1, c1, c2, c4])
  | (refine zag ?_; simp [hne, del, Nat.add_assoc, hk0, hk1, c1, c2, c4])
  | (refine zb1 (hC _ (zbg [i] nx (by simp <;> omega) (by simp <;> omega) (by apply Exists.intro; apply And.intro; (focus (repeat' (first | exact KF.nil | exact KL.nil | apply KF.cons | apply KL.cons 0 rfl | apply KL.cons 1 rfl | apply KL.cons 2 rfl | apply KL.cons 3 rfl | apply KL.cons 4 rfl | apply KL.cons 5 rfl | apply KL.cons 6 rfl | apply KL.cons 7 rfl | apply KL.cons 8 rfl | apply KL.cons 9 rfl))); kernel_rfl))) (hk _ ?_); clear hC hk C k; simp only [zal])
  | (refine zbm rfl (by kernel_rfl) (by first | (simp [hn]; done) | (simp [hn]; omega) | fail) fun C k hC hk => ?_; simp [hne, del, Nat.add_assoc, hk0, hk1, c1, c2, c4])
  | (refine zam ?_; simp [hne, del, Nat.add_assoc, hk0, hk1, c1, c2, c4])
  | (refine zas ?_; simp [hne, del, Nat.add_assoc, hk0, hk1, c1, c2, c4])
  | (refine zaq ?_; simp only [zal])
  | (refine CallP.fun_ (hop) (by first | rfl | fail) (by first | assumption | (simp; done) | fail) (by first | (simp [hne, del, Nat.add_assoc, hk0, hk1, c1, c2, c4]; done) | (simp [hne, del, Nat.add_assoc, hk0, hk1, c1, c2, c4]; rfl) | fail) (by first | (simp; done) | fail) (fun d hd => ?_); subst hd; (try simp [hne, del, Nat.add_assoc, hk0, hk1, c1, c2, c4]))
  | (refine CallP.fun_ (hix) (by first | rfl | fail) (by first | assumption | (simp; done) | fail) (by first | (simp [hne, del, Nat.add_assoc, hk0, hk1, c1, c2, c4]; done) | (simp [hne, del, Nat.add_assoc, hk0, hk1, c1, c2, c4]; rfl) | fail) (by first | (simp; done) | fail) (fun d hd => ?_); subst hd; (try simp [hne, del, Nat.add_assoc, hk0, hk1, c1, c2, c4]))
  | fail)
        have hi3 : i < nx + 3 := by omega
        refine LoopW.next ⟨(.mk x.op 0 0 [] [e, e2], x.form, q2, g), g1b, (by show 4 * (l.length - q2) + 2 ≤ g; omega), (by show g ≤ f; omega), h3⟩ (by show g < g + 1; omega) ?_
        refine Wk.trans (Wk.frzN 1 _) ?_
        simp [hne, Nat.add_assoc, frzN, frz1, zaV, zaU, St.frz, St.frzS, frzS, fv, zbH, zbJ, zbK, zaY, zaF, zaA, del, frz, zb2]
        exact (Wk.cut rfl (by simp [hn, St.lp]) (by simp [wkO, St.lp, zaa, getK, Ob.under, D.under, zad, zaf, hi, hi3, hne, Exp.row_eq, Exp.op, Exp.n, Exp.unit, Exp.s, Exp.args]) (by simp [wkU, St.lp, zap, zaa, getK, D.under, hi, hi3, hne, Exp.row_eq, Exp.op, Exp.n, Exp.unit, Exp.s, Exp.args]) (by simp [wkE, St.lp, zap, zaa, getK, hi, hi3, hne, Exp.row_eq, Exp.op, Exp.n, Exp.unit, Exp.s, Exp.args] <;> (try (intros; simp_all; done)) <;> (try (intros; omega)) <;> (try grind)))
end Go.Proofs.YtfcopibncpkdoaaDoor
namespace Go.VL
open Go
/-- A slice within a struct that came in has a length that an int holds. -/
theorem zmP {P : Program} {Γ : Ctx} {c : Code} {s : St} {Q : Exit → St → Prop} {x j : Nat} {cells : List U} {rows : List (List U)} (hx : getK s.env x = some (.u (.agg cells))) (hj : cells[j]? = some (.sl rows)) (h : rows.length ≤ 9223372036854775807 → V P Γ c s Q) : V P Γ c s Q :=
 zob (fun K a w hs => by
  have hr := (hs.getK hx).2
  obtain ⟨vs, hl, _, hr⟩ := zdX hr
  have hr := hr j _ hj
  generalize vs.getD j undef = v at hr
  cases hr with
  | slE => simp
  | sl _ b o sz c f hc hcx => unfold maxLen at hcx; omega) h
end Go.VL
namespace Go.Proofs.YtfcopibncpkdoaaDoor
open Go Go.VL
attribute [local simp] zcp zbN evPure opd uOf zaB St.put St.at getK binD binI binS binB nilD aggD zeJ ze8 lookD lookR zbT Go.VL.nextD zbY zfe zfd zev zbM mkV zaW zaP zaO zaN zcm zaM za1 zbc mapEff zcS zek Key.kk shiftI arith unD convD zcP loadD cellsAt fieldAddrD fieldD indexAddrD indexD sliceD cutD lenD minmaxD nilCheckD buildD fillD zbt zcq zdR setAll zcg zdy zbQ zeN zbO St.add zaC zbj rowsOf zcM zce zaj zac zaa za5 zcl zaH entry za4 za6 valD zbS zb7 zez zct zcu zbx zbs zav zaT za7 delAll effD St.effS zb9 zaQ zaI zca zaR zaK zby zaJ zaD zbz zb8 zbb zbw zaZ zbu zbv zat mkD zbk zbd zbB zav zbP D.ids Op.operands Call.operands za8 makeIfD typeAssertD ze6 zcH zcI zeR zbV IntKind.bits zch List.take_of_length_le List.range_succ
attribute [local irreducible] V G H HD HD2 zal Eff CallP CallV EndOK Fun Ret FinOK LoopI LoopW EndW
theorem zlS {l : List Tok} (hl : TokOK l) : ∀ f, zgB l f ∧ zoY l f ∧ zhm l f := by
 intro f
 induction f using Nat.strongRecOn with
 | _ f ih =>
  cases f with
  | zero => exact ⟨fun p form i nx _ _ h => by omega, fun p form i nx _ _ h => by omega, fun p i nx _ _ h => by omega⟩
  | succ f =>
   obtain ⟨h1, h2, h3⟩ := ih f (by omega)
   exact ⟨znx hl (fun g hg => (ih g (by omega)).1) h2, zjv hl h1 h3, zit hl h1⟩
def Exp.lev : Exp → Int
 | .mk _ _ _ _ args => (args.map fun e => e.lev).foldl max 0 + 1
theorem Exp.zgC (e : Exp) : e.lev = (e.args.map Exp.lev).foldl max 0 + 1 := by
 cases e with
 | mk op n u s args => rw [Exp.lev]; rfl
theorem zcr : ∀ (l : List Int) (a : Int), a ≤ l.foldl max a ∧ ∀ x ∈ l, x ≤ l.foldl max a
 | [], a => ⟨by simp, fun x h => by simp at h⟩
 | b :: l, a => by
  obtain ⟨h1, h2⟩ := zcr l (max a b)
  refine ⟨by simp only [List.foldl_cons]; omega, fun x hx => ?_⟩
  rcases List.mem_cons.1 hx with rfl | hx
  ·simp only [List.foldl_cons]; omega
  ·exact h2 x hx
theorem Exp.lev_pos (e : Exp) : 1 ≤ e.lev := by
 rw [Exp.zgC]
 have := (zcr (e.args.map Exp.lev) 0).1
 omega
theorem Exp.zjS {e x : Exp} (h : x ∈ e.args) : SizeOf.sizeOf x < SizeOf.sizeOf e := by
 cases e with
 | mk op n u s args =>
  have := List.sizeOf_lt_of_mem h
  simp only [Exp.args] at this
  simp only [Exp.mk.sizeOf_spec]
  omega
theorem zkY : ∀ (n : Nat) (e : Exp), SizeOf.sizeOf e ≤ n → e.lev ≤ 1000000000 → Fun Tryd.prog 44 [.u (.agg e.row)] (· = .u (.int .i64 e.lev)) := by
 intro n
 induction n with
 | zero =>
  intro e h
  cases e with
  | mk op n u s args => simp only [Exp.mk.sizeOf_spec] at h; omega
 | succ n ih =>
  intro e hs he
  have hx : ∀ x ∈ e.args, Fun Tryd.prog 44 [.u (.agg [.int .i64 x.op, .int .i64 x.n, .int .i64 x.unit, .str x.s, .sl (x.args.map Exp.row)])] (· = .u (.int .i64 x.lev)) := fun x hx => by
   rw [← Exp.row_eq]
   refine ih x (by have := Exp.zjS hx; omega) ?_
   have := (zcr (e.args.map Exp.lev) 0).2 x.lev (List.mem_map.2 ⟨x, hx, rfl⟩)
   rw [Exp.zgC] at he
   omega
  have hlb : ∀ k, ((e.args.map Exp.lev).take k).foldl max 0 ≤ 1000000000 := fun k => by
   rw [← List.map_take]
   rw [Exp.zgC] at he
   have h2 : (e.args.map Exp.lev).foldl max 0 = (e.args.drop k |>.map Exp.lev).foldl max ((e.args.take k |>.map Exp.lev).foldl max 0) := by
    rw [← List.foldl_append, ← List.map_append, List.take_append_drop]
   have := (zcr (e.args.drop k |>.map Exp.lev) ((e.args.take k |>.map Exp.lev).foldl max 0)).1
   omega
  rw [Exp.row_eq, Exp.zgC]
  generalize hA : e.args = A at *
  rw [Exp.zgC, hA] at he
  (refine Fun.of_body Tryd.func44 rfl (by simp) fun Γ hn => ?_); simp only [entry, List.zipIdx_cons, List.zipIdx_nil, List.map_cons, List.map_nil, Nat.zero_add, Tryd.ntmps44]
  refine zmP (x := 0) (j := 4) rfl rfl fun hl => ?_
  simp at hl
  repeat' (first
  | (refine zah ?_; simp)
  | (refine zak ?_; simp)
  | (refine zai ?_; simp)
  | (refine zam ?_; simp)
  | fail)
  refine zbG (α := { k : Nat // k ≤ A.length }) [0, 1, 2, 7, 8] (fun k => [(9, .u (.int .i64 k.1)), (3, .u (.int .i64 (((A.map Exp.lev).take k.1).foldl max 0)))]) (fun k => A.length - k.1) ⟨0, by omega⟩ ?_ ?_
  ·exact (Wk.env rfl rfl rfl (by simp [wkE, St.lp, zap, zaa, getK] <;> (try (intros; simp_all; done)) <;> (try (intros; omega)) <;> (try grind)))
  rintro ⟨k, hk⟩
  simp [St.lp, St.only, zap, zaa, getK]
  rcases hy : A[k]? with _ | y
  ·have hge : A.length ≤ k := by simpa using hy
   have hb := hlb k
   rw [List.take_of_length_le (by simpa using hge : (A.map Exp.lev).length ≤ k)] at hb ⊢
   have hb0 := (zcr (A.map Exp.lev) 0).1
   generalize (A.map Exp.lev).foldl max 0 = M at *
   repeat' (first
  | (refine zah ?_; simp [hy])
  | (refine zak ?_; simp [hy])
  | (refine ⟨by omega, ?_⟩)
  | (refine zai ?_; simp [hy])
  | (refine zar ?_; simp only [zal])
  | (refine zba ?_; simp [zal])
  | (intro hc <;> (try (exfalso; omega)))
  | fail)
   (refine EndOK.val (.inr rfl) ?_; simp [zay, zae, zau, Tryd.results44])
  ·have hlt : k < A.length := (List.getElem?_eq_some_iff.1 hy).1
   have hfn := hx y (List.mem_of_getElem? hy)
   have ht : ((A.map Exp.lev).take (k + 1)).foldl max 0 = max (((A.map Exp.lev).take k).foldl max 0) y.lev := by
    rw [List.take_add_one, List.getElem?_map, hy]
    simp
   have hb := hlb (k + 1)
   rw [ht] at hb
   have hb0 := (zcr ((A.map Exp.lev).take k) 0).1
   generalize hM : ((A.map Exp.lev).take k).foldl max 0 = M at *
   have hyp := y.lev_pos
   repeat' (first
  | (refine zah ?_; simp [hy, Exp.row_eq])
  | (refine zak ?_; simp [hy, Exp.row_eq])
  | (refine ⟨by omega, ?_⟩)
  | (refine zai ?_; simp [hy, Exp.row_eq])
  | (refine zas ?_; simp [hy, Exp.row_eq])
  | (refine zaq ?_; simp only [zal])
  | (refine ⟨?_, by omega⟩)
  | (intro hc <;> (try (exfalso; omega)))
  | (refine CallP.fun_ (hfn) (by first | rfl | fail) (by first | assumption | (simp; done) | fail) (by first | (simp [hy, Exp.row_eq]; done) | (simp [hy, Exp.row_eq]; rfl) | fail) (by first | (simp; done) | fail) (fun d hd => ?_); subst hd; (try simp [hy, Exp.row_eq]))
  | fail)
   refine LoopW.next ⟨k + 1, hlt⟩ (by show A.length - (k + 1) < A.length - k; omega) ?_
   exact (Wk.cut rfl (by simp [hn, St.lp]) (by simp [wkO, St.lp, zaa, getK, Ob.under, D.under, zad, zaf, ht]) (by simp [wkU, St.lp, zap, zaa, getK, D.under, ht]) (by simp [wkE, St.lp, zap, zaa, getK, ht] <;> (try (intros; simp_all; done)) <;> (try (intros; omega)) <;> (try grind)))
end Go.Proofs.YtfcopibncpkdoaaDoor
namespace Go.Proofs.YtfcopibncpkdoaaDoor
open Go Go.VL
attribute [local simp] HS zcp zbN evPure opd uOf zaB St.put St.at getK binD binI binS binB nilD aggD zeJ ze8 lookD lookR zbT Go.VL.nextD zbY zfe zfd zev zbM mkV zaW zaP zaO zaN zcm zaM za1 zbc mapEff zcS zek Key.kk shiftI arith unD convD zcP loadD cellsAt fieldAddrD fieldD indexAddrD indexD sliceD cutD lenD minmaxD nilCheckD buildD fillD zbt zcq zdR setAll zcg zdy zbQ zeN zbO St.add zaC zbj rowsOf zcM zce zaj zac zaa za5 zcl zaH entry za4 za6 valD zbS zb7 zez zct zcu zbx zbs zav zaT za7 delAll effD St.effS zb9 zaQ zaI zca zaR zaK zby zaJ zaD zbz zb8 zbb zbw zaZ zbu zbv zat mkD zbk zbd zbB zav zbP D.ids Op.operands Call.operands za8 makeIfD typeAssertD ze6 zcH zcI zeR zbV IntKind.bits zch List.take_of_length_le List.range_succ
attribute [local irreducible] V G H HD HD2 HD4 zhn RetX zal Eff CallP CallV EndOK Fun Ret FinOK LoopI LoopW EndW
theorem zor (s : List UInt8) (l : List Tok) (nx : Nat) (h : zl8 s = .ok l) :
  RetX Tryd.prog 38 [.u (.str s)] [] nx (fun r o n => r = .val (.tup [.ptr nx 0, .u (.int .i64 0), .u (.int .i64 0)]) ∧ o = [(nx, pOb l 0)] ∧ n = nx + 1) := by
 have h1 := zl7 s
 rw [h] at h1
 simp only [zg6] at h1
 (refine RetX.of_bodyW Tryd.func38 rfl (by simp) fun Γ hn hpan => ?_); simp only [entry, List.zipIdx_cons, List.zipIdx_nil, List.map_cons, List.map_nil, Nat.zero_add, Tryd.ntmps38]
 repeat' (first
  | (refine zah ?_; simp)
  | (refine zak ?_; simp)
  | (refine zai ?_; simp)
  | (refine zar ?_; simp only [zal])
  | (refine CallP.fun_ (h1) (by first | rfl | fail) (by first | assumption | (simp; done) | fail) (by first | (simp; done) | (simp; rfl) | fail) (by first | (simp; done) | fail) (fun d hd => ?_); subst hd; (try simp))
  | fail)
 (refine EndW.here ?_; (first | (refine EndOK.fin (.inr rfl) ?_) | (refine EndOK.fin (.inl rfl) ?_)); simp [zay, zae, Tryd.results38]; refine FinOK.here (by simp) ?_; try simp)
theorem znf (s : List UInt8) (p : Nat) (e : Int) (nx : Nat) (h : zl8 s = .error (p, e)) :
  RetX Tryd.prog 38 [.u (.str s)] [] nx (fun r o n => r = .val (.tup [.ptr nx 0, .u (.int .i64 p), .u (.int .i64 e)]) ∧ o = [(nx, pOb [] 0)] ∧ n = nx + 1) := by
 have h1 := zl7 s
 rw [h] at h1
 simp only [zg6] at h1
 (refine RetX.of_bodyW Tryd.func38 rfl (by simp) fun Γ hn hpan => ?_); simp only [entry, List.zipIdx_cons, List.zipIdx_nil, List.map_cons, List.map_nil, Nat.zero_add, Tryd.ntmps38]
 repeat' (first
  | (refine zah ?_; simp)
  | (refine zak ?_; simp)
  | (refine zai ?_; simp)
  | (refine zar ?_; simp only [zal])
  | (refine CallP.fun_ (h1) (by first | rfl | fail) (by first | assumption | (simp; done) | fail) (by first | (simp; done) | (simp; rfl) | fail) (by first | (simp; done) | fail) (fun d hd => ?_); subst hd; (try simp))
  | fail)
 (refine EndW.here ?_; (first | (refine EndOK.fin (.inr rfl) ?_) | (refine EndOK.fin (.inl rfl) ?_)); simp [zay, zae, Tryd.results38]; refine FinOK.here (by simp) ?_; try simp)
theorem zjM (i j nx : Nat) (hi : i < nx) (hj : j < nx) (hij : i ≠ j) (p e : Int) :
  RetX Tryd.prog 40 [.u (.oth .nilIface), .ptr i 0, .ptr j 0] [(i, .box [.u (.int .i64 p)]), (j, .box [.u (.int .i64 e)])] nx
   (fun r o n => r = .val (.u (.bool false)) ∧ o = [(i, .box [.u (.int .i64 p)]), (j, .box [.u (.int .i64 e)])] ∧ n = nx) := by
 have hne := zbh hi
 have hne2 := zbh hj
 (refine RetX.of_bodyW Tryd.func40 rfl (by simp) fun Γ hn hpan => ?_); simp only [entry, List.zipIdx_cons, List.zipIdx_nil, List.map_cons, List.map_nil, Nat.zero_add, Tryd.ntmps40]
 repeat' (first
  | (refine zah ?_; simp [hne, hne2, hij, Ne.symm hij])
  | (refine zak ?_; simp [hne, hne2, hij, Ne.symm hij])
  | (refine zai ?_; simp [hne, hne2, hij, Ne.symm hij])
  | fail)
 refine ⟨[.int .i64 0, .int .i64 0], rfl, ?_⟩
 repeat' (first
  | (refine zah ?_; simp [hne, hne2, hij, Ne.symm hij])
  | (refine zak ?_; simp [hne, hne2, hij, Ne.symm hij])
  | (refine zai ?_; simp [hne, hne2, hij, Ne.symm hij])
  | (refine zag ?_; simp [hne, hne2, hij, Ne.symm hij])
  | (refine zar ?_; simp only [zal])
  | (refine zaq ?_; simp only [zal])
  | fail)
 (refine EndW.here ?_; (first | (refine EndOK.fin (.inr rfl) ?_) | (refine EndOK.fin (.inl rfl) ?_)); simp [zay, zae, Tryd.results40, hne, hne2, hij, Ne.symm hij, hi, hj]; refine FinOK.cut [(i, .box [.u (.int .i64 p)]), (j, .box [.u (.int .i64 e)])] (nx) (by simp [zaa, getK, zab, zac, Ob.under, D.under, zad, zaf, hne, hne2, hij, Ne.symm hij, hi, hj] <;> omega) (by simp [D.under]) (by simp [hn]) ?_; try simp)
theorem zjL (i j nx : Nat) (hi : i < nx) (hj : j < nx) (hij : i ≠ j) (p e pos err : Int) :
  RetX Tryd.prog 40 [.u (.oth (.iface 119 (.agg #[.int .i64 pos, .int .i64 err]))), .ptr i 0, .ptr j 0] [(i, .box [.u (.int .i64 p)]), (j, .box [.u (.int .i64 e)])] nx
   (fun r o n => r = .val (.u (.bool true)) ∧ o = [(i, .box [.u (.int .i64 pos)]), (j, .box [.u (.int .i64 err)])] ∧ n = nx) := by
 have hne := zbh hi
 have hne2 := zbh hj
 (refine RetX.of_bodyW Tryd.func40 rfl (by simp) fun Γ hn hpan => ?_); simp only [entry, List.zipIdx_cons, List.zipIdx_nil, List.map_cons, List.map_nil, Nat.zero_add, Tryd.ntmps40]
 repeat' (first
  | (refine zah ?_; simp [hne, hne2, hij, Ne.symm hij])
  | (refine zbo rfl ?_; simp [hne, hne2, hij, Ne.symm hij])
  | (refine zd7 rfl ?_; simp [hne, hne2, hij, Ne.symm hij])
  | (refine zak ?_; simp [hne, hne2, hij, Ne.symm hij])
  | (refine zai ?_; simp [hne, hne2, hij, Ne.symm hij])
  | (refine zag ?_; simp [hne, hne2, hij, Ne.symm hij])
  | (refine zb1 (hC _ (zbg [i, j] nx (by simp <;> omega) (by simp <;> omega) (by apply Exists.intro; apply And.intro; (focus (repeat' (first | exact KF.nil | exact KL.nil | apply KF.cons | apply KL.cons 0 rfl | apply KL.cons 1 rfl | apply KL.cons 2 rfl | apply KL.cons 3 rfl | apply KL.cons 4 rfl | apply KL.cons 5 rfl | apply KL.cons 6 rfl | apply KL.cons 7 rfl | apply KL.cons 8 rfl | apply KL.cons 9 rfl))); kernel_rfl))) (hk _ ?_); clear hC hk C k; simp only [zal])
  | (refine zbm rfl (by kernel_rfl) (by first | (simp [hn]; done) | (simp [hn]; omega) | fail) fun C k hC hk => ?_; simp [hne, hne2, hij, Ne.symm hij])
  | (refine zar ?_; simp only [zal])
  | (refine zaq ?_; simp only [zal])
  | fail)
 (refine EndW.here ?_; (first | (refine EndOK.fin (.inr rfl) ?_) | (refine EndOK.fin (.inl rfl) ?_)); simp [zay, zae, Tryd.results40, hne, hne2, hij, Ne.symm hij, hi, hj]; refine FinOK.cut [(i, .box [.u (.int .i64 pos)]), (j, .box [.u (.int .i64 err)])] (nx) (by simp [zaa, getK, zab, zac, Ob.under, D.under, zad, zaf, hne, hne2, hij, Ne.symm hij, hi, hj] <;> omega) (by simp [D.under]) (by simp [hn]) ?_; try simp)
theorem zne (i j q nx : Nat) (hi : i < nx) (hj : j < nx) (hq : q < nx) (hij : i ≠ j) (hiq : i ≠ q) (hjq : j ≠ q) (p e : Int) (cells : List U) :
  RetDf Tryd.prog 39 [.ptr i 0, .ptr j 0, .ptr q 0] [(i, .box [.u (.int .i64 p)]), (j, .box [.u (.int .i64 e)]), (q, .box (cells.map .u))] nx .returning
   (fun u o n => settle u = .returning ∧ n = nx ∧ o = [(i, .box [.u (.int .i64 p)]), (j, .box [.u (.int .i64 e)]), (q, .box (cells.map .u))]) := by
 have hne := zbh hi
 have hne2 := zbh hj
 have hne3 := zbh hq
 have hc0 := zjM i j nx hi hj hij p e
 refine RetDf.of_body Tryd.func39 rfl (by simp) (by simp) rfl fun Γ hn => ?_
 simp [entry, zjq, Tryd.ntmps39]
 refine CallP.x2 hc0 (by simp [getK]) (by simp [getK, hij, Ne.symm hij]) hij rfl rfl (by simp) (by simp) (fun d o1 nx' hnx h => ?_) (fun ch o1 nx' hnx h => by cases h.1)
 obtain ⟨h1, rfl, h4⟩ := h
 have h4 := h4.symm
 subst h4
 cases h1
 simp [del, hij, Ne.symm hij, hiq, hjq, Ne.symm hiq, Ne.symm hjq]
 repeat' (first
  | (refine zag ?_; simp [hij, hiq, hjq])
  | (refine zaq ?_; simp only [zal])
  | fail)
 (refine ⟨by simp, { n := _, env := [], obs := [(i, .box [.u (.int .i64 p)]), (j, .box [.u (.int .i64 e)]), (q, .box (cells.map .u))], next := nx }, (Wk.cut rfl (by simp [hn]) (by simp [wkO, zaa, getK, zab, zac, Ob.under, D.under, zad, zaf, hi, hj, hq, hne, hne2, hne3, hij, hiq, hjq, Ne.symm hij, Ne.symm hiq, Ne.symm hjq]) (by simp [wkU, zap, zaa, getK, D.under, hi, hj, hq, hne, hne2, hne3, hij, hiq, hjq, Ne.symm hij, Ne.symm hiq, Ne.symm hjq]) (by simp [wkE, zap, zaa, getK, hi, hj, hq, hne, hne2, hne3, hij, hiq, hjq, Ne.symm hij, Ne.symm hiq, Ne.symm hjq])), by simp [hn], ?_⟩; try simp)
 all_goals rfl
abbrev zi1 : Ob := .box [.u (.int .i64 0), .u (.int .i64 0), .u (.int .i64 0), .u (.str []), .u .nil]
theorem zhE (i j q nx : Nat) (hi : i < nx) (hj : j < nx) (hq : q < nx) (hij : i ≠ j) (hiq : i ≠ q) (hjq : j ≠ q) (p e pos err : Int) (a b c : Int) (t : List UInt8) (g : U) :
  RetDf Tryd.prog 39 [.ptr i 0, .ptr j 0, .ptr q 0] [(i, .box [.u (.int .i64 p)]), (j, .box [.u (.int .i64 e)]), (q, .box [.u (.int .i64 a), .u (.int .i64 b), .u (.int .i64 c), .u (.str t), .u g])] nx (.panicking (chP pos err))
   (fun u o n => settle u = .returning ∧ n = nx ∧ o = [(i, .box [.u (.int .i64 pos)]), (j, .box [.u (.int .i64 err)]), (q, zi1)]) := by
 have hne := zbh hi
 have hne2 := zbh hj
 have hne3 := zbh hq
 have hc0 := zjL i j nx hi hj hij p e pos err
 refine RetDf.of_body Tryd.func39 rfl (by simp) (by simp) rfl fun Γ hn => ?_
 simp [entry, zjq, chP, Tryd.ntmps39]
 refine CallP.x2 hc0 (by simp [getK]) (by simp [getK, hij, Ne.symm hij]) hij rfl rfl (by simp) (by simp) (fun d o1 nx' hnx h => ?_) (fun ch o1 nx' hnx h => by cases h.1)
 obtain ⟨h1, rfl, h4⟩ := h
 have h4 := h4.symm
 subst h4
 cases h1
 simp [del, hij, Ne.symm hij, hiq, hjq, Ne.symm hiq, Ne.symm hjq]
 repeat' (first
  | (refine zah ?_; simp [hij, hiq, hjq])
  | (refine zak ?_; simp [hij, hiq, hjq])
  | (refine zag ?_; simp [hij, hiq, hjq])
  | (refine zas ?_; simp [hij, hiq, hjq])
  | fail)
 (refine ⟨by simp, { n := _, env := [], obs := [(i, .box [.u (.int .i64 pos)]), (j, .box [.u (.int .i64 err)]), (q, zi1)], next := nx }, (Wk.cut rfl (by simp [hn]) (by simp [wkO, zaa, getK, zab, zac, Ob.under, D.under, zad, zaf, hi, hj, hq, hne, hne2, hne3, hij, hiq, hjq, Ne.symm hij, Ne.symm hiq, Ne.symm hjq]) (by simp [wkU, zap, zaa, getK, D.under, hi, hj, hq, hne, hne2, hne3, hij, hiq, hjq, Ne.symm hij, Ne.symm hiq, Ne.symm hjq]) (by simp [wkE, zap, zaa, getK, hi, hj, hq, hne, hne2, hne3, hij, hiq, hjq, Ne.symm hij, Ne.symm hiq, Ne.symm hjq])), by simp [hn], ?_⟩; try simp)
 all_goals rfl
theorem zl9 {s : List UInt8} : ∀ (f p : Nat) (l : List Tok), zma f s p = .ok l → s.length < p + f → p ≤ s.length →
  (∀ (i : Nat) (t : Tok), l[i]? = some t → t.kind ≠ 0 → i + 1 < l.length) ∧ l.length ≤ s.length - p + 1 ∧ 0 < l.length
 | 0, p, l, _, h2, h3 => by omega
 | f + 1, p, l, h, h2, h3 => by
  rw [zma] at h
  have hle := zdv zcQ (s.drop p)
  rw [List.length_drop] at hle
  split at h
  ·cases h
   refine ⟨fun i t hi hk => ?_, by simp, by simp⟩
   rcases i with _ | i
   ·simp at hi
    subst hi
    exact absurd rfl hk
   ·simp at hi
  ·rename_i c r hd
   have hdl : (s.drop (p + zcs zcQ (s.drop p))).length = r.length + 1 := by rw [hd]; rfl
   rw [List.length_drop] at hdl
   split at h
   ·cases h
   ·rename_i t ht
    obtain ⟨ht1, ht2⟩ := zfl ht
    simp only [List.length_cons] at ht2
    split at h
    ·cases h
    ·rename_i l' hl'
     cases h
     obtain ⟨g1, g2, g3⟩ := zl9 f _ l' hl' (by omega) (by omega)
     refine ⟨fun i t' hi hk => ?_, by simp only [List.length_cons]; omega, by simp⟩
     rcases i with _ | i
     ·simp; exact g3
     ·simp only [List.getElem?_cons_succ] at hi
      have := g1 i t' hi hk
      simp only [List.length_cons]
      omega
theorem zox {s : List UInt8} {l : List Tok} (h : zl8 s = .ok l) : TokOK l ∧ l.length ≤ 2001 ∧ 0 < l.length := by
 unfold zl8 at h
 split at h
 ·cases h
 ·obtain ⟨g1, g2, g3⟩ := zl9 _ _ _ h (by omega) (by omega)
  exact ⟨⟨g1, by omega⟩, by omega, g3⟩
theorem Exp.zjg {op n u : Int} {s : List UInt8} {args : List Exp} {B : Int} (h : ∀ x ∈ args, x.lev ≤ B) (h0 : 0 ≤ B) : (Exp.mk op n u s args).lev ≤ B + 1 := by
 rw [Exp.zgC]
 simp only [Exp.args]
 have : ∀ (l : List Int) (a : Int), a ≤ B → (∀ x ∈ l, x ≤ B) → l.foldl max a ≤ B := by
  intro l
  induction l with
  | nil => intro a ha _; exact ha
  | cons b l ih => intro a ha hl; exact ih _ (by have := hl b (by simp); omega) fun x hx => hl x (by simp [hx])
 have := this (args.map Exp.lev) 0 h0 (fun x hx => by obtain ⟨y, hy, rfl⟩ := List.mem_map.1 hx; exact h y hy)
 omega
theorem ziA {l : List Tok} : ∀ (f : Nat),
  (∀ p form e q, zeM l f p form = .ok e q → e.lev ≤ f * f + 1) ∧
  (∀ form e own p e' q, zfG l f form e own p = .ok e' q → e'.lev ≤ max e.lev (f * f + 1) + f) ∧
  (∀ p form e q, zbZ l f p form = .ok e q → e.1.lev ≤ f * f + 1) ∧
  (∀ p e q, zbf l f p = .ok e q → e.lev ≤ f * f + 1)
 | 0 => ⟨fun _ _ _ _ h => by simp [zeM] at h, fun _ _ _ _ _ _ h => by simp [zfG] at h, fun _ _ _ _ h => by simp [zbZ] at h, fun _ _ _ h => by simp [zbf] at h⟩
 | f + 1 => by
  obtain ⟨he, hlo, hpr, hpm⟩ := ziA f
  have hsq : ((f + 1 : Nat) : Int) * ((f + 1 : Nat) : Int) = (f : Int) * f + 2 * f + 1 := by
   rw [show ((f + 1 : Nat) : Int) = (f : Int) + 1 by omega, Int.add_mul, Int.mul_add]; omega
  rw [hsq]
  have h0 : (0 : Int) ≤ (f : Int) * f := Int.mul_nonneg (by omega) (by omega)
  generalize hF : (f : Int) * f = F at *
  refine ⟨fun p form e q h => ?_, fun form e own p e' q h => ?_, fun p form e q h => ?_, fun p e q h => ?_⟩
  ·rw [zeM] at h
   obtain ⟨a, r, h1, h2⟩ := PR.zaX h
   have g1 := hpr _ _ _ _ h1
   have g2 := hlo _ _ _ _ _ _ h2
   omega
  ·rw [zfG] at h
   split at h
   ·cases h; omega
   ·split at h
    ·cases h; omega
    ·obtain ⟨a, r, h1, h2⟩ := PR.zaX h
     have g1 := he _ _ _ _ h1
     have g2 := hlo _ _ _ _ _ _ h2
     rename_i x _ _
     have g3 := Exp.zjg (op := x.op) (n := 0) (u := 0) (s := []) (args := [e, a]) (B := max e.lev (F + 1)) (by
      intro y hy
      simp only [List.mem_cons, List.not_mem_nil, or_false] at hy
      rcases hy with rfl | rfl <;> omega) (by omega)
     omega
  ·rw [zbZ] at h
   split at h
   ·obtain ⟨a, r, h1, h⟩ := PR.zaX h
    obtain ⟨_, r2, h2, h⟩ := PR.zaX h
    obtain ⟨b, r3, h3, h⟩ := PR.zaX h
    obtain ⟨_, r4, h4, h⟩ := PR.zaX h
    obtain ⟨c, r5, h5, h⟩ := PR.zaX h
    cases h
    have g1 := he _ _ _ _ h1
    have g3 := he _ _ _ _ h3
    have g5 := he _ _ _ _ h5
    have := Exp.zjg (op := 13) (n := 0) (u := 0) (s := []) (args := [a, b, c]) (B := F + 1) (by
     intro y hy
     simp only [List.mem_cons, List.not_mem_nil, or_false] at hy
     rcases hy with rfl | rfl | rfl <;> omega) (by omega)
    simp only
    omega
   ·split at h
    ·obtain ⟨a, r, h1, h⟩ := PR.zaX h
     cases h
     have g1 := he _ _ _ _ h1
     have := Exp.zjg (op := 12) (n := 0) (u := 0) (s := []) (args := [a]) (B := F + 1) (by
      intro y hy
      simp only [List.mem_cons, List.not_mem_nil, or_false] at hy
      rcases hy with rfl; omega) (by omega)
     simp only
     omega
    ·obtain ⟨a, r, h1, h⟩ := PR.zaX h
     cases h
     have g1 := hpm _ _ _ h1
     simp only
     omega
  ·have leaf : ∀ (op n u : Int) (s : List UInt8), (Exp.mk op n u s []).lev ≤ F + 2 * f + 1 + 1 := fun op n u s => by
    have := Exp.zjg (op := op) (n := n) (u := u) (s := s) (args := []) (B := 0) (by simp) (by omega)
    omega
   rw [zbf] at h
   split at h
   ·cases h
   ·split at h
    ·obtain ⟨a, r, h1, h⟩ := PR.zaX h
     cases h; exact leaf ..
    split at h
    ·cases h; exact leaf ..
    split at h
    ·cases h; exact leaf ..
    split at h
    ·obtain ⟨_, r2, h2, h⟩ := PR.zaX h
     obtain ⟨a, r3, h3, h⟩ := PR.zaX h
     obtain ⟨_, r4, h4, h⟩ := PR.zaX h
     obtain ⟨b, r5, h5, h⟩ := PR.zaX h
     obtain ⟨_, r6, h6, h⟩ := PR.zaX h
     have g3 := he _ _ _ _ h3
     have g5 := he _ _ _ _ h5
     have := Exp.zjg (op := if isB l p [109, 97, 120] = true then 7 else 6) (n := 0) (u := 0) (s := []) (args := [a, b]) (B := F + 1) (by
      intro y hy
      simp only [List.mem_cons, List.not_mem_nil, or_false] at hy
      rcases hy with rfl | rfl <;> omega) (by omega)
     cases h
     omega
    split at h
    ·obtain ⟨a, r3, h3, h⟩ := PR.zaX h
     obtain ⟨_, r4, h4, h⟩ := PR.zaX h
     cases h
     have g3 := he _ _ _ _ h3
     omega
    split at h
    ·cases h; exact leaf ..
    ·cases h
def zkk (l : List Tok) (p : Nat) : Int := match l[p]? with | some t => t.kind | none => 0
def zfD : Exp := .mk 0 0 0 [] []
/-- What ParseExp returns: the expression, the place, the error. -/
def zfw (s : List UInt8) : Exp × Int × Int := match zl8 s with
 | .error (p, e) => (zfD, p, e)
 | .ok l => match zeM l (4 * l.length + 3) 0 0 with
  | .stop pos e => (zfD, pos, e)
  | .ok y q => if zkk l q ≠ 0 then (zfD, ziy l q, 12) else if 12 < y.lev then (zfD, ziy l q, 6) else (y, 0, 0)
theorem zl0 {c : UInt8} {r : List UInt8} {e : Int} (h : zhL (c :: r) = .error e) : e ≠ 0 := by
 unfold zhL at h
 simp only at h
 split at h
 ·split at h <;> cases h
  omega
 ·split at h
  ·split at h <;> cases h
   omega
  ·split at h <;> cases h
   omega
theorem zkg {s : List UInt8} : ∀ (f p : Nat) (q : Nat) (e : Int), zma f s p = .error (q, e) → p ≤ s.length → e ≠ 0 ∧ q ≤ s.length
 | 0, p, q, e, h, _ => by simp [zma] at h
 | f + 1, p, q, e, h, h3 => by
  rw [zma] at h
  have hle := zdv zcQ (s.drop p)
  rw [List.length_drop] at hle
  split at h
  ·cases h
  ·rename_i c r hd
   have hdl : (s.drop (p + zcs zcQ (s.drop p))).length = r.length + 1 := by rw [hd]; rfl
   rw [List.length_drop] at hdl
   split at h
   ·rename_i ht
    cases h
    exact ⟨zl0 ht, by omega⟩
   ·rename_i t ht
    obtain ⟨ht1, ht2⟩ := zfl ht
    simp only [List.length_cons] at ht2
    split at h
    ·rename_i x hx
     cases h
     exact zkg f _ q e hx (by omega)
    ·cases h
theorem znn {s : List UInt8} {q : Nat} {e : Int} (h : zl8 s = .error (q, e)) : e ≠ 0 ∧ q ≤ s.length := by
 unfold zl8 at h
 split at h
 ·cases h; exact ⟨by decide, by omega⟩
 ·exact zkg _ _ _ _ h (by omega)
def znV (r : Exp × Int × Int) : D := .tup [.u (.agg r.1.row), .u (.int .i64 r.2.1), .u (.int .i64 r.2.2)]
theorem ziC (s : List UInt8) : RetX Tryd.prog 24 [.u (.str s)] [] 0 (fun r o n => r = .val (znV (zfw s))) := by
 unfold zfw
 cases hlx : zl8 s with
 | error pe =>
  obtain ⟨p, e⟩ := pe
  have ho := fun nx => znf s p e nx hlx
  have he := (znn hlx).1
  simp only
  (refine RetX.zdz Tryd.func24 rfl (by simp) fun Γ hn hdfr hpan hesc => ?_); simp only [entry, List.zipIdx_cons, List.zipIdx_nil, List.map_cons, List.map_nil, Nat.zero_add, Tryd.ntmps24]
  repeat' (first
  | (refine zah ?_; simp [he])
  | (refine zbo rfl ?_; simp [he])
  | (refine zd7 rfl ?_; simp [he])
  | (refine zak ?_; simp [he])
  | (refine zai ?_; simp [he])
  | (refine zag ?_; simp [he])
  | (refine zb1 (hC _ (by kernel_rfl)) (hk _ ?_); clear hC hk C k; simp only [zal])
  | (refine zbm rfl (by kernel_rfl) (by first | (simp [hn]; done) | (simp [hn]; omega) | fail) fun C k hC hk => ?_; simp [he])
  | (refine zar ?_; simp only [zal])
  | (refine CallP.okL (ho _) (by first | (simp [he, zaa, getK, zab, zac, zaj, zat, del]; done) | fail) (by rfl) (by first | assumption | (simp; done) | fail) (by rfl) (by simp) ?_; (try simp [he, zbe, del]))
  | fail)
  refine EndW.norm ?_
  simp [St.norm, zbq, zcf, zcy, zcz]
  (refine EndW.here ?_; (first | (refine EndOK.fin (.inr rfl) ?_) | (refine EndOK.fin (.inl rfl) ?_)); simp [zay, zae, Tryd.results24]; refine FinOK.here (by simp) ?_; try simp)
  simp [znV, Exp.row, zfD]
 | ok l =>
  obtain ⟨hl, hl2, hl0⟩ := zox hlx
  have ho := fun nx => zor s l nx hlx
  have hE := (zlS hl (4 * l.length + 3)).1 0 0 3 4 (by omega) hl0 (by omega) (by omega) (by omega)
  simp only
  cases hr : zeM l (4 * l.length + 3) 0 0 with
  | stop pos e =>
   simp only [hr] at hE ⊢
   (refine RetX.zdz Tryd.func24 rfl (by simp) fun Γ hn hdfr hpan hesc => ?_); simp only [entry, List.zipIdx_cons, List.zipIdx_nil, List.map_cons, List.map_nil, Nat.zero_add, Tryd.ntmps24]
   rw [zdm]
   repeat' (first
  | (refine zah ?_; simp)
  | (refine zak ?_; simp)
  | (refine zai ?_; simp)
  | (refine zag ?_; simp)
  | (refine zaq ?_; simp only [zal])
  | (refine CallP.okL (ho _) (by first | (simp [zaa, getK, zab, zac, zaj, zat, del]; done) | fail) (by rfl) (by first | assumption | (simp; done) | fail) (by rfl) (by simp) ?_; (try simp [zbe, del]))
  | fail)
   refine zfv hesc hdfr rfl (by simp) ?_
   have hn0 := hn
   have hpan0 := hpan
   intro Γ' hn hpan
   simp
   repeat' (first
  | (refine zah ?_; simp)
  | (refine zai ?_; simp)
  | (refine CallP.zfc (hE) (by first | (simp [zaa, getK, zab, zac]; done) | fail) (by rfl) (by first | assumption | (simp; done) | fail) (by rfl) (by simp) ?_; rintro ob' ⟨q', rfl⟩; refine ⟨_, Wk.refl _, ?_⟩)
  | fail)
   refine hpan _ _ ?_
   refine LeaveD.of [(1, .box [.u (.int .i64 0)]), (2, .box [.u (.int .i64 0)]), (0, zi1)] (by simp [zaa, getK, zab, zac]) (zhE 1 2 0 _ (by simp) (by simp) (by simp) (by decide) (by decide) (by decide) 0 0 _ _ 0 0 0 [] .nil) ?_
   simp only [show Γ.base.n0 = 0 from hn0]
   simp [zbe, del]
   refine EndW.norm ?_
   simp [St.norm, zbq, zcf, zcy, zcz]
   (refine EndW.here ?_; (first | (refine EndOK.fin (.inr rfl) ?_) | (refine EndOK.fin (.inl rfl) ?_)); simp [zay, zae, Tryd.results24]; refine FinOK.here (by simp) ?_; try simp)
   simp [znV, Exp.row, zfD]
  | ok y q =>
   have hEx := zdr hE hr
   obtain ⟨g0a, g0b⟩ := (zcD hl _).1 _ _ _ _ hr hl0
   have hlev := (ziA (l := l) _).1 _ _ _ _ hr
   have hlev2 : y.lev ≤ 1000000000 := by
    have h1 : ((4 * l.length + 3 : Nat) : Int) * ((4 * l.length + 3 : Nat) : Int) ≤ 8007 * 8007 := Int.mul_le_mul (by omega) (by omega) (by omega) (by omega)
    omega
   have hlv := zkY (SizeOf.sizeOf y) y (Nat.le_refl _) hlev2
   rw [Exp.row_eq] at hlv
   obtain ⟨t, ht⟩ : ∃ t, l[q]? = some t := ⟨_, List.getElem?_eq_getElem g0b⟩
   have hnx := zcw l q t ht hl.len
   have hka : zkk l q = t.kind := by unfold zkk; rw [ht]
   have hpa : ziy l q = t.pos := by unfold ziy; rw [ht]
   simp only [hka, hpa]
   by_cases hk : t.kind = 0
   ·have hc1 := fun nx (h : 3 < nx) => zfT l q 12 3 nx h
    rw [if_neg (by simp [hk])]
    by_cases hv : 12 < y.lev
    ·have hc2 := fun nx (h : 3 < nx) => ze9 l q t 6 3 nx h ht hl.len
     have hv2 : ¬ y.lev ≤ 12 := by omega
     rw [if_pos hv]
     (refine RetX.zdz Tryd.func24 rfl (by simp) fun Γ hn hdfr hpan hesc => ?_); simp only [entry, List.zipIdx_cons, List.zipIdx_nil, List.map_cons, List.map_nil, Nat.zero_add, Tryd.ntmps24]
     rw [zdm]
     repeat' (first
  | (refine zah ?_; simp)
  | (refine zak ?_; simp)
  | (refine zai ?_; simp)
  | (refine zag ?_; simp)
  | (refine zaq ?_; simp only [zal])
  | (refine CallP.okL (ho _) (by first | (simp [zaa, getK, zab, zac, zaj, zat, del]; done) | fail) (by rfl) (by first | assumption | (simp; done) | fail) (by rfl) (by simp) ?_; (try simp [zbe, del]))
  | fail)
     refine zfv hesc hdfr rfl (by simp) ?_
     have hn0 := hn
     have hpan0 := hpan
     intro Γ' hn hpan
     simp
     repeat' (first
  | (refine zah ?_; simp [hk, hv, hv2, del])
  | (refine zak ?_; simp [hk, hv, hv2, del])
  | (refine zai ?_; simp [hk, hv, hv2, del])
  | (refine CallP.fun_ (hlv) (by first | rfl | fail) (by first | assumption | (simp; done) | fail) (by first | (simp [hk, hv, hv2, del]; done) | (simp [hk, hv, hv2, del]; rfl) | fail) (by first | (simp; done) | fail) (fun d hd => ?_); subst hd; (try simp [hk, hv, hv2, del]))
  | (refine CallP.fun_ (hnx) (by first | rfl | fail) (by first | assumption | (simp; done) | fail) (by first | (simp [hk, hv, hv2, del]; done) | (simp [hk, hv, hv2, del]; rfl) | fail) (by first | (simp; done) | fail) (fun d hd => ?_); subst hd; (try simp [hk, hv, hv2, del]))
  | (refine CallP.ok1 (hEx) (by first | (simp [hk, hv, hv2, del, zaa, getK, zab, zac]; done) | fail) (by rfl) (by first | assumption | (simp; done) | fail) (by rfl) (by simp) ?_; (try simp [hk, hv, hv2, del]))
  | (refine CallP.ok1 (hc1 _ (by simp)) (by first | (simp [hk, hv, hv2, del, zaa, getK, zab, zac]; done) | fail) (by rfl) (by first | assumption | (simp; done) | fail) (by rfl) (by simp) ?_; (try simp [hk, hv, hv2, del]))
  | (refine CallP.zfc (hc2 _ (by simp)) (by first | (simp [hk, hv, hv2, del, zaa, getK, zab, zac]; done) | fail) (by rfl) (by first | assumption | (simp; done) | fail) (by rfl) (by simp) ?_; rintro ob' ⟨q', rfl⟩; refine ⟨_, Wk.refl _, ?_⟩)
  | fail)
     refine hpan _ _ ?_
     refine LeaveD.of [(1, .box [.u (.int .i64 0)]), (2, .box [.u (.int .i64 0)]), (0, zi1)] (by simp [zaa, getK, zab, zac]) (zhE 1 2 0 _ (by simp) (by simp) (by simp) (by decide) (by decide) (by decide) 0 0 _ _ 0 0 0 [] .nil) ?_
     simp only [show Γ.base.n0 = 0 from hn0]
     simp [zbe, del]
     refine EndW.norm ?_
     simp [St.norm, zbq, zcf, zcy, zcz]
     (refine EndW.here ?_; (first | (refine EndOK.fin (.inr rfl) ?_) | (refine EndOK.fin (.inl rfl) ?_)); simp [zay, zae, Tryd.results24]; refine FinOK.here (by simp) ?_; try simp)
     simp [znV, Exp.row, zfD]
    ·have hc2 := fun nx (h : 3 < nx) => zfT l q 6 3 nx h
     have hv2 : y.lev ≤ 12 := by omega
     rw [if_neg hv]
     (refine RetX.zdz Tryd.func24 rfl (by simp) fun Γ hn hdfr hpan hesc => ?_); simp only [entry, List.zipIdx_cons, List.zipIdx_nil, List.map_cons, List.map_nil, Nat.zero_add, Tryd.ntmps24]
     rw [zdm]
     repeat' (first
  | (refine zah ?_; simp)
  | (refine zak ?_; simp)
  | (refine zai ?_; simp)
  | (refine zag ?_; simp)
  | (refine zaq ?_; simp only [zal])
  | (refine CallP.okL (ho _) (by first | (simp [zaa, getK, zab, zac, zaj, zat, del]; done) | fail) (by rfl) (by first | assumption | (simp; done) | fail) (by rfl) (by simp) ?_; (try simp [zbe, del]))
  | fail)
     refine zfv hesc hdfr rfl (by simp) ?_
     have hn0 := hn
     have hpan0 := hpan
     intro Γ' hn hpan
     simp
     repeat' (first
  | (refine zah ?_; simp [hk, hv, hv2, del])
  | (refine zak ?_; simp [hk, hv, hv2, del])
  | (refine zai ?_; simp [hk, hv, hv2, del])
  | (refine zar ?_; simp only [zal])
  | (refine CallP.fun_ (hlv) (by first | rfl | fail) (by first | assumption | (simp; done) | fail) (by first | (simp [hk, hv, hv2, del]; done) | (simp [hk, hv, hv2, del]; rfl) | fail) (by first | (simp; done) | fail) (fun d hd => ?_); subst hd; (try simp [hk, hv, hv2, del]))
  | (refine CallP.fun_ (hnx) (by first | rfl | fail) (by first | assumption | (simp; done) | fail) (by first | (simp [hk, hv, hv2, del]; done) | (simp [hk, hv, hv2, del]; rfl) | fail) (by first | (simp; done) | fail) (fun d hd => ?_); subst hd; (try simp [hk, hv, hv2, del]))
  | (refine CallP.ok1 (hEx) (by first | (simp [hk, hv, hv2, del, zaa, getK, zab, zac]; done) | fail) (by rfl) (by first | assumption | (simp; done) | fail) (by rfl) (by simp) ?_; (try simp [hk, hv, hv2, del]))
  | (refine CallP.ok1 (hc1 _ (by simp)) (by first | (simp [hk, hv, hv2, del, zaa, getK, zab, zac]; done) | fail) (by rfl) (by first | assumption | (simp; done) | fail) (by rfl) (by simp) ?_; (try simp [hk, hv, hv2, del]))
  | (refine CallP.ok1 (hc2 _ (by simp)) (by first | (simp [hk, hv, hv2, del, zaa, getK, zab, zac]; done) | fail) (by rfl) (by first | assumption | (simp; done) | fail) (by rfl) (by simp) ?_; (try simp [hk, hv, hv2, del]))
  | fail)
     refine ⟨rfl, ?_⟩
     refine LeaveD.of [(1, .box [.u (.int .i64 0)]), (2, .box [.u (.int .i64 0)]), (0, .box ([.int .i64 y.op, .int .i64 y.n, .int .i64 y.unit, .str y.s, .sl (y.args.map Exp.row)].map .u))] (by simp [zaa, getK, zab, zac]) (zne 1 2 0 _ (by simp) (by simp) (by simp) (by decide) (by decide) (by decide) 0 0 _) ?_
     simp only [show Γ.base.n0 = 0 from hn0]
     simp [zbe, del]
     (refine EndW.here ?_; (first | (refine EndOK.fin (.inr rfl) ?_) | (refine EndOK.fin (.inl rfl) ?_)); simp [zay, zae, Tryd.results24]; refine FinOK.here (by simp) ?_; try simp)
     simp [znV, Exp.row_eq]
   ·have hc1 := fun nx (h : 3 < nx) => ze9 l q t 12 3 nx h ht hl.len
    rw [if_pos hk]
    (refine RetX.zdz Tryd.func24 rfl (by simp) fun Γ hn hdfr hpan hesc => ?_); simp only [entry, List.zipIdx_cons, List.zipIdx_nil, List.map_cons, List.map_nil, Nat.zero_add, Tryd.ntmps24]
    rw [zdm]
    repeat' (first
  | (refine zah ?_; simp)
  | (refine zak ?_; simp)
  | (refine zai ?_; simp)
  | (refine zag ?_; simp)
  | (refine zaq ?_; simp only [zal])
  | (refine CallP.okL (ho _) (by first | (simp [zaa, getK, zab, zac, zaj, zat, del]; done) | fail) (by rfl) (by first | assumption | (simp; done) | fail) (by rfl) (by simp) ?_; (try simp [zbe, del]))
  | fail)
    refine zfv hesc hdfr rfl (by simp) ?_
    have hn0 := hn
    have hpan0 := hpan
    intro Γ' hn hpan
    simp
    repeat' (first
  | (refine zah ?_; simp [hk, del])
  | (refine zak ?_; simp [hk, del])
  | (refine zai ?_; simp [hk, del])
  | (refine CallP.fun_ (hnx) (by first | rfl | fail) (by first | assumption | (simp; done) | fail) (by first | (simp [hk, del]; done) | (simp [hk, del]; rfl) | fail) (by first | (simp; done) | fail) (fun d hd => ?_); subst hd; (try simp [hk, del]))
  | (refine CallP.ok1 (hEx) (by first | (simp [hk, del, zaa, getK, zab, zac]; done) | fail) (by rfl) (by first | assumption | (simp; done) | fail) (by rfl) (by simp) ?_; (try simp [hk, del]))
  | (refine CallP.zfc (hc1 _ (by simp)) (by first | (simp [hk, del, zaa, getK, zab, zac]; done) | fail) (by rfl) (by first | assumption | (simp; done) | fail) (by rfl) (by simp) ?_; rintro ob' ⟨q', rfl⟩; refine ⟨_, Wk.refl _, ?_⟩)
  | fail)
    refine hpan _ _ ?_
    refine LeaveD.of [(1, .box [.u (.int .i64 0)]), (2, .box [.u (.int .i64 0)]), (0, zi1)] (by simp [zaa, getK, zab, zac]) (zhE 1 2 0 _ (by simp) (by simp) (by simp) (by decide) (by decide) (by decide) 0 0 _ _ 0 0 0 [] .nil) ?_
    simp only [show Γ.base.n0 = 0 from hn0]
    simp [zbe, del]
    refine EndW.norm ?_
    simp [St.norm, zbq, zcf, zcy, zcz]
    (refine EndW.here ?_; (first | (refine EndOK.fin (.inr rfl) ?_) | (refine EndOK.fin (.inl rfl) ?_)); simp [zay, zae, Tryd.results24]; refine FinOK.here (by simp) ?_; try simp)
    simp [znV, Exp.row, zfD]
theorem zfx (s : List UInt8) : Fun Tryd.prog 24 [.u (.str s)] (· = .tup [za3 (zfw s).1, .u (.int .i64 (zfw s).2.1), .u (.int .i64 (zfw s).2.2)]) := by
 unfold Fun
 exact (ziC s).ret (fun d o n h => by
  cases h
  refine ⟨by simp [znV, zau], ?_⟩
  rw [znV, Exp.row_eq]
  rfl) (fun ch o n h => by cases h)
end Go.Proofs.YtfcopibncpkdoaaDoor
namespace Go.Proofs.YtfcopibncpkdoaaDoor
open Go Go.VL
mutual
def zpM : Exp → Int
 | .mk _ _ _ _ args => zmb args + 1
def zmb : List Exp → Int
 | [] => 0
 | e :: l => max (zpM e) (zmb l)
end
theorem zgJ (l : List Int) (a : Int) (ha : 0 ≤ a) : l.foldl max a = max a (l.foldl max 0) := by
 induction l generalizing a with
 | nil => simp; omega
 | cons b l ih => simp only [List.foldl_cons]; rw [ih (max a b) (by omega), ih (max 0 b) (by omega)]; omega
mutual
theorem zmc : ∀ e : Exp, zpM e = e.lev
 | .mk op n u s args => by rw [zpM, Exp.zgC, zkh]; rfl
theorem zkh : ∀ l : List Exp, zmb l = (l.map Exp.lev).foldl max 0
 | [] => by rw [zmb]; rfl
 | e :: l => by
  have := e.lev_pos
  rw [zmb, zmc, zkh, List.map_cons, List.foldl_cons, zgJ (l.map Exp.lev) (max 0 e.lev) (by omega)]
  omega
end
/-- The same az zfw, to be computed with. -/
def zcx (s : List UInt8) : Exp × Int × Int := match zl8 s with
 | .error (p, e) => (zfD, p, e)
 | .ok l => match zeM l (4 * l.length + 3) 0 0 with
  | .stop pos e => (zfD, pos, e)
  | .ok y q => if zkk l q ≠ 0 then (zfD, ziy l q, 12) else if 12 < zpM y then (zfD, ziy l q, 6) else (y, 0, 0)
theorem ziB (s : List UInt8) : zfw s = zcx s := by
 unfold zfw zcx
 simp only [zmc]
 try rfl
def ofP (s : List UInt8) (vars : List Var) : Int × Int := if (zcx s).2.2 ≠ 0 then (-1, (zcx s).2.2) else zdG [] vars (zcx s).1
attribute [local simp] HS zcp zbN evPure opd uOf zaB St.put St.at getK binD binI binS binB nilD aggD zeJ ze8 lookD lookR zbT Go.VL.nextD zbY zfe zfd zev zbM mkV zaW zaP zaO zaN zcm zaM za1 zbc mapEff zcS zek Key.kk shiftI arith unD convD zcP loadD cellsAt fieldAddrD fieldD indexAddrD indexD sliceD cutD lenD minmaxD nilCheckD buildD fillD zbt zcq zdR setAll zcg zdy zbQ zeN zbO St.add zaC zbj rowsOf zcM zce zaj zac zaa za5 zcl zaH entry za4 za6 valD zbS zb7 zez zct zcu zbx zbs zav zaT za7 delAll effD St.effS zb9 zaQ zaI zca zaR zaK zby zaJ zaD zbz zb8 zbb zbw zaZ zbu zbv zat mkD zbk zbd zbB zav zbP D.ids Op.operands Call.operands za8 makeIfD typeAssertD ze6 zcH zcI zeR zbV IntKind.bits zch List.take_of_length_le List.range_succ
attribute [local irreducible] V G H HD HD2 HD4 zhn RetX zal Eff CallP CallV EndOK Fun Ret FinOK LoopI LoopW EndW
theorem zpm (s : List UInt8) (vars : List Var) : Fun Tryd.prog 23 [.u (.str s), .u (zcF vars)] (· = .tup [.u (.int .i64 (ofP s vars).1), .u (.int .i64 (ofP s vars).2)]) := by
 have h1 := zfx s
 rw [ziB] at h1
 have h2 := zeP [] vars (zcx s).1
 unfold ofP
 generalize hr : zcx s = R at *
 obtain ⟨y, p, er⟩ := R
 simp only at *
 by_cases he : er = 0
 ·subst he
  simp only [zaw, zcF, za3, List.map_nil, ne_eq, not_true_eq_false, if_false] at h1 h2 ⊢
  generalize zdG [] vars y = V at h2 ⊢
  (refine Fun.of_bodyW Tryd.func23 rfl (by simp) fun Γ hn => ?_); simp only [entry, List.zipIdx_cons, List.zipIdx_nil, List.map_cons, List.map_nil, Nat.zero_add, Tryd.ntmps23]
  repeat' (first
  | (refine zah ?_; simp)
  | (refine zak ?_; simp)
  | (refine zai ?_; simp)
  | (refine zag ?_; simp)
  | (refine zar ?_; simp only [zal])
  | (refine zaq ?_; simp only [zal])
  | (refine CallP.fun_ (h1) (by first | rfl | fail) (by first | assumption | (simp; done) | fail) (by first | (simp; done) | (simp; rfl) | fail) (by first | (simp; done) | fail) (fun d hd => ?_); subst hd; (try simp))
  | (refine CallP.fun_ (h2) (by first | rfl | fail) (by first | assumption | (simp; done) | fail) (by first | (simp; done) | (simp; rfl) | fail) (by first | (simp; done) | fail) (fun d hd => ?_); subst hd; (try simp))
  | fail)
  refine EndW.here ?_
  (refine EndOK.val (.inr rfl) ?_; simp [zay, zae, zau, Tryd.results23])
 ·simp only [zcF, za3, ne_eq, he, not_false_eq_true, if_true] at h1 h2 ⊢
  (refine Fun.of_bodyW Tryd.func23 rfl (by simp) fun Γ hn => ?_); simp only [entry, List.zipIdx_cons, List.zipIdx_nil, List.map_cons, List.map_nil, Nat.zero_add, Tryd.ntmps23]
  repeat' (first
  | (refine zah ?_; simp [he])
  | (refine zak ?_; simp [he])
  | (refine zai ?_; simp [he])
  | (refine zag ?_; simp [he])
  | (refine zar ?_; simp only [zal])
  | (refine CallP.fun_ (h1) (by first | rfl | fail) (by first | assumption | (simp; done) | fail) (by first | (simp [he]; done) | (simp [he]; rfl) | fail) (by first | (simp; done) | fail) (fun d hd => ?_); subst hd; (try simp [he]))
  | fail)
  refine EndW.here ?_
  (refine EndOK.val (.inr rfl) ?_; simp [zay, zae, zau, Tryd.results23])
def zpV : Var := ⟨[112, 111, 116], 3, 999⟩
def vY (n : Int) (u : Int) : Var := ⟨[121], u, n⟩
def zqA : Var := ⟨[98, 105, 100], 0, 10⟩
def zpW (n : Int) : Var := ⟨[109, 101, 109, 98, 101, 114, 115], 0, n⟩
def tx1 : List UInt8 := [112, 111, 116, 32, 42, 32, 53, 48, 32, 112, 101, 114, 32, 109, 105, 108, 108, 101, 32, 45, 32, 98, 105, 100, 32, 47, 32, 109, 101, 109, 98, 101, 114, 115]
def tx2 : List UInt8 := [40, 32, 48, 32, 45, 32, 55, 32, 41, 32, 47, 32, 50]
def tx3 : List UInt8 := [105, 102, 32, 109, 101, 109, 98, 101, 114, 115, 32, 61, 61, 32, 48, 32, 116, 104, 101, 110, 32, 48, 32, 99, 111, 105, 110, 115, 32, 101, 108, 115, 101, 32, 112, 111, 116, 32, 47, 32, 109, 101, 109, 98, 101, 114, 115]
def tx4 : List UInt8 := [53, 32, 99, 111, 105, 110, 115]
def tx5 : List UInt8 := [120, 32, 43, 32, 121]
def tx6 : List UInt8 := [122, 32, 43, 32, 49, 32, 99, 111, 105, 110, 115]
def tx7 : List UInt8 := [121, 32, 47, 32, 48]
def tx8 : List UInt8 := [121, 32, 42, 32, 121]
theorem pf1 : ofP tx1 [zpV, zqA, zpW 3] = (46, 0) := by kernel_rfl
theorem pf2 : ofP tx2 [] = (-4, 0) := by kernel_rfl
theorem pf3 : ofP tx3 [zpW 0, zpV] = (0, 0) := by kernel_rfl
theorem pf4 : (zcx tx4).2 = (0, 0) := by kernel_rfl
theorem pf5 : (zcx tx5).2 = (0, 0) := by kernel_rfl
theorem pf6 : (zcx tx6).2 = (0, 0) := by kernel_rfl
theorem pf7 : ofP tx7 [vY 2 3] = (0, 15) := by kernel_rfl
theorem pf8 : ofP tx8 [vY 1073741824 0] = (0, 3) := by kernel_rfl
theorem pfd : zdG [⟨[120], (zcx tx4).1⟩, ⟨[122], (zcx tx5).1⟩] [vY 2 3] (zcx tx6).1 = (8, 0) := by kernel_rfl
theorem zlW {s : List UInt8} {vars : List Var} {r : Int × Int} (h : ofP s vars = r) : Fun Tryd.prog 23 [.u (.str s), .u (.sl (vars.map fun v => [.str v.name, .int .i64 v.unit, .int .i64 v.n]))] (· = .tup [.u (.int .i64 r.1), .u (.int .i64 r.2)]) := by
 subst h
 exact zpm s vars
theorem zhF {s : List UInt8} (h : (zcx s).2 = (0, 0)) : Fun Tryd.prog 24 [.u (.str s)] (· = .tup [za3 (zcx s).1, .u (.int .i64 0), .u (.int .i64 0)]) := by
 have h1 := zfx s
 rw [ziB, h] at h1
 exact h1
theorem zlF : Fun Tryd.prog 9 [] (· = .u (.bool true)) := by
 have h1 := zlW pf1
 have h2 := zlW pf2
 have h3 := zlW pf3
 have h4 := zhF pf4
 have h5 := zhF pf5
 have h6 := zhF pf6
 have h7 := zlW pf7
 have h8 := zlW pf8
 have h9 := zeP [⟨[120], (zcx tx4).1⟩, ⟨[122], (zcx tx5).1⟩] [vY 2 3] (zcx tx6).1
 rw [pfd] at h9
 generalize (zcx tx4).1 = e4 at *
 generalize (zcx tx5).1 = e5 at *
 generalize (zcx tx6).1 = e6 at *
 simp only [List.map_cons, List.map_nil, zaw, zcF, za3, zpV, zqA, zpW, vY, tx1, tx2, tx3, tx4, tx5, tx6, tx7, tx8] at h1 h2 h3 h4 h5 h6 h7 h8 h9
 (refine Fun.of_bodyW Tryd.func9 rfl (by simp) fun Γ hn => ?_); simp only [entry, List.zipIdx_cons, List.zipIdx_nil, List.map_cons, List.map_nil, Nat.zero_add, Tryd.ntmps9]
 repeat' (first
  | (refine zah ?_; simp)
  | (refine zak ?_; simp)
  | (refine zai ?_; simp)
  | (refine zar ?_; simp only [zal])
  | (refine CallP.fun_ (h1) (by first | rfl | fail) (by first | assumption | (simp; done) | fail) (by first | (simp; done) | (simp; rfl) | fail) (by first | (simp; done) | fail) (fun d hd => ?_); subst hd; (try simp))
  | (refine CallP.fun_ (h2) (by first | rfl | fail) (by first | assumption | (simp; done) | fail) (by first | (simp; done) | (simp; rfl) | fail) (by first | (simp; done) | fail) (fun d hd => ?_); subst hd; (try simp))
  | (refine CallP.fun_ (h3) (by first | rfl | fail) (by first | assumption | (simp; done) | fail) (by first | (simp; done) | (simp; rfl) | fail) (by first | (simp; done) | fail) (fun d hd => ?_); subst hd; (try simp))
  | (refine CallP.fun_ (h4) (by first | rfl | fail) (by first | assumption | (simp; done) | fail) (by first | (simp; done) | (simp; rfl) | fail) (by first | (simp; done) | fail) (fun d hd => ?_); subst hd; (try simp))
  | (refine CallP.fun_ (h5) (by first | rfl | fail) (by first | assumption | (simp; done) | fail) (by first | (simp; done) | (simp; rfl) | fail) (by first | (simp; done) | fail) (fun d hd => ?_); subst hd; (try simp))
  | (refine CallP.fun_ (h6) (by first | rfl | fail) (by first | assumption | (simp; done) | fail) (by first | (simp; done) | (simp; rfl) | fail) (by first | (simp; done) | fail) (fun d hd => ?_); subst hd; (try simp))
  | (refine CallP.fun_ (h7) (by first | rfl | fail) (by first | assumption | (simp; done) | fail) (by first | (simp; done) | (simp; rfl) | fail) (by first | (simp; done) | fail) (fun d hd => ?_); subst hd; (try simp))
  | (refine CallP.fun_ (h8) (by first | rfl | fail) (by first | assumption | (simp; done) | fail) (by first | (simp; done) | (simp; rfl) | fail) (by first | (simp; done) | fail) (fun d hd => ?_); subst hd; (try simp))
  | (refine CallP.fun_ (h9) (by first | rfl | fail) (by first | assumption | (simp; done) | fail) (by first | (simp; done) | (simp; rfl) | fail) (by first | (simp; done) | fail) (fun d hd => ?_); subst hd; (try simp))
  | fail)
 refine EndW.here ?_
 (refine EndOK.val (.inr rfl) ?_; simp [zay, zae, zau, Tryd.results9])
end Go.Proofs.YtfcopibncpkdoaaDoor
namespace Go.Proofs.YtfcopibncpkdoaaDoor
open Go Go.VL
attribute [local simp] zcp zbN evPure opd uOf zaB St.put St.at getK binD binI binS binB nilD aggD zeJ ze8 lookD lookR zbT Go.VL.nextD zbY zfe zfd zev zbM mkV zaW zaP zaO zaN zcm zaM za1 zbc mapEff zcS zek Key.kk shiftI arith unD convD zcP loadD cellsAt fieldAddrD fieldD indexAddrD indexD sliceD cutD lenD minmaxD nilCheckD buildD fillD zbt zcq zdR setAll zcg zdy zbQ zeN zbO St.add zaC zbj rowsOf zcM zce zaj zac zaa za5 zcl zaH entry za4 za6 valD zbS zb7 zez zct zcu zbx zbs zav zaT za7 delAll effD St.effS zb9 zaQ zaI zca zaR zaK zby zaJ zaD zbz zb8 zbb zbw zaZ zbu zbv zat mkD zbk zbd zbB zav zbP D.ids Op.operands Call.operands za8 makeIfD typeAssertD ze6 zcH zcI zeR zbV IntKind.bits zch List.take_of_length_le List.range_succ
attribute [local irreducible] V G H HD HD2 zal Eff CallP CallV EndOK Fun Ret FinOK LoopI LoopW EndW
def zcb : Nat → Exp → Int → Int
 | 0, _, most => most + 1
 | L + 1, e, most => if 40 < e.s.length then most + 1 else e.args.foldl (fun n x => if n ≤ most then n + zcb L x (most - n) else n) 1
theorem zgc (L : Nat) (e : Exp) (most : Int) : zcb (L + 1) e most = if 40 < e.s.length then most + 1 else e.args.foldl (fun n x => if n ≤ most then n + zcb L x (most - n) else n) 1 := by rw [zcb]
theorem zeD : ∀ (L : Nat) (e : Exp) (most : Int), 0 ≤ most → 1 ≤ zcb L e most ∧ zcb L e most ≤ most + 1
 | 0, e, most, h => by rw [zcb]; omega
 | L + 1, e, most, h => by
  rw [zcb]
  split
  ·omega
  ·have : ∀ (l : List Exp) (n : Int), 1 ≤ n → n ≤ most + 1 → 1 ≤ l.foldl (fun n x => if n ≤ most then n + zcb L x (most - n) else n) n ∧ l.foldl (fun n x => if n ≤ most then n + zcb L x (most - n) else n) n ≤ most + 1 := by
    intro l
    induction l with
    | nil => intro n h1 h2; exact ⟨h1, h2⟩
    | cons a l ih =>
     intro n h1 h2
     rw [List.foldl_cons]
     split
     ·rename_i hn
      have := zeD L a (most - n) (by omega)
      exact ih _ (by omega) (by omega)
     ·exact ih n h1 h2
   exact this _ 1 (by omega) (by omega)
theorem zes {L : Nat} {most : Int} : ∀ (l : List Exp) (n : Int), ¬ n ≤ most → l.foldl (fun n x => if n ≤ most then n + zcb L x (most - n) else n) n = n
 | [], _, _ => rfl
 | a :: l, n, h => by rw [List.foldl_cons, if_neg h]; exact zes l n h
theorem ziH : ∀ (L : Nat) (e : Exp) (most : Int), 0 ≤ most → most ≤ 1000 → (L : Int) ≤ 100 → Fun Tryd.prog 26 [za3 e, .u (.int .i64 most), .u (.int .i64 L)] (· = .u (.int .i64 (zcb L e most)))
 | 0, e, most, _, _, _ => by
  rw [zcb]
  (refine Fun.of_body Tryd.func26 rfl (by simp) fun Γ hn => ?_); simp only [entry, List.zipIdx_cons, List.zipIdx_nil, List.map_cons, List.map_nil, Nat.zero_add, Tryd.ntmps26]
  simp only [za3]
  repeat' (first
  | (refine zah ?_; simp)
  | (refine zak ?_; simp)
  | (refine ⟨by omega, ?_⟩)
  | (refine zai ?_; simp)
  | (refine zag ?_; simp)
  | (refine zar ?_; simp only [zal])
  | fail)
  (refine EndOK.val (.inr rfl) ?_; simp [zay, zae, zau, Tryd.results26])
 | L + 1, e, most, h0, h1, hL => by
  rw [zgc]
  by_cases hs : 40 < e.s.length
  ·rw [if_pos hs]
   (refine Fun.of_body Tryd.func26 rfl (by simp) fun Γ hn => ?_); simp only [entry, List.zipIdx_cons, List.zipIdx_nil, List.map_cons, List.map_nil, Nat.zero_add, Tryd.ntmps26]
   simp only [za3]
   repeat' (first
  | (refine zah ?_; simp)
  | (refine zak ?_; simp)
  | (refine ⟨by omega, ?_⟩)
  | (refine zai ?_; simp)
  | (refine zag ?_; simp)
  | (refine zar ?_; simp only [zal])
  | (refine ⟨?_, by omega⟩)
  | (intro hc <;> (try (exfalso; omega)))
  | fail)
   all_goals first
    | (exfalso; omega)
    | ((refine EndOK.val (.inr rfl) ?_; simp [zay, zae, zau, Tryd.results26]); done)
  rw [if_neg hs]
  generalize hg : (e.args.foldl (fun n x => if n ≤ most then n + zcb L x (most - n) else n) 1) = g
  (refine Fun.of_body Tryd.func26 rfl (by simp) fun Γ hn => ?_); simp only [entry, List.zipIdx_cons, List.zipIdx_nil, List.map_cons, List.map_nil, Nat.zero_add, Tryd.ntmps26]
  simp only [za3]
  refine zmP (x := 0) (j := 4) rfl rfl fun hl => ?_
  simp only [List.length_map] at hl
  repeat' (first
  | (refine zah ?_; simp)
  | (refine zak ?_; simp)
  | (refine ⟨by omega, ?_⟩)
  | (refine zai ?_; simp)
  | (refine zag ?_; simp)
  | (refine zam ?_; simp)
  | (refine zaq ?_; simp only [zal])
  | (refine ⟨?_, by omega⟩)
  | (intro hc <;> (try (exfalso; omega)))
  | fail)
  refine zbG (α := { p : Nat × Int // p.1 ≤ e.args.length ∧ 1 ≤ p.2 ∧ p.2 ≤ most + 1 ∧ g = (e.args.drop p.1).foldl (fun n x => if n ≤ most then n + zcb L x (most - n) else n) p.2 }) [1, 2, 3] (fun p => [(7, .u (.int .i64 p.1.2)), (8, .u (.int .i64 p.1.1))]) (fun p => e.args.length - p.1.1) ⟨(0, 1), by simp, by simp, by simp; omega, by simp [hg]⟩ ?_ ?_
  ·exact (Wk.cut rfl (by simp [hn, St.lp]) (by simp [wkO, St.lp, zaa, getK, Ob.under, D.under, zad, zaf]) (by simp [wkU, St.lp, zap, zaa, getK, D.under]) (by simp [wkE, St.lp, zap, zaa, getK] <;> (try (intros; simp_all; done)) <;> (try (intros; omega)) <;> (try grind)))
  rintro ⟨⟨i, n⟩, hi, hn1, hn2, hgn⟩
  simp only at hi hn1 hn2 hgn
  simp [St.lp, St.only, zap, zaa, getK]
  rcases hx : e.args[i]? with _ | x
  ·have hge : e.args.length ≤ i := by simpa using hx
   rw [List.drop_of_length_le hge] at hgn
   repeat' (first
  | (refine zah ?_; simp [hx])
  | (refine zak ?_; simp [hx])
  | (refine ⟨by omega, ?_⟩)
  | (refine zai ?_; simp [hx])
  | (refine zag ?_; simp [hx])
  | (refine zar ?_; simp only [zal])
  | (refine zba ?_; simp [zal])
  | (intro hc <;> (try (exfalso; omega)))
  | fail)
   (refine EndOK.val (.inr rfl) ?_; simp [zay, zae, zau, Tryd.results26])
   rw [hgn]; rfl
  ·have hlt : i < e.args.length := (List.getElem?_eq_some_iff.1 hx).1
   by_cases hm : n ≤ most
   ·have h5 := ziH L x (most - n) (by omega) (by omega) (by omega)
    have hb := zeD L x (most - n) (by omega)
    simp only [za3] at h5
    rw [List.drop_eq_getElem_cons hlt, List.foldl_cons, if_pos hm, (List.getElem?_eq_some_iff.1 hx).2] at hgn
    generalize zcb L x (most - n) = y at h5 hb hgn
    repeat' (first
  | (refine zah ?_; simp [hx, x.row_eq])
  | (refine zak ?_; simp [hx, x.row_eq])
  | (refine ⟨by omega, ?_⟩)
  | (refine zai ?_; simp [hx, x.row_eq])
  | (refine zag ?_; simp [hx, x.row_eq])
  | (refine zas ?_; simp [hx, x.row_eq])
  | (refine zaq ?_; simp only [zal])
  | (refine ⟨?_, by omega⟩)
  | (intro hc <;> (try (exfalso; omega)))
  | (refine CallP.fun_ (h5) (by first | rfl | fail) (by first | assumption | (simp; done) | fail) (by first | (simp [hx, x.row_eq]; done) | (simp [hx, x.row_eq]; rfl) | fail) (by first | (simp; done) | fail) (fun d hd => ?_); subst hd; (try simp [hx, x.row_eq]))
  | fail)
    refine LoopW.next ⟨(i + 1, n + y), (by omega : i + 1 ≤ e.args.length), (by omega : 1 ≤ n + y), (by omega : n + y ≤ most + 1), hgn⟩ (by simp; omega) ?_
    exact (Wk.cut rfl (by simp [hn, St.lp]) (by simp [wkO, St.lp, zaa, getK, Ob.under, D.under, zad, zaf]) (by simp [wkU, St.lp, zap, zaa, getK, D.under]) (by simp [wkE, St.lp, zap, zaa, getK] <;> (try (intros; simp_all; done)) <;> (try (intros; omega)) <;> (try grind)))
   ·rw [zes _ _ hm] at hgn
    repeat' (first
  | (refine zah ?_; simp [hx])
  | (refine zak ?_; simp [hx])
  | (refine ⟨by omega, ?_⟩)
  | (refine zai ?_; simp [hx])
  | (refine zag ?_; simp [hx])
  | (refine zar ?_; simp only [zal])
  | (refine zba ?_; simp [zal])
  | (refine ⟨?_, by omega⟩)
  | (intro hc <;> (try (exfalso; omega)))
  | fail)
    (refine EndOK.val (.inr rfl) ?_; simp [zay, zae, zau, Tryd.results26])
    rw [hgn]
def zjh (e : Exp) : Bool := decide (zcb 14 e 80 ≤ 80)
theorem zc2 (e : Exp) : Fun Tryd.prog 11 [za3 e] (· = .u (.bool (zjh e))) := by
 have h2 := ziH 14 e 80 (by omega) (by omega) (by omega)
 unfold zjh
 simp only [za3] at h2 ⊢
 generalize zcb 14 e 80 = y at h2 ⊢
 (refine Fun.of_body Tryd.func11 rfl (by simp) fun Γ hn => ?_); simp only [entry, List.zipIdx_cons, List.zipIdx_nil, List.map_cons, List.map_nil, Nat.zero_add, Tryd.ntmps11]
 repeat' (first
  | (refine zah ?_; simp)
  | (refine zak ?_; simp)
  | (refine zai ?_; simp)
  | (refine zar ?_; simp only [zal])
  | (refine CallP.fun_ (h2) (by first | rfl | fail) (by first | assumption | (simp; done) | fail) (by first | (simp; done) | (simp; rfl) | fail) (by first | (simp; done) | fail) (fun d hd => ?_); subst hd; (try simp))
  | fail)
 (refine EndOK.val (.inr rfl) ?_; simp [zay, zae, zau, Tryd.results11])
mutual
def zdL : Exp → Int
 | .mk op _ _ _ args => (if op = 1 then 1 else 0) + zbD args
def zbD : List Exp → Int
 | [] => 0
 | e :: r => zdL e + zbD r
end
theorem ziK (e : Exp) : zdL e = (if e.op = 1 then 1 else 0) + zbD e.args := by cases e with | mk op n u s args => rw [zdL]; rfl
mutual
theorem zdZ : ∀ e : Exp, 0 ≤ zdL e
 | .mk op n u s args => by
  rw [zdL]
  have := zcA args
  split <;> omega
theorem zcA : ∀ l : List Exp, 0 ≤ zbD l
 | [] => by rw [zbD]; omega
 | e :: r => by
  rw [zbD]
  have := zdZ e
  have := zcA r
  omega
end
theorem zkW {l : List Exp} {i : Nat} {x : Exp} (h : l[i]? = some x) : zbD (l.take (i + 1)) = zbD (l.take i) + zdL x := by
 induction l generalizing i with
 | nil => simp at h
 | cons a l ih =>
  cases i with
  | zero => simp at h; subst h; simp [zbD]
  | succ i => rw [List.take_succ_cons, List.take_succ_cons, zbD, zbD, ih (i := i) (by simpa using h)]; omega
theorem zkV {l : List Exp} (i : Nat) : zbD (l.take i) ≤ zbD l := by
 induction l generalizing i with
 | nil => simp
 | cons a l ih =>
  cases i with
  | zero => rw [List.take_zero]; have := zcA (a :: l); rw [show zbD [] = 0 by rw [zbD]]; exact this
  | succ i => rw [List.take_succ_cons, zbD, zbD]; have := ih i; omega
/-- Few nodes: few names. -/
theorem ziZ : ∀ (L : Nat) (e : Exp) (most : Int), 0 ≤ most → zcb L e most ≤ most → zdL e ≤ zcb L e most
 | 0, e, most, _, h => by rw [zcb] at h; omega
 | L + 1, e, most, h0, h => by
  rw [zgc] at h ⊢
  by_cases hs : 40 < e.s.length
  ·rw [if_pos hs] at h; omega
  rw [if_neg hs] at h ⊢
  have key : ∀ (l : List Exp) (n : Int), 1 ≤ n → l.foldl (fun n x => if n ≤ most then n + zcb L x (most - n) else n) n ≤ most → n + zbD l ≤ l.foldl (fun n x => if n ≤ most then n + zcb L x (most - n) else n) n := by
   intro l
   induction l with
   | nil => intro n _ _; rw [zbD]; simp
   | cons a l ih =>
    intro n h1 h2
    rw [List.foldl_cons] at h2 ⊢
    by_cases hn : n ≤ most
    ·rw [if_pos hn] at h2 ⊢
     have hb := zeD L a (most - n) (by omega)
     have h3 := ih _ (by omega) h2
     have h4 : n + zcb L a (most - n) ≤ most := by
      rcases Int.lt_or_le most (n + zcb L a (most - n)) with h5 | h5
      ·rw [zes _ _ (by omega)] at h2; omega
      ·exact h5
     have h5 := ziZ L a (most - n) (by omega) (by omega)
     rw [zbD]
     omega
    ·rw [if_neg hn, zes _ _ hn] at h2; omega
  have h1 := key e.args 1 (by omega) h
  rw [ziK]
  by_cases h3 : e.op = 1
  ·rw [if_pos h3]; omega
  ·rw [if_neg h3]; omega
theorem zgW : ∀ (m : Nat) (e : Exp), SizeOf.sizeOf e ≤ m → zdL e ≤ 1000000 → Fun Tryd.prog 25 [za3 e] (· = .u (.int .i64 (zdL e)))
 | 0, e, hm, _ => by cases e; simp at hm
 | m + 1, e, hm, hN => by
  have hch : ∀ x ∈ e.args, SizeOf.sizeOf x ≤ m := fun x hx => by
   cases e with
   | mk op n u s args =>
    have h1 := List.sizeOf_lt_of_mem (show x ∈ args from hx)
    simp at hm
    omega
  rw [ziK] at hN ⊢
  have hnn := zcA e.args
  generalize hk : (if e.op = 1 then (1 : Int) else 0) = k0 at hN ⊢
  have hk01 : 0 ≤ k0 ∧ k0 ≤ 1 := by rw [← hk]; split <;> omega
  (refine Fun.of_body Tryd.func25 rfl (by simp) fun Γ hn => ?_); simp only [entry, List.zipIdx_cons, List.zipIdx_nil, List.map_cons, List.map_nil, Nat.zero_add, Tryd.ntmps25]
  simp only [za3]
  refine zmP (x := 0) (j := 4) rfl rfl fun hl => ?_
  simp only [List.length_map] at hl
  repeat' (first
  | (refine zah ?_; simp)
  | (refine zak ?_; simp)
  | (refine zai ?_; simp)
  | (refine zag ?_; simp)
  | (refine zam ?_; simp)
  | (refine zas ?_; simp)
  | (refine zaq ?_; simp only [zal])
  | (refine ⟨fun hc => ?_, fun hc => ?_⟩ <;> (try (exfalso; omega)))
  | fail)
  all_goals
   refine zbG (α := { i : Nat // i ≤ e.args.length }) [1] (fun i => [(3, .u (.int .i64 (k0 + zbD (e.args.take i.1)))), (4, .u (.int .i64 i.1))]) (fun i => e.args.length - i.1) ⟨0, by omega⟩ ?_ ?_
   ·exact (Wk.cut rfl (by simp [hn, St.lp]) (by simp [wkO, St.lp, zaa, getK, Ob.under, D.under, zad, zaf, zbD]) (by simp [wkU, St.lp, zap, zaa, getK, D.under, zbD]) (by simp [wkE, St.lp, zap, zaa, getK, zbD] <;> (try (intros; simp_all; done)) <;> (try (intros; omega)) <;> (try grind)))
   rintro ⟨i, hi⟩
   simp [St.lp, St.only, zap, zaa, getK]
   rcases hx : e.args[i]? with _ | x
   ·have hge : e.args.length ≤ i := by simpa using hx
    obtain rfl : i = e.args.length := by omega
    repeat' (first
  | (refine zah ?_; simp [hx])
  | (refine zak ?_; simp [hx])
  | (refine zai ?_; simp [hx])
  | (refine zag ?_; simp [hx])
  | (refine zar ?_; simp only [zal])
  | (refine zba ?_; simp [zal])
  | fail)
    (refine EndOK.val (.inr rfl) ?_; simp [zay, zae, zau, Tryd.results25])
   ·have hlt : i < e.args.length := (List.getElem?_eq_some_iff.1 hx).1
    have hat := zkW hx
    have hle := zkV (l := e.args) (i + 1)
    have hn0 := zcA (e.args.take i)
    have hnx := zdZ x
    have h5 := zgW m x (hch x (List.mem_of_getElem? hx)) (by omega)
    simp only [za3] at h5
    repeat' (first
  | (refine zah ?_; simp [hx, x.row_eq])
  | (refine zak ?_; simp [hx, x.row_eq])
  | (refine ⟨by omega, ?_⟩)
  | (refine zai ?_; simp [hx, x.row_eq])
  | (refine zag ?_; simp [hx, x.row_eq])
  | (refine zas ?_; simp [hx, x.row_eq])
  | (refine zaq ?_; simp only [zal])
  | (refine ⟨?_, by omega⟩)
  | (intro hc <;> (try (exfalso; omega)))
  | (refine CallP.fun_ (h5) (by first | rfl | fail) (by first | assumption | (simp; done) | fail) (by first | (simp [hx, x.row_eq]; done) | (simp [hx, x.row_eq]; rfl) | fail) (by first | (simp; done) | fail) (fun d hd => ?_); subst hd; (try simp [hx, x.row_eq]))
  | fail)
    all_goals
     refine LoopW.next ⟨i + 1, by omega⟩ (by simp; omega) ?_
     exact (Wk.cut rfl (by simp [hn, St.lp]) (by simp [wkO, St.lp, zaa, getK, Ob.under, D.under, zad, zaf, hat, Int.add_assoc]) (by simp [wkU, St.lp, zap, zaa, getK, D.under, hat, Int.add_assoc]) (by simp [wkE, St.lp, zap, zaa, getK, hat, Int.add_assoc] <;> (try (intros; simp_all; done)) <;> (try (intros; omega)) <;> (try grind)))
def zle : List Let → Int → Int → Bool
 | [], _, _ => true
 | l :: r, i, p => if i ≤ 22 then (if 40 < l.name.length ∨ zjh l.body = false then false else if 2000 < p * (1 + zdL l.body) then false else zle r (i + 1) (p * (1 + zdL l.body))) else true
def zqp (vs : List Var) : Bool := (vs.take 21).all fun v => decide (v.name.length ≤ 40)
def zjI (l : List Let) (vs : List Var) : Bool := zle l 0 1 && zqp vs && decide ((l.length : Int) ≤ 22) && decide ((vs.length : Int) ≤ 20)
theorem zmw (l : List Let) (vs : List Var) : Fun Tryd.prog 10 [.u (zaw l), .u (zcF vs)] (· = .u (.bool (zjI l vs))) := by
 unfold zjI
 generalize hB : zle l 0 1 = B
 generalize hV : zqp vs = C
 unfold zqp at hV
 (refine Fun.of_body Tryd.func10 rfl (by simp) fun Γ hn => ?_); simp only [entry, List.zipIdx_cons, List.zipIdx_nil, List.map_cons, List.map_nil, Nat.zero_add, Tryd.ntmps10]
 simp only [zaw, zcF]
 refine zfJ (x := 0) rfl fun hl => ?_
 refine zfJ (x := 1) rfl fun hlv => ?_
 simp only [List.length_map] at hl hlv
 repeat' (first
  | (refine zah ?_; simp)
  | (refine zak ?_; simp)
  | (refine zai ?_; simp)
  | (refine zam ?_; simp)
  | fail)
 refine zbG (α := { q : Nat × Int // q.1 ≤ l.length ∧ (q.1 : Int) ≤ 23 ∧ 1 ≤ q.2 ∧ q.2 ≤ 2000 ∧ B = zle (l.drop q.1) q.1 q.2 }) [0, 1] (fun q => [(5, .u (.int .i64 q.1.2)), (6, .u (.int .i64 q.1.1))]) (fun q => l.length - q.1.1) ⟨(0, 1), by omega, by omega, by omega, by omega, by simpa using hB.symm⟩ ?_ ?_
 ·exact (Wk.env rfl rfl rfl (by simp [wkE, St.lp, zap, zaa, getK] <;> (try (intros; simp_all; done)) <;> (try (intros; omega)) <;> (try grind)))
 rintro ⟨⟨i, p⟩, hi, him, hp1, hp2, hb⟩
 simp only at hi him hp1 hp2 hb
 simp [St.lp, St.only, zap, zaa, getK]
 rcases hx : l[i]? with _ | x
 ·have hge : l.length ≤ i := by simpa using hx
  obtain rfl : i = l.length := by omega
  rw [List.drop_length, zle] at hb
  subst hb
  repeat' (first
  | (refine zah ?_; simp [hx])
  | (refine zak ?_; simp [hx])
  | (refine zai ?_; simp [hx])
  | (refine zag ?_; simp [hx])
  | (refine zam ?_; simp [hx])
  | (refine zba ?_; simp [zal])
  | fail)
  refine zbG (α := { i : Nat // i ≤ vs.length ∧ (i : Int) ≤ 21 ∧ ∀ v ∈ vs.take i, decide (v.name.length ≤ 40) = true }) [0, 1] (fun i => [(7, .u (.int .i64 i.1))]) (fun i => vs.length - i.1) ⟨0, by omega, by omega, by simp⟩ ?_ ?_
  ·exact (Wk.env rfl rfl rfl (by simp [wkE, St.lp, zap, zaa, getK] <;> (try (intros; simp_all; done)) <;> (try (intros; omega)) <;> (try grind)))
  rintro ⟨k, hk0, hkn, hkb⟩
  simp [St.lp, St.only, zap, zaa, getK]
  have fin : (k = vs.length ∨ (k : Int) = 21) → C = true := fun h => by
   rw [← hV, List.all_eq_true]
   intro v hv
   refine hkb v ?_
   rcases h with h | h
   ·rw [h, List.take_length]; exact List.mem_of_mem_take hv
   ·rw [show k = 21 by omega]; exact hv
  rcases hy : vs[k]? with _ | v
  ·have hge2 : vs.length ≤ k := by simpa using hy
   obtain rfl : k = vs.length := by omega
   have := fin (.inl rfl)
   subst this
   repeat' (first
  | (refine zah ?_; simp [hy])
  | (refine zak ?_; simp [hy])
  | (refine zai ?_; simp [hy])
  | (refine zag ?_; simp [hy])
  | (refine zar ?_; simp only [zal])
  | (refine zba ?_; simp [zal])
  | (refine ⟨fun hc => ?_, fun hc => ?_⟩ <;> (try (exfalso; omega)))
  | fail)
   all_goals
    (refine EndOK.val (.inr rfl) ?_; simp [zay, zae, zau, Tryd.results10])
   all_goals (clear hB hV fin; simp_all <;> (try (intros; omega)))
  ·have hlt2 : k < vs.length := (List.getElem?_eq_some_iff.1 hy).1
   by_cases hm2 : (k : Int) ≤ 20
   ·by_cases hnv : 40 < v.name.length
    ·have hnv1 : 40 < (v.name.length : Int) := by omega
     repeat' (first
  | (refine zah ?_; simp [hy, hm2, hnv, hnv1])
  | (refine zak ?_; simp [hy, hm2, hnv, hnv1])
  | (refine zai ?_; simp [hy, hm2, hnv, hnv1])
  | (refine zag ?_; simp [hy, hm2, hnv, hnv1])
  | (refine zar ?_; simp only [zal])
  | (refine zaq ?_; simp only [zal])
  | (refine ⟨?_, by omega⟩)
  | (intro hc <;> (try (exfalso; omega)))
  | fail)
     (refine EndOK.val (.inr rfl) ?_; simp [zay, zae, zau, Tryd.results10])
     have : C = false := by
      rw [← hV, List.all_eq_false]
      exact ⟨v, List.mem_of_getElem? (i := k) (by rw [List.getElem?_take, if_pos (by omega)]; exact hy), by simp; omega⟩
     simp [this]
    ·have hnv1 : ¬ 40 < (v.name.length : Int) := by omega
     repeat' (first
  | (refine zah ?_; simp [hy, hm2, hnv, hnv1])
  | (refine zak ?_; simp [hy, hm2, hnv, hnv1])
  | (refine ⟨by omega, ?_⟩)
  | (refine zai ?_; simp [hy, hm2, hnv, hnv1])
  | (refine zag ?_; simp [hy, hm2, hnv, hnv1])
  | (refine zas ?_; simp [hy, hm2, hnv, hnv1])
  | (refine zaq ?_; simp only [zal])
  | (refine ⟨?_, by omega⟩)
  | (intro hc <;> (try (exfalso; omega)))
  | fail)
     refine LoopW.next ⟨k + 1, by omega, by omega, zaG hy hkb (by simp; omega)⟩ (by simp; omega) ?_
     exact (Wk.env rfl rfl rfl (by simp [wkE, St.lp, zap, zaa, getK] <;> (try (intros; simp_all; done)) <;> (try (intros; omega)) <;> (try grind)))
   ·have := fin (.inr (by omega))
    subst this
    repeat' (first
  | (refine zah ?_; simp [hy, hm2])
  | (refine zak ?_; simp [hy, hm2])
  | (refine zai ?_; simp [hy, hm2])
  | (refine zag ?_; simp [hy, hm2])
  | (refine zar ?_; simp only [zal])
  | (refine zba ?_; simp [zal])
  | (refine ⟨?_, by omega⟩)
  | (refine ⟨fun hc => ?_, fun hc => ?_⟩ <;> (try (exfalso; omega)))
  | (intro hc <;> (try (exfalso; omega)))
  | fail)
    all_goals
     (refine EndOK.val (.inr rfl) ?_; simp [zay, zae, zau, Tryd.results10])
    all_goals (clear hB hV fin; simp_all <;> (try (intros; omega)))
 ·have hlt : i < l.length := (List.getElem?_eq_some_iff.1 hx).1
  rw [List.drop_eq_getElem_cons hlt, (List.getElem?_eq_some_iff.1 hx).2, zle] at hb
  by_cases hm : (i : Int) ≤ 22
  ·rw [if_pos hm] at hb
   have h5 := zc2 x.body
   simp only [za3] at h5
   by_cases hn60 : 40 < x.name.length
   ·have hn61 : 40 < (x.name.length : Int) := by omega
    rw [if_pos (.inl hn60)] at hb
    repeat' (first
  | (refine zah ?_; simp [hx, hm, hn60, hn61])
  | (refine zak ?_; simp [hx, hm, hn60, hn61])
  | (refine zai ?_; simp [hx, hm, hn60, hn61])
  | (refine zag ?_; simp [hx, hm, hn60, hn61])
  | (refine zar ?_; simp only [zal])
  | (refine zaq ?_; simp only [zal])
  | (refine ⟨?_, by omega⟩)
  | (intro hc <;> (try (exfalso; omega)))
  | fail)
    (refine EndOK.val (.inr rfl) ?_; simp [zay, zae, zau, Tryd.results10])
    simp [hb]
   ·have hn61 : ¬ 40 < (x.name.length : Int) := by omega
    cases hf : zjh x.body with
    | false =>
     rw [if_pos (.inr hf)] at hb
     rw [hf] at h5
     repeat' (first
  | (refine zah ?_; simp [hx, hm, hn60, hn61])
  | (refine zak ?_; simp [hx, hm, hn60, hn61])
  | (refine zai ?_; simp [hx, hm, hn60, hn61])
  | (refine zag ?_; simp [hx, hm, hn60, hn61])
  | (refine zar ?_; simp only [zal])
  | (refine zaq ?_; simp only [zal])
  | (refine ⟨?_, by omega⟩)
  | (intro hc <;> (try (exfalso; omega)))
  | (refine CallP.fun_ (h5) (by first | rfl | fail) (by first | assumption | (simp; done) | fail) (by first | (simp [hx, hm, hn60, hn61]; done) | (simp [hx, hm, hn60, hn61]; rfl) | fail) (by first | (simp; done) | fail) (fun d hd => ?_); subst hd; (try simp [hx, hm, hn60, hn61]))
  | fail)
     (refine EndOK.val (.inr rfl) ?_; simp [zay, zae, zau, Tryd.results10])
     simp [hb]
    | true =>
     rw [if_neg (by simp [hn60, hf])] at hb
     rw [hf] at h5
     have hfn : zdL x.body ≤ 80 := by
      unfold zjh at hf
      simp only [decide_eq_true_eq] at hf
      have := ziZ 14 x.body 80 (by omega) hf
      omega
     have hnn := zdZ x.body
     have h6 := zgW _ x.body (Nat.le_refl _) (by omega)
     simp only [za3] at h6
     generalize zdL x.body = y at h6 hb hfn hnn
     have hpy : p * (1 + y) ≤ 2000 * 1001 := Int.mul_le_mul hp2 (by omega) (by omega) (by omega)
     have hpy1 : 1 ≤ p * (1 + y) := by
      have := Int.mul_le_mul hp1 (show (1 : Int) ≤ 1 + y by omega) (by omega) (by omega)
      omega
     generalize hq : p * (1 + y) = q at *
     by_cases hq2 : 2000 < q
     ·rw [if_pos hq2] at hb
      repeat' (first
  | (refine zah ?_; simp [hx, hm, hn60, hn61, hq, hq2])
  | (refine zak ?_; simp [hx, hm, hn60, hn61, hq, hq2])
  | (refine ⟨by omega, ?_⟩)
  | (refine zai ?_; simp [hx, hm, hn60, hn61, hq, hq2])
  | (refine zag ?_; simp [hx, hm, hn60, hn61, hq, hq2])
  | (refine zar ?_; simp only [zal])
  | (refine zaq ?_; simp only [zal])
  | (refine ⟨?_, by omega⟩)
  | (intro hc <;> (try (exfalso; omega)))
  | (refine CallP.fun_ (h5) (by first | rfl | fail) (by first | assumption | (simp; done) | fail) (by first | (simp [hx, hm, hn60, hn61, hq, hq2]; done) | (simp [hx, hm, hn60, hn61, hq, hq2]; rfl) | fail) (by first | (simp; done) | fail) (fun d hd => ?_); subst hd; (try simp [hx, hm, hn60, hn61, hq, hq2]))
  | (refine CallP.fun_ (h6) (by first | rfl | fail) (by first | assumption | (simp; done) | fail) (by first | (simp [hx, hm, hn60, hn61, hq, hq2]; done) | (simp [hx, hm, hn60, hn61, hq, hq2]; rfl) | fail) (by first | (simp; done) | fail) (fun d hd => ?_); subst hd; (try simp [hx, hm, hn60, hn61, hq, hq2]))
  | fail)
      (refine EndOK.val (.inr rfl) ?_; simp [zay, zae, zau, Tryd.results10])
      simp [hb]
     ·rw [if_neg hq2] at hb
      repeat' (first
  | (refine zah ?_; simp [hx, hm, hn60, hn61, hq, hq2])
  | (refine zak ?_; simp [hx, hm, hn60, hn61, hq, hq2])
  | (refine ⟨by omega, ?_⟩)
  | (refine zai ?_; simp [hx, hm, hn60, hn61, hq, hq2])
  | (refine zag ?_; simp [hx, hm, hn60, hn61, hq, hq2])
  | (refine zas ?_; simp [hx, hm, hn60, hn61, hq, hq2])
  | (refine zaq ?_; simp only [zal])
  | (refine ⟨?_, by omega⟩)
  | (intro hc <;> (try (exfalso; omega)))
  | (refine CallP.fun_ (h5) (by first | rfl | fail) (by first | assumption | (simp; done) | fail) (by first | (simp [hx, hm, hn60, hn61, hq, hq2]; done) | (simp [hx, hm, hn60, hn61, hq, hq2]; rfl) | fail) (by first | (simp; done) | fail) (fun d hd => ?_); subst hd; (try simp [hx, hm, hn60, hn61, hq, hq2]))
  | (refine CallP.fun_ (h6) (by first | rfl | fail) (by first | assumption | (simp; done) | fail) (by first | (simp [hx, hm, hn60, hn61, hq, hq2]; done) | (simp [hx, hm, hn60, hn61, hq, hq2]; rfl) | fail) (by first | (simp; done) | fail) (fun d hd => ?_); subst hd; (try simp [hx, hm, hn60, hn61, hq, hq2]))
  | fail)
      refine LoopW.next ⟨(i + 1, q), hlt, by omega, hpy1, by omega, hb⟩ (by simp; omega) ?_
      exact (Wk.env rfl rfl rfl (by simp [wkE, St.lp, zap, zaa, getK] <;> (try (intros; simp_all; done)) <;> (try (intros; omega)) <;> (try grind)))
  ·rw [if_neg hm] at hb
   subst hb
   repeat' (first
  | (refine zah ?_; simp [hx, hm])
  | (refine zak ?_; simp [hx, hm])
  | (refine zai ?_; simp [hx, hm])
  | (refine zag ?_; simp [hx, hm])
  | (refine zam ?_; simp [hx, hm])
  | (refine zba ?_; simp [zal])
  | (refine ⟨?_, by omega⟩)
  | (intro hc <;> (try (exfalso; omega)))
  | fail)
   refine zbG (α := { i : Nat // i ≤ vs.length ∧ (i : Int) ≤ 21 ∧ ∀ v ∈ vs.take i, decide (v.name.length ≤ 40) = true }) [0, 1] (fun i => [(7, .u (.int .i64 i.1))]) (fun i => vs.length - i.1) ⟨0, by omega, by omega, by simp⟩ ?_ ?_
   ·exact (Wk.env rfl rfl rfl (by simp [wkE, St.lp, zap, zaa, getK] <;> (try (intros; simp_all; done)) <;> (try (intros; omega)) <;> (try grind)))
   rintro ⟨k, hk0, hkn, hkb⟩
   simp [St.lp, St.only, zap, zaa, getK]
   have fin : (k = vs.length ∨ (k : Int) = 21) → C = true := fun h => by
    rw [← hV, List.all_eq_true]
    intro v hv
    refine hkb v ?_
    rcases h with h | h
    ·rw [h, List.take_length]; exact List.mem_of_mem_take hv
    ·rw [show k = 21 by omega]; exact hv
   rcases hy : vs[k]? with _ | v
   ·have hge2 : vs.length ≤ k := by simpa using hy
    obtain rfl : k = vs.length := by omega
    have := fin (.inl rfl)
    subst this
    repeat' (first
  | (refine zah ?_; simp [hy])
  | (refine zak ?_; simp [hy])
  | (refine ⟨by omega, ?_⟩)
  | (refine zai ?_; simp [hy])
  | (refine zag ?_; simp [hy])
  | (refine zar ?_; simp only [zal])
  | (refine zba ?_; simp [zal])
  | (intro hc <;> (try (exfalso; omega)))
  | fail)
    all_goals
     (refine EndOK.val (.inr rfl) ?_; simp [zay, zae, zau, Tryd.results10])
    all_goals (clear hB hV fin; simp_all <;> (try (intros; omega)))
   ·have hlt2 : k < vs.length := (List.getElem?_eq_some_iff.1 hy).1
    by_cases hm2 : (k : Int) ≤ 20
    ·by_cases hnv : 40 < v.name.length
     ·have hnv1 : 40 < (v.name.length : Int) := by omega
      repeat' (first
  | (refine zah ?_; simp [hy, hm2, hnv, hnv1])
  | (refine zak ?_; simp [hy, hm2, hnv, hnv1])
  | (refine zai ?_; simp [hy, hm2, hnv, hnv1])
  | (refine zag ?_; simp [hy, hm2, hnv, hnv1])
  | (refine zar ?_; simp only [zal])
  | (refine zaq ?_; simp only [zal])
  | (refine ⟨?_, by omega⟩)
  | (intro hc <;> (try (exfalso; omega)))
  | fail)
      (refine EndOK.val (.inr rfl) ?_; simp [zay, zae, zau, Tryd.results10])
      have : C = false := by
       rw [← hV, List.all_eq_false]
       exact ⟨v, List.mem_of_getElem? (i := k) (by rw [List.getElem?_take, if_pos (by omega)]; exact hy), by simp; omega⟩
      simp [this]
     ·have hnv1 : ¬ 40 < (v.name.length : Int) := by omega
      repeat' (first
  | (refine zah ?_; simp [hy, hm2, hnv, hnv1])
  | (refine zak ?_; simp [hy, hm2, hnv, hnv1])
  | (refine ⟨by omega, ?_⟩)
  | (refine zai ?_; simp [hy, hm2, hnv, hnv1])
  | (refine zag ?_; simp [hy, hm2, hnv, hnv1])
  | (refine zas ?_; simp [hy, hm2, hnv, hnv1])
  | (refine zaq ?_; simp only [zal])
  | (refine ⟨?_, by omega⟩)
  | (intro hc <;> (try (exfalso; omega)))
  | fail)
      refine LoopW.next ⟨k + 1, by omega, by omega, zaG hy hkb (by simp; omega)⟩ (by simp; omega) ?_
      exact (Wk.env rfl rfl rfl (by simp [wkE, St.lp, zap, zaa, getK] <;> (try (intros; simp_all; done)) <;> (try (intros; omega)) <;> (try grind)))
    ·have := fin (.inr (by omega))
     subst this
     repeat' (first
  | (refine zah ?_; simp [hy, hm2])
  | (refine zak ?_; simp [hy, hm2])
  | (refine ⟨by omega, ?_⟩)
  | (refine zai ?_; simp [hy, hm2])
  | (refine zag ?_; simp [hy, hm2])
  | (refine zar ?_; simp only [zal])
  | (refine zba ?_; simp [zal])
  | (refine ⟨?_, by omega⟩)
  | (intro hc <;> (try (exfalso; omega)))
  | fail)
     all_goals
      (refine EndOK.val (.inr rfl) ?_; simp [zay, zae, zau, Tryd.results10])
     all_goals (clear hB hV fin; simp_all <;> (try (intros; omega)))
end Go.Proofs.YtfcopibncpkdoaaDoor
namespace Go.Proofs.YtfcopibncpkdoaaDoor
open Go Go.VL
def TM.Pure (f : TM) : Prop := ∀ t, f t = ((f []).1, t)
theorem TM.Pure.ret (x) : TM.Pure (TM.ret x) := fun t => rfl
theorem TM.Pure.bind {f : TM} {g : Int → TM} (hf : f.Pure) (hg : ∀ a, (g a).Pure) : (f.bind g).Pure := fun t => by
 unfold TM.bind
 rw [hf t, hf []]
 rcases (f []).1 with e | v
 ·rfl
 ·exact hg v t
mutual
theorem zlv {nm : List UInt8 → TM} {sh : Exp → Bool} (hn : ∀ s, (nm s).Pure) : ∀ e : Exp, (zfE nm sh e).Pure
 | .mk op n u s args => by
  have h := fun i => zf0 (sh := sh) hn args i
  rw [zfE]
  split
  ·exact .ret _
  split
  ·exact hn s
  split
  ·refine .bind (h 0) fun a => ?_
   split
   ·exact .ret _
   ·exact .bind (h 1) fun b => .ret _
  split
  ·refine .bind (h 0) fun a => ?_
   split
   ·exact .ret _
   ·exact .bind (h 1) fun b => .ret _
  split
  ·exact .bind (h 0) fun a => .ret _
  split
  ·refine .bind (h 0) fun a => ?_
   split
   ·exact h 1
   ·exact h 2
  ·exact .bind (h 0) fun a => .bind (h 1) fun b => .ret _
theorem zf0 {nm : List UInt8 → TM} {sh : Exp → Bool} (hn : ∀ s, (nm s).Pure) : ∀ (l : List Exp) (i : Nat), (zcJ nm sh l i).Pure
 | [], i => by rw [zcJ]; exact .ret _
 | e :: l, 0 => by rw [zcJ]; exact zlv hn e
 | e :: l, i + 1 => by rw [zcJ]; exact zf0 hn l i
end
/-- Names without a table. -/
def nmP (lets : List Let) (G : List UInt8 → Option Int) : Nat → List UInt8 → TM
 | 0, s => .ret (match G s with | some v => .ok v | none => .error 13)
 | n + 1, s => match G s with
  | some v => .ret (.ok v)
  | none => match lets[n]? with
   | none => .ret (.error 13)
   | some l => if l.name = s then .ret (zfE (nmP lets G n) (zbC (lets.take n)) l.body []).1 else nmP lets G n s
def zo6 (lets : List Let) (G : List UInt8 → Option Int) (n : Nat) (e : Exp) : Except Int Int := (zfE (nmP lets G n) (zbC (lets.take n)) e []).1
theorem zhJ {lets G} : ∀ (n : Nat) (s : List UInt8), (nmP lets G n s).Pure
 | 0, s => by rw [nmP]; exact .ret _
 | n + 1, s => by
  rw [nmP]
  split
  ·exact .ret _
  ·split
   ·exact .ret _
   ·split
    ·exact .ret _
    ·exact zhJ n s
/-- A table that holds what the lets' bodies have. -/
def zoW (lets : List Let) (G : List UInt8 → Option Int) (t : Tab) : Prop := ∀ (i : Nat) (v e : Int), t[i]? = some (v, e, true) → ∃ l, lets[i]? = some l ∧ (v, e, true) = zcT (zo6 lets G i l.body)
def Sm (lets : List Let) (G : List UInt8 → Option Int) (f f' : TM) : Prop := ∀ t, TabOK lets.length t → zoW lets G t → (f t).1 = (f' []).1 ∧ zoW lets G (f t).2
theorem Sm.ret {lets G x} : Sm lets G (TM.ret x) (TM.ret x) := fun t _ h => ⟨rfl, h⟩
theorem Sm.bind {lets G} {f f' : TM} {g g' : Int → TM} (hf : Sm lets G f f') (hk : TMok lets.length f) (hp : f'.Pure) (hg : ∀ a, Sm lets G (g a) (g' a)) : Sm lets G (f.bind g) (f'.bind g') := fun t h1 h2 => by
 obtain ⟨e1, v1⟩ := hf t h1 h2
 obtain ⟨k1, _, _⟩ := hk t h1
 unfold TM.bind
 rcases hft : f t with ⟨er | v, t'⟩
 ·rw [hft] at e1 v1
  simp only at e1 v1
  rw [hp [], ← e1]
  exact ⟨rfl, v1⟩
 ·rw [hft] at e1 v1 k1
  simp only at e1 v1 k1
  rw [hp [], ← e1]
  exact hg v t' k1 v1
theorem zji {lets G nm nm' sh} (hn : ∀ s, Sm lets G (nm s) (nm' s)) (ho : ∀ s, TMok lets.length (nm s)) (hp : ∀ s, (nm' s).Pure) : ∀ (d : Nat) (e : Exp), zax d e = true → Sm lets G (zfE nm sh e) (zfE nm' sh e)
 | 0, e, h => by simp [zax] at h
 | d + 1, e, h => by
  obtain ⟨h1, h2, h3, h4⟩ := zcc h
  rw [zcn, zcn]
  by_cases c0 : e.op = 0
  ·rw [if_pos c0, if_pos c0]; exact .ret
  rw [if_neg c0, if_neg c0]
  by_cases c1 : e.op = 1
  ·rw [if_pos c1, if_pos c1]; exact hn _
  rw [if_neg c1, if_neg c1]
  have hS : ∀ i : Nat, (i : Int) < zaE e.op → Sm lets G (zcJ nm sh e.args i) (zcJ nm' sh e.args i) := fun i hi => by
   have hlt : i < e.args.length := by omega
   rw [zf1 (List.getElem?_eq_getElem hlt), zf1 (List.getElem?_eq_getElem hlt)]
   exact zji hn ho hp d _ (h4 c0 c1 _ (List.getElem_mem hlt))
  have hO : ∀ i : Nat, (i : Int) < zaE e.op → TMok lets.length (zcJ nm sh e.args i) := fun i hi => by
   have hlt : i < e.args.length := by omega
   rw [zf1 (List.getElem?_eq_getElem hlt)]
   exact zfZ ho d _ (h4 c0 c1 _ (List.getElem_mem hlt))
  have hP : ∀ i, (zcJ nm' sh e.args i).Pure := fun i => zf0 hp _ i
  by_cases c2 : e.op = 10
  ·rw [if_pos c2, if_pos c2]
   rw [c2] at hS hO
   refine .bind (hS 0 (by decide)) (hO 0 (by decide)) (hP 0) fun a => ?_
   split
   ·exact .ret
   ·exact .bind (hS 1 (by decide)) (hO 1 (by decide)) (hP 1) fun b => .ret
  rw [if_neg c2, if_neg c2]
  by_cases c3 : e.op = 11
  ·rw [if_pos c3, if_pos c3]
   rw [c3] at hS hO
   refine .bind (hS 0 (by decide)) (hO 0 (by decide)) (hP 0) fun a => ?_
   split
   ·exact .ret
   ·exact .bind (hS 1 (by decide)) (hO 1 (by decide)) (hP 1) fun b => .ret
  rw [if_neg c3, if_neg c3]
  by_cases c4 : e.op = 12
  ·rw [if_pos c4, if_pos c4]
   rw [c4] at hS hO
   exact .bind (hS 0 (by decide)) (hO 0 (by decide)) (hP 0) fun a => .ret
  rw [if_neg c4, if_neg c4]
  by_cases c5 : e.op = 13
  ·rw [if_pos c5, if_pos c5]
   rw [c5] at hS hO
   refine .bind (hS 0 (by decide)) (hO 0 (by decide)) (hP 0) fun a => ?_
   split
   ·exact hS 1 (by decide)
   ·exact hS 2 (by decide)
  rw [if_neg c5, if_neg c5]
  have ho : zaE e.op = 2 := by unfold zaE; split <;> first | omega | (split <;> first | omega | (split <;> first | omega | (split <;> omega)))
  rw [ho] at hS hO
  exact .bind (hS 0 (by decide)) (hO 0 (by decide)) (hP 0) fun a => .bind (hS 1 (by decide)) (hO 1 (by decide)) (hP 1) fun b => .ret
theorem zhV {r : Except Int Int} (h : ∀ e, r = .error e → e ≠ 0) : zfF (zcT r).1 (zcT r).2.1 = r := by
 cases r with
 | ok v => rfl
 | error e => simp [zcT, zfF, h e rfl]
theorem zlZ {lets : List Let} {G : List UInt8 → Option Int} (hl : ∀ l ∈ lets, zax 12 l.body = true) (hg : ∀ s v, G s = some v → inC v) : ∀ n s, Sm lets G (nmT lets G n s) (nmP lets G n s)
 | 0, s => by rw [nmT, nmP]; exact .ret
 | n + 1, s => by
  rw [nmT, nmP]
  cases hgs : G s with
  | some v => exact .ret
  | none =>
   simp only
   cases hx : lets[n]? with
   | none => exact .ret
   | some l =>
    simp only
    split
    ·intro t ht hv
     have hrl := hl l (List.mem_of_getElem? hx)
     obtain ⟨g1, g2, g3⟩ := zfZ (zg1 hl hg n) 12 l.body hrl (sh := zbC (lets.take n)) t ht
     obtain ⟨e1, e2⟩ := zji (fun s => zlZ hl hg n s) (zg1 hl hg n) (fun s => zhJ n s) 12 l.body hrl (sh := zbC (lets.take n)) t ht hv
     have hne : ∀ e, (zfE (nmP lets G n) (zbC (lets.take n)) l.body []).1 = .error e → e ≠ 0 := fun e h => g3 e (by rw [e1]; exact h)
     have main : zfF (zcT (zfE (nmT lets G n) (zbC (lets.take n)) l.body t).1).1 (zcT (zfE (nmT lets G n) (zbC (lets.take n)) l.body t).1).2.1 = (zfE (nmP lets G n) (zbC (lets.take n)) l.body []).1 ∧
       zoW lets G ((zfE (nmT lets G n) (zbC (lets.take n)) l.body t).2.set n (zcT (zfE (nmT lets G n) (zbC (lets.take n)) l.body t).1)) := by
      rw [e1]
      refine ⟨zhV hne, fun i v e hi => ?_⟩
      rw [List.getElem?_set] at hi
      split at hi
      ·rename_i hni
       subst hni
       split at hi
       ·exact ⟨l, hx, (Option.some.inj hi).symm⟩
       ·cases hi
      ·exact e2 i v e hi
     rcases hti : t[n]? with _ | ⟨v, e, d⟩
     ·simp only [hti]; exact main
     ·cases d
      ·simp only [hti]; exact main
      ·simp only [hti]
       obtain ⟨l', h5, h6⟩ := hv n v e hti
       rw [hx] at h5
       cases h5
       refine ⟨?_, hv⟩
       have h7 : (v, e, true) = zcT (zo6 lets G n l.body) := h6
       have h8 : v = (zcT (zo6 lets G n l.body)).1 := by rw [← h7]
       have h9 : e = (zcT (zo6 lets G n l.body)).2.1 := by rw [← h7]
       rw [h8, h9]
       exact zhV hne
    ·exact zlZ hl hg n s
/-- The value without a table. -/
theorem zlw {lets : List Let} {G : List UInt8 → Option Int} (hl : ∀ l ∈ lets, zax 12 l.body = true) (hg : ∀ s v, G s = some v → inC v) (n d : Nat) (e : Exp) (h : zax d e = true) (t : Tab) (ht : TabOK lets.length t) (hv : zoW lets G t) :
  (zbp lets G n e t).1 = zo6 lets G n e ∧ zoW lets G (zbp lets G n e t).2 :=
 zji (fun s => zlZ hl hg n s) (zg1 hl hg n) (fun s => zhJ n s) d e h t ht hv
end Go.Proofs.YtfcopibncpkdoaaDoor
namespace Go.Proofs.YtfcopibncpkdoaaDoor
open Go Go.VL
section
variable {m m' : List UInt8 → Bool} {s : List UInt8}
end
section
variable {nm nm' : List UInt8 → TM} {sh sh' : Exp → Bool} {s : List UInt8}
end
end Go.Proofs.YtfcopibncpkdoaaDoor
namespace Go.Proofs.YtfcopibncpkdoaaDoor
open Go Go.VL
abbrev gst (g : GM) (v : Var) : GM := if asc g v.name = none then zdb g v.name v.n else g
theorem zn5 (g : GM) (v : Var) (s : List UInt8) (h : s ≠ v.name) : asc (gst g v) s = asc g s := by
 unfold gst
 split
 ·rw [zgt, if_neg h]
 ·rfl
theorem zjG : ∀ (vars : List Var) (g : GM) (s : List UInt8), asc g s = none → (∀ v ∈ vars, v.name ≠ s) → asc (vars.foldl gst g) s = none
 | [], g, s, h, _ => h
 | v :: l, g, s, h, hv => by
  rw [List.foldl_cons]
  exact zjG l _ s (by rw [zn5 _ _ _ (fun e => hv v (by simp) e.symm)]; exact h) fun x hx => hv x (by simp [hx])
theorem zok (lets : List Let) : TabOK lets.length (zhx lets) := ⟨by simp [zhx], fun i v e d h => by
 simp only [zhx, List.getElem?_replicate] at h
 split at h
 ·cases h; exact ⟨by decide, by decide⟩
 ·cases h⟩
theorem zpe (lets : List Let) (G) : zoW lets G (zhx lets) := fun i v e h => by
 simp only [zhx, List.getElem?_replicate] at h
 split at h <;> cases h
end Go.Proofs.YtfcopibncpkdoaaDoor
namespace Go.Proofs.YtfcopibncpkdoaaDoor
open Go Go.VL
def dR (t : Tab) : List (List U) := t.map fun x => [.bool x.2.2]
def vR (t : Tab) : List (List U) := t.map fun x => [.int .i64 x.1]
def rR (t : Tab) : List (List U) := t.map fun x => [.int .i64 x.2.1]
abbrev xOb (lets : List Let) (vars : List Var) : Ob := .box [.u (.sl (lets.map fun l => [.str l.name, .int .i64 l.body.op, .int .i64 l.body.n, .int .i64 l.body.unit, .str l.body.s, .sl (l.body.args.map Exp.row)])), .u (.sl (vars.map fun v => [.str v.name, .int .i64 v.unit, .int .i64 v.n])), .vec 1 lets.length, .vec 2 lets.length, .vec 3 lets.length]
/-- The objects of an evaluation. -/
abbrev evO (lets : List Let) (vars : List Var) (t : Tab) : List (Nat × Ob) := [(4, xOb lets vars), (3, .vec 35 1 (rowsD (rR t))), (2, .vec 3 1 (rowsD (vR t))), (1, .vec 4 1 (rowsD (dR t)))]
/-- A table as it should be. -/
def TO (lets : List Let) (G : List UInt8 → Option Int) (t : Tab) : Prop := TabOK lets.length t ∧ zoW lets G t
abbrev gX (vars : List Var) : List UInt8 → Option Int := gF (gV vars)
def zh4 (lets : List Let) (vars : List Var) (n : Nat) (e : Exp) : Prop := ∀ (t : Tab) (nx : Nat), 4 < nx → TO lets (gX vars) t →
 RetX Tryd.prog 30 [.ptr 4 0, za3 e, .u (.int .i64 n)] (evO lets vars t) nx
  (fun o obs n' => o = .val (zgD (zbp lets (gX vars) n e t).1) ∧ obs = evO lets vars (zbp lets (gX vars) n e t).2 ∧ n' = nx)
/-- The value of a let. -/
def zn2 (lets : List Let) (G : List UInt8 → Option Int) (i : Nat) (b : Exp) : TM := fun t => match t[i]? with
 | some (v, e, true) => (zfF v e, t)
 | _ => (zfF (zcT (zbp lets G i b t).1).1 (zcT (zbp lets G i b t).1).2.1, (zbp lets G i b t).2.set i (zcT (zbp lets G i b t).1))
def zpJ (lets : List Let) (vars : List Var) (i : Nat) (b : Exp) : Prop := ∀ (t : Tab) (nx : Nat), 4 < nx → TO lets (gX vars) t →
 RetX Tryd.prog 81 [.ptr 4 0, .u (.int .i64 i)] (evO lets vars t) nx
  (fun o obs n' => o = .val (zgD (zn2 lets (gX vars) i b t).1) ∧ obs = evO lets vars (zn2 lets (gX vars) i b t).2 ∧ n' = nx)
theorem zpt {t : Tab} {i : Nat} {q : Int × Int × Bool} (h : t[i]? = some q) : (dR t)[i]? = some [.bool q.2.2] := by unfold dR; rw [List.getElem?_map, h]; rfl
theorem zpd {t : Tab} {i : Nat} {q : Int × Int × Bool} (h : t[i]? = some q) : (vR t)[i]? = some [.int .i64 q.1] := by unfold vR; rw [List.getElem?_map, h]; rfl
theorem zph {t : Tab} {i : Nat} {q : Int × Int × Bool} (h : t[i]? = some q) : (rR t)[i]? = some [.int .i64 q.2.1] := by unfold rR; rw [List.getElem?_map, h]; rfl
theorem zn7 (t : Tab) (i : Nat) (q : Int × Int × Bool) : dR (t.set i q) = (dR t).set i [.bool q.2.2] := by unfold dR; rw [List.map_set]
theorem znW (t : Tab) (i : Nat) (q : Int × Int × Bool) : vR (t.set i q) = (vR t).set i [.int .i64 q.1] := by unfold vR; rw [List.map_set]
theorem znX (t : Tab) (i : Nat) (q : Int × Int × Bool) : rR (t.set i q) = (rR t).set i [.int .i64 q.2.1] := by unfold rR; rw [List.map_set]
theorem rowsD_set1 (l : List (List U)) (i : Nat) (a : U) : (rowsD l).set i [.u a] = rowsD (l.set i [a]) := rowsD_set l i [a]
theorem zmy (r : Except Int Int) : (zcT r).2.2 = true := by cases r <;> rfl
theorem zgE {α : Type} {p : α → Prop} {l : List α} {i : Nat} {a : α} (hx : l[i]? = some a) (h : ∀ v ∈ l.take i, p v) (ha : p a) : ∀ v ∈ l.take (i + 1), p v := by
 obtain ⟨hi, rfl⟩ := List.getElem?_eq_some_iff.1 hx
 rw [List.take_succ_eq_append_getElem hi]
 intro v hv
 rcases List.mem_append.1 hv with h1 | h1
 ·exact h v h1
 ·simp at h1; rw [h1]; exact ha
attribute [local simp] HS zcp zbN evPure opd uOf zaB St.put St.at getK binD binI binS binB nilD aggD zeJ ze8 lookD lookR zbT Go.VL.nextD zbY zfe zfd zev zbM mkV zaW zaP zaO zaN zcm zaM za1 zbc mapEff zcS zek Key.kk shiftI arith unD convD zcP loadD cellsAt fieldAddrD fieldD indexAddrD indexD sliceD cutD lenD minmaxD nilCheckD buildD fillD zbt zcq zdR setAll zcg zdy zbQ zeN zbO St.add zaC zbj rowsOf zcM zce zaj zac zaa za5 zcl zaH entry za4 za6 valD zbS zb7 zez zct zcu zbx zbs zav zaT za7 delAll effD St.effS zb9 zaQ zaI zca zaR zaK zby zaJ zaD zbz zb8 zbb zbw zaZ zbu zbv zat mkD zbk zbd zbB zav zbP D.ids Op.operands Call.operands za8 makeIfD typeAssertD ze6 zcH zcI zeR zbV IntKind.bits zch List.take_of_length_le List.range_succ
attribute [local irreducible] V G H HD HD2 HD4 zhn RetX zal Eff CallP CallV EndOK Fun Ret FinOK LoopI LoopW EndW
theorem zoz {lets : List Let} {vars : List Var} {i : Nat} {l : Let} (hrb : ∀ l ∈ lets, zax 12 l.body = true) (hgs : ∀ s v, gX vars s = some v → inC v) (hl : lets.length ≤ 20) (hx : lets[i]? = some l) (hE : zh4 lets vars i l.body) : zpJ lets vars i l.body := by
 intro t nx hm hto
 have hlt := (List.getElem?_eq_some_iff.1 hx).1
 have hne := nef hm
 have hne3 := nef (show 3 < nx by omega)
 have hne2 := nef (show 2 < nx by omega)
 have hne1 := nef (show 1 < nx by omega)
 have hlen := hto.1.len
 obtain ⟨⟨v0, e0, d0⟩, hy⟩ : ∃ q, t[i]? = some q := ⟨_, List.getElem?_eq_getElem (by omega)⟩
 have hdl : (dR t).length = lets.length := by unfold dR; simpa using hlen
 have hvl : (vR t).length = lets.length := by unfold vR; simpa using hlen
 have hrl : (rR t).length = lets.length := by unfold rR; simpa using hlen
 have hd := zpt hy
 have hvv := zpd hy
 have hr := zph hy
 cases d0
 ·have hEE := fun nx' (h : nx ≤ nx') => hE t nx' (by omega) hto
  obtain ⟨k1, k2, k3⟩ := zhq hrb hgs i 12 l.body (hrb l (List.mem_of_getElem? hx)) t hto.1
  have hlt1 : zn2 lets (gX vars) i l.body t = (zfF (zcT (zbp lets (gX vars) i l.body t).1).1 (zcT (zbp lets (gX vars) i l.body t).1).2.1, (zbp lets (gX vars) i l.body t).2.set i (zcT (zbp lets (gX vars) i l.body t).1)) := by unfold zn2; rw [hy]
  rw [hlt1]
  generalize zbp lets (gX vars) i l.body t = w at *
  obtain ⟨res, t1⟩ := w
  have hlen1 := k1.len
  simp only at hlen1 k2 k3 hEE ⊢
  unfold za3 at hEE
  rw [zhV k3]
  obtain ⟨q1, hz⟩ : ∃ q, t1[i]? = some q := ⟨_, List.getElem?_eq_getElem (by omega)⟩
  have hd1 := zpt hz
  have hv1 := zpd hz
  have hr1 := zph hz
  have hl1 : (dR t1).length = lets.length := by unfold dR; simpa using hlen1
  have hl2 : (vR t1).length = lets.length := by unfold vR; simpa using hlen1
  have hl3 : (rR t1).length = lets.length := by unfold rR; simpa using hlen1
  have hs1 : ∀ x, ((dR t1).set i x)[i]? = some x := fun x => List.getElem?_set_self (by omega)
  have hs2 : ∀ x, ((vR t1).set i x)[i]? = some x := fun x => List.getElem?_set_self (by omega)
  have hs3 : ∀ x, ((rR t1).set i x)[i]? = some x := fun x => List.getElem?_set_self (by omega)
  have het := zmy res
  unfold zgD at hEE ⊢
  generalize zcT res = w at *
  obtain ⟨v1, e1, d1⟩ := w
  simp only at het hEE ⊢
  subst het
  (refine RetX.of_bodyW Tryd.func81 rfl (by simp) fun Γ hn hpan => ?_); simp only [entry, List.zipIdx_cons, List.zipIdx_nil, List.map_cons, List.map_nil, Nat.zero_add, Tryd.ntmps81]
  repeat' (first
  | (refine zah ?_; simp [hne, hne3, hne2, hne1, hx, hd, hd1, hv1, hr1, hdl, hl1, hl2, hl3, hs1, hs2, hs3, rowsD_set1, del])
  | (refine zbo rfl ?_; simp [hne, hne3, hne2, hne1, hx, hd, hd1, hv1, hr1, hdl, hl1, hl2, hl3, hs1, hs2, hs3, rowsD_set1, del])
  | (refine zak ?_; simp [hne, hne3, hne2, hne1, hx, hd, hd1, hv1, hr1, hdl, hl1, hl2, hl3, hs1, hs2, hs3, rowsD_set1, del])
  | (refine ⟨by omega, ?_⟩)
  | (refine zai ?_; simp [hne, hne3, hne2, hne1, hx, hd, hd1, hv1, hr1, hdl, hl1, hl2, hl3, hs1, hs2, hs3, rowsD_set1, del])
  | (refine zag ?_; simp [hne, hne3, hne2, hne1, hx, hd, hd1, hv1, hr1, hdl, hl1, hl2, hl3, hs1, hs2, hs3, rowsD_set1, del])
  | (refine zb1 (hC _ (zbg [4, 3, 2, 1] nx (by simp <;> omega) (by simp <;> omega) (by apply Exists.intro; apply And.intro; (focus (repeat' (first | exact KF.nil | exact KL.nil | apply KF.cons | apply KL.cons 0 rfl | apply KL.cons 1 rfl | apply KL.cons 2 rfl | apply KL.cons 3 rfl | apply KL.cons 4 rfl | apply KL.cons 5 rfl | apply KL.cons 6 rfl | apply KL.cons 7 rfl | apply KL.cons 8 rfl | apply KL.cons 9 rfl))); kernel_rfl))) (hk _ ?_); clear hC hk C k; simp only [zal])
  | (refine zbm rfl (by kernel_rfl) (by first | (simp [hn]; done) | (simp [hn]; omega) | fail) fun C k hC hk => ?_; simp [hne, hne3, hne2, hne1, hx, hd, hd1, hv1, hr1, hdl, hl1, hl2, hl3, hs1, hs2, hs3, rowsD_set1, del])
  | (refine zas ?_; simp [hne, hne3, hne2, hne1, hx, hd, hd1, hv1, hr1, hdl, hl1, hl2, hl3, hs1, hs2, hs3, rowsD_set1, del])
  | (refine zar ?_; simp only [zal])
  | (refine CallP.okL (hEE _ (by first | omega | (simp; done) | (simp; omega) | fail)) (by first | (simp [hne, hne3, hne2, hne1, hx, hd, hd1, hv1, hr1, hdl, hl1, hl2, hl3, hs1, hs2, hs3, rowsD_set1, del, zaa, getK, zab, zac, zaj, zat, del]; done) | fail) (by rfl) (by first | assumption | (simp; done) | fail) (by rfl) (by simp) ?_; (try simp [hne, hne3, hne2, hne1, hx, hd, hd1, hv1, hr1, hdl, hl1, hl2, hl3, hs1, hs2, hs3, rowsD_set1, del, zbe, del]))
  | fail)
  (refine EndW.here ?_; (first | (refine EndOK.fin (.inr rfl) ?_) | (refine EndOK.fin (.inl rfl) ?_)); simp [zay, zae, Tryd.results81, hm, hne, hne3, hne2, hne1, zn7, znW, znX, rowsD_set1]; refine FinOK.cut (evO lets vars (t1.set i (v1, e1, true))) (nx) (by simp [zaa, getK, zab, zac, Ob.under, D.under, zad, zaf, hm, hne, hne3, hne2, hne1, zn7, znW, znX, rowsD_set1] <;> omega) (by simp [D.under]) (by simp [hn]) ?_; try simp)
 ·have hlt1 : zn2 lets (gX vars) i l.body t = (zfF v0 e0, t) := by unfold zn2; rw [hy]
  rw [hlt1]
  have hve : zgD (zfF v0 e0) = .tup [.u (.int .i64 v0), .u (.int .i64 e0)] := by
   obtain ⟨_, _, hq⟩ := hto.2 i v0 e0 hy
   unfold zfF
   by_cases h0 : e0 = 0
   ·rw [if_pos h0, h0]; rfl
   ·rw [if_neg h0]
    cases hv : zo6 lets (gX vars) i _ with
    | ok v => rw [hv] at hq; cases hq; exact absurd rfl h0
    | error e => rw [hv] at hq; cases hq; rfl
  rw [hve]
  (refine RetX.of_bodyW Tryd.func81 rfl (by simp) fun Γ hn hpan => ?_); simp only [entry, List.zipIdx_cons, List.zipIdx_nil, List.map_cons, List.map_nil, Nat.zero_add, Tryd.ntmps81]
  repeat' (first
  | (refine zah ?_; simp [hne, hne3, hne2, hne1, hx, hd, hvv, hr, hdl, hvl, hrl])
  | (refine zbo rfl ?_; simp [hne, hne3, hne2, hne1, hx, hd, hvv, hr, hdl, hvl, hrl])
  | (refine zak ?_; simp [hne, hne3, hne2, hne1, hx, hd, hvv, hr, hdl, hvl, hrl])
  | (refine ⟨by omega, ?_⟩)
  | (refine zai ?_; simp [hne, hne3, hne2, hne1, hx, hd, hvv, hr, hdl, hvl, hrl])
  | (refine zag ?_; simp [hne, hne3, hne2, hne1, hx, hd, hvv, hr, hdl, hvl, hrl])
  | (refine zb1 (hC _ (zbg [4, 3, 2, 1] nx (by simp <;> omega) (by simp <;> omega) (by apply Exists.intro; apply And.intro; (focus (repeat' (first | exact KF.nil | exact KL.nil | apply KF.cons | apply KL.cons 0 rfl | apply KL.cons 1 rfl | apply KL.cons 2 rfl | apply KL.cons 3 rfl | apply KL.cons 4 rfl | apply KL.cons 5 rfl | apply KL.cons 6 rfl | apply KL.cons 7 rfl | apply KL.cons 8 rfl | apply KL.cons 9 rfl))); kernel_rfl))) (hk _ ?_); clear hC hk C k; simp only [zal])
  | (refine zbm rfl (by kernel_rfl) (by first | (simp [hn]; done) | (simp [hn]; omega) | fail) fun C k hC hk => ?_; simp [hne, hne3, hne2, hne1, hx, hd, hvv, hr, hdl, hvl, hrl])
  | (refine zar ?_; simp only [zal])
  | (refine zaq ?_; simp only [zal])
  | fail)
  (refine EndW.here ?_; (first | (refine EndOK.fin (.inr rfl) ?_) | (refine EndOK.fin (.inl rfl) ?_)); simp [zay, zae, Tryd.results81, hm, hne, hne3, hne2, hne1]; refine FinOK.cut (evO lets vars t) (nx) (by simp [zaa, getK, zab, zac, Ob.under, D.under, zad, zaf, hm, hne, hne3, hne2, hne1] <;> omega) (by simp [D.under]) (by simp [hn]) ?_; try simp)
theorem zp2 {vars : List Var} {i : Nat} {v : Var} {s : List UInt8} (hb : ∀ x ∈ vars.take i, x.name ≠ s) (hx : vars[i]? = some v) (hs : v.name = s) : gX vars s = some v.n := by
 obtain ⟨hi, hv⟩ := List.getElem?_eq_some_iff.1 hx
 have h1 : asc ((vars.take i).foldl gst []) s = none := zjG _ [] s rfl hb
 have h2 : ∀ (l : List Var) (g : GM), asc g s = some v.n → asc (l.foldl gst g) s = some v.n := by
  intro l
  induction l with
  | nil => intro g h; exact h
  | cons a l ih =>
   intro g h
   rw [List.foldl_cons]
   refine ih _ ?_
   by_cases ha : s = a.name
   ·unfold gst; rw [if_neg (by rw [← ha, h]; simp)]; exact h
   ·rw [zn5 _ _ _ ha]; exact h
 have h3 : vars = vars.take i ++ v :: vars.drop (i + 1) := by rw [← hv, List.getElem_cons_drop, List.take_append_drop]
 show asc (vars.foldl gst []) s = some v.n
 rw [h3, List.foldl_append, List.foldl_cons]
 refine h2 _ _ ?_
 unfold gst
 rw [hs, if_pos h1, zgt, if_pos rfl]
theorem zou {lets : List Let} {G : List UInt8 → Option Int} {s : List UInt8} {c : Nat} {l : Let} (h : G s = none) (hl : lets[c]? = some l) (hs : l.name = s) : nmT lets G (c + 1) s = zn2 lets G c l.body := by
 rw [nmT, h, hl]
 simp only
 rw [if_pos hs]
 rfl
theorem zlK {lets : List Let} {vars : List Var} {n : Nat} (hL : ∀ i l, i < n → lets[i]? = some l → zpJ lets vars i l.body) (hl : lets.length ≤ 20) (hnl : n ≤ lets.length) (hvars : vars.length ≤ 1000000) (s : List UInt8) (t : Tab) (nx : Nat) (hm : 4 < nx) (hto : TO lets (gX vars) t) :
  RetX Tryd.prog 53 [.ptr 4 0, .u (.str s), .u (.int .i64 n)] (evO lets vars t) nx
   (fun o obs n' => o = .val (zgD (nmT lets (gX vars) n s t).1) ∧ obs = evO lets vars (nmT lets (gX vars) n s t).2 ∧ n' = nx) := by
 have hne := nef hm
 have hne3 := nef (show 3 < nx by omega)
 have hne2 := nef (show 2 < nx by omega)
 have hne1 := nef (show 1 < nx by omega)
 have hm3 : 3 < nx := by omega
 have hm2 : 2 < nx := by omega
 have hm1 : 1 < nx := by omega
 generalize hR : nmT lets (gX vars) n s = R
 (refine RetX.of_bodyW Tryd.func53 rfl (by simp) fun Γ hn hpan => ?_); simp only [entry, List.zipIdx_cons, List.zipIdx_nil, List.map_cons, List.map_nil, Nat.zero_add, Tryd.ntmps53]
 repeat' (first
  | (refine zah ?_; simp [hne, hne3, hne2, hne1])
  | (refine zak ?_; simp [hne, hne3, hne2, hne1])
  | (refine zai ?_; simp [hne, hne3, hne2, hne1])
  | (refine zam ?_; simp [hne, hne3, hne2, hne1])
  | fail)
 refine zcR (α := { i : Nat // i ≤ vars.length ∧ ∀ v ∈ vars.take i, v.name ≠ s }) [0, 1, 2] (fun i => [(8, .u (.int .i64 i.1))]) (fun i => evO lets vars t) nx (fun i => vars.length - i.1) ⟨0, by omega, by simp⟩ ?_ ?_
 ·exact (Wk.cut rfl (by simp [hn, St.lp]) (by simp [wkO, St.lp, zaa, getK, Ob.under, D.under, zad, zaf, hm, hm1, hm2, hm3, hne, hne3, hne2, hne1]) (by simp [wkU, St.lp, zap, zaa, getK, D.under, hm, hm1, hm2, hm3, hne, hne3, hne2, hne1]) (by simp [wkE, St.lp, zap, zaa, getK, hm, hm1, hm2, hm3, hne, hne3, hne2, hne1] <;> (try (intros; simp_all; done)) <;> (try (intros; omega)) <;> (try grind)))
 rintro ⟨i, hi, hb⟩
 simp [St.lp, St.only, zap, zaa, getK]
 rcases hx : vars[i]? with _ | v
 case some =>
  have hlt : i < vars.length := (List.getElem?_eq_some_iff.1 hx).1
  by_cases hv : v.name = s
  ·rw [ziJ (zp2 hb hx hv)] at hR
   subst hR
   repeat' (first
  | (refine zah ?_; simp [hne, hne3, hne2, hne1, hx, hv])
  | (refine zak ?_; simp [hne, hne3, hne2, hne1, hx, hv])
  | (refine zai ?_; simp [hne, hne3, hne2, hne1, hx, hv])
  | (refine zag ?_; simp [hne, hne3, hne2, hne1, hx, hv])
  | (refine zar ?_; simp only [zal])
  | (refine zaq ?_; simp only [zal])
  | (refine ⟨?_, by omega⟩)
  | (intro hc <;> (try (exfalso; omega)))
  | fail)
   (refine EndW.here ?_; (first | (refine EndOK.fin (.inr rfl) ?_) | (refine EndOK.fin (.inl rfl) ?_)); simp [zay, zae, Tryd.results53, hm, hm1, hm2, hm3, hne, hne3, hne2, hne1]; refine FinOK.cut (evO lets vars t) (nx) (by simp [zaa, getK, zab, zac, Ob.under, D.under, zad, zaf, hm, hm1, hm2, hm3, hne, hne3, hne2, hne1] <;> omega) (by simp [D.under]) (by simp [hn]) ?_; try simp)
   all_goals simp [TM.ret, zcT]
  ·repeat' (first
  | (refine zah ?_; simp [hne, hne3, hne2, hne1, hx, hv])
  | (refine zak ?_; simp [hne, hne3, hne2, hne1, hx, hv])
  | (refine ⟨by omega, ?_⟩)
  | (refine zai ?_; simp [hne, hne3, hne2, hne1, hx, hv])
  | (refine zag ?_; simp [hne, hne3, hne2, hne1, hx, hv])
  | (refine zas ?_; simp [hne, hne3, hne2, hne1, hx, hv])
  | (refine zaq ?_; simp only [zal])
  | (refine ⟨?_, by omega⟩)
  | (intro hc <;> (try (exfalso; omega)))
  | fail)
   refine LoopW.next ⟨i + 1, by omega, zgE hx hb hv⟩ (by simp; omega) ?_
   exact (Wk.cut rfl (by simp [hn, St.lp]) (by simp [wkO, St.lp, zaa, getK, Ob.under, D.under, zad, zaf, hm, hm1, hm2, hm3, hne, hne3, hne2, hne1]) (by simp [wkU, St.lp, zap, zaa, getK, D.under, hm, hm1, hm2, hm3, hne, hne3, hne2, hne1]) (by simp [wkE, St.lp, zap, zaa, getK, hm, hm1, hm2, hm3, hne, hne3, hne2, hne1] <;> (try (intros; simp_all; done)) <;> (try (intros; omega)) <;> (try grind)))
 have hge : vars.length ≤ i := by simpa using hx
 obtain rfl : i = vars.length := by omega
 rw [List.take_length] at hb
 have hgz : gX vars s = none := zjG vars [] s rfl hb
 repeat' (first
  | (refine zah ?_; simp [hne, hne3, hne2, hne1, hx])
  | (refine zak ?_; simp [hne, hne3, hne2, hne1, hx])
  | (refine ⟨by omega, ?_⟩)
  | (refine zai ?_; simp [hne, hne3, hne2, hne1, hx])
  | (refine zag ?_; simp [hne, hne3, hne2, hne1, hx])
  | (refine zam ?_; simp [hne, hne3, hne2, hne1, hx])
  | (refine zba ?_; simp [zal])
  | fail)
 refine zcR (α := { c : Nat // c ≤ n ∧ R = nmT lets (gX vars) c s }) [0, 1] (fun c => [(9, .u (.int .i64 ((c.1 : Int) - 1)))]) (fun c => evO lets vars t) nx (fun c => c.1) ⟨n, by omega, hR.symm⟩ ?_ ?_
 ·exact (Wk.cut rfl (by simp [hn, St.lp]) (by simp [wkO, St.lp, zaa, getK, Ob.under, D.under, zad, zaf, hm, hm1, hm2, hm3, hne, hne3, hne2, hne1]) (by simp [wkU, St.lp, zap, zaa, getK, D.under, hm, hm1, hm2, hm3, hne, hne3, hne2, hne1]) (by simp [wkE, St.lp, zap, zaa, getK, hm, hm1, hm2, hm3, hne, hne3, hne2, hne1] <;> (try (intros; simp_all; done)) <;> (try (intros; omega)) <;> (try grind)))
 rintro ⟨c, hc1, hc2⟩
 simp [St.lp, St.only, zap, zaa, getK]
 rcases c with _ | c
 ·rw [zpn hgz] at hc2
  subst hc2
  repeat' (first
  | (refine zah ?_; simp [hne, hne3, hne2, hne1])
  | (refine zak ?_; simp [hne, hne3, hne2, hne1])
  | (refine zai ?_; simp [hne, hne3, hne2, hne1])
  | (refine zag ?_; simp [hne, hne3, hne2, hne1])
  | (refine zar ?_; simp only [zal])
  | (refine zba ?_; simp [zal])
  | fail)
  (refine EndW.here ?_; (first | (refine EndOK.fin (.inr rfl) ?_) | (refine EndOK.fin (.inl rfl) ?_)); simp [zay, zae, Tryd.results53, hm, hm1, hm2, hm3, hne, hne3, hne2, hne1]; refine FinOK.cut (evO lets vars t) (nx) (by simp [zaa, getK, zab, zac, Ob.under, D.under, zad, zaf, hm, hm1, hm2, hm3, hne, hne3, hne2, hne1] <;> omega) (by simp [D.under]) (by simp [hn]) ?_; try simp)
  all_goals simp [TM.ret, zcT]
 ·obtain ⟨l, hx⟩ : ∃ l, lets[c]? = some l := ⟨_, List.getElem?_eq_getElem (by omega)⟩
  by_cases hs : l.name = s
  ·have hLL := fun nx' (h : nx ≤ nx') => hL c l (by omega) hx t nx' (by omega) hto
   rw [zou hgz hx hs] at hc2
   subst hc2
   generalize zn2 lets (gX vars) c l.body t = w at *
   obtain ⟨res, t1⟩ := w
   simp only at hLL ⊢
   unfold zgD at hLL ⊢
   generalize zcT res = q at *
   obtain ⟨v1, e1, d1⟩ := q
   simp only at hLL ⊢
   repeat' (first
  | (refine zah ?_; simp [hne, hne3, hne2, hne1, hx, hs, del])
  | (refine zak ?_; simp [hne, hne3, hne2, hne1, hx, hs, del])
  | (refine zai ?_; simp [hne, hne3, hne2, hne1, hx, hs, del])
  | (refine zag ?_; simp [hne, hne3, hne2, hne1, hx, hs, del])
  | (refine zar ?_; simp only [zal])
  | (refine zaq ?_; simp only [zal])
  | (refine CallP.okL (hLL _ (by first | omega | (simp; done) | (simp; omega) | fail)) (by first | (simp [hne, hne3, hne2, hne1, hx, hs, del, zaa, getK, zab, zac, zaj, zat, del]; done) | fail) (by rfl) (by first | assumption | (simp; done) | fail) (by rfl) (by simp) ?_; (try simp [hne, hne3, hne2, hne1, hx, hs, del, zbe, del]))
  | fail)
   (refine EndW.here ?_; (first | (refine EndOK.fin (.inr rfl) ?_) | (refine EndOK.fin (.inl rfl) ?_)); simp [zay, zae, Tryd.results53, hm, hm1, hm2, hm3, hne, hne3, hne2, hne1]; refine FinOK.cut (evO lets vars t1) (nx) (by simp [zaa, getK, zab, zac, Ob.under, D.under, zad, zaf, hm, hm1, hm2, hm3, hne, hne3, hne2, hne1] <;> omega) (by simp [D.under]) (by simp [hn]) ?_; try simp)
  ·rw [ziI hgz hx hs] at hc2
   repeat' (first
  | (refine zah ?_; simp [hne, hne3, hne2, hne1, hx, hs])
  | (refine zak ?_; simp [hne, hne3, hne2, hne1, hx, hs])
  | (refine ⟨by omega, ?_⟩)
  | (refine zai ?_; simp [hne, hne3, hne2, hne1, hx, hs])
  | (refine zag ?_; simp [hne, hne3, hne2, hne1, hx, hs])
  | (refine zas ?_; simp [hne, hne3, hne2, hne1, hx, hs])
  | (refine zaq ?_; simp only [zal])
  | fail)
   refine LoopW.next ⟨c, by omega, hc2⟩ (by simp) ?_
   exact (Wk.cut rfl (by simp [hn, St.lp]) (by simp [wkO, St.lp, zaa, getK, Ob.under, D.under, zad, zaf, hm, hm1, hm2, hm3, hne, hne3, hne2, hne1]) (by simp [wkU, St.lp, zap, zaa, getK, D.under, hm, hm1, hm2, hm3, hne, hne3, hne2, hne1]) (by simp [wkE, St.lp, zap, zaa, getK, hm, hm1, hm2, hm3, hne, hne3, hne2, hne1] <;> (try (intros; simp_all; done)) <;> (try (intros; omega)) <;> (try grind)))
end Go.Proofs.YtfcopibncpkdoaaDoor
namespace Go.Proofs.YtfcopibncpkdoaaDoor
open Go Go.VL
def zpT (lets : List Let) (vars : List Var) (n : Nat) (e : Exp) : Prop := ∀ (t : Tab) (nx : Nat), 4 < nx → TO lets (gX vars) t →
 RetX Tryd.prog 54 [.ptr 4 0, za3 e, .u (.int .i64 n)] (evO lets vars t) nx
  (fun o obs n' => o = .val (zgD (zbp lets (gX vars) n e t).1) ∧ obs = evO lets vars (zbp lets (gX vars) n e t).2 ∧ n' = nx)
/-- What evaluating keeps. -/
def zmZ (lets : List Let) (vars : List Var) (n : Nat) (e : Exp) : Prop := ∀ t, TO lets (gX vars) t → TO lets (gX vars) (zbp lets (gX vars) n e t).2 ∧ (∀ v, (zbp lets (gX vars) n e t).1 = .ok v → inC v) ∧ ∀ er, (zbp lets (gX vars) n e t).1 = .error er → er ≠ 0
theorem zpX {lets : List Let} {vars : List Var} {n d : Nat} {e : Exp} (hrb : ∀ l ∈ lets, zax 12 l.body = true) (hgs : ∀ s v, gX vars s = some v → inC v) (h : zax d e = true) : zmZ lets vars n e := fun t ht => by
 obtain ⟨k1, k2, k3⟩ := zhq hrb hgs n d e h t ht.1
 exact ⟨⟨k1, (zlw hrb hgs n d e h t ht.1 ht.2).2⟩, k2, k3⟩
theorem zcO (v : Int) : zgD (.ok v) = .tup [.u (.int .i64 v), .u (.int .i64 0)] := rfl
theorem zde (e : Int) : zgD (.error e) = .tup [.u (.int .i64 0), .u (.int .i64 e)] := rfl
attribute [local simp] HS zcp zbN evPure opd uOf zaB St.put St.at getK binD binI binS binB nilD aggD zeJ ze8 lookD lookR zbT Go.VL.nextD zbY zfe zfd zev zbM mkV zaW zaP zaO zaN zcm zaM za1 zbc mapEff zcS zek Key.kk shiftI arith unD convD zcP loadD cellsAt fieldAddrD fieldD indexAddrD indexD sliceD cutD lenD minmaxD nilCheckD buildD fillD zbt zcq zdR setAll zcg zdy zbQ zeN zbO St.add zaC zbj rowsOf zcM zce zaj zac zaa za5 zcl zaH entry za4 za6 valD zbS zb7 zez zct zcu zbx zbs zav zaT za7 delAll effD St.effS zb9 zaQ zaI zca zaR zaK zby zaJ zaD zbz zb8 zbb zbw zaZ zbu zbv zat mkD zbk zbd zbB zav zbP D.ids Op.operands Call.operands za8 makeIfD typeAssertD ze6 zcH zcI zeR zbV IntKind.bits zch List.take_of_length_le List.range_succ
attribute [local irreducible] V G H HD HD2 HD4 zhn RetX zal Eff CallP CallV EndOK Fun Ret FinOK LoopI LoopW EndW
theorem zm9 {lets : List Let} {vars : List Var} {n : Nat} {e x y : Exp} (h0 : e.op = 10) (he : e.args = [x, y]) (hVx : zh4 lets vars n x) (hTx : zmZ lets vars n x) (hVy : zh4 lets vars n y) (hTy : zmZ lets vars n y) : zpT lets vars n e := by
 intro t nx hm hto
 have hne := nef hm
 have hne3 := nef (show 3 < nx by omega)
 have hne2 := nef (show 2 < nx by omega)
 have hne1 := nef (show 1 < nx by omega)
 have hm3 : 3 < nx := by omega
 have hm2 : 2 < nx := by omega
 have hm1 : 1 < nx := by omega
 unfold za3
 have hx := fun nx' (h : nx ≤ nx') => hVx t nx' (by omega) hto
 obtain ⟨hto1, hin1, hne0⟩ := hTx t hto
 rcases hvx : zbp lets (gX vars) n x t with ⟨er | a, t1⟩
 ·obtain ⟨T, rfl⟩ : ∃ T, T = t1 := ⟨_, rfl⟩
  rw [hvx] at hne0 hx
  have her := hne0 er rfl
  rw [zc5 (by omega) (by omega) he hvx]
  simp only [zde, za3] at hx ⊢
  (refine RetX.of_bodyW Tryd.func54 rfl (by simp) fun Γ hn hpan => ?_); simp only [entry, List.zipIdx_cons, List.zipIdx_nil, List.map_cons, List.map_nil, Nat.zero_add, Tryd.ntmps54]
  repeat' (first
  | (refine zah ?_; simp [hne, hne3, hne2, hne1, h0, he, her, x.row_eq, y.row_eq, Nat.add_assoc, del])
  | (refine zak ?_; simp [hne, hne3, hne2, hne1, h0, he, her, x.row_eq, y.row_eq, Nat.add_assoc, del])
  | (refine zai ?_; simp [hne, hne3, hne2, hne1, h0, he, her, x.row_eq, y.row_eq, Nat.add_assoc, del])
  | (refine zag ?_; simp [hne, hne3, hne2, hne1, h0, he, her, x.row_eq, y.row_eq, Nat.add_assoc, del])
  | (refine zar ?_; simp only [zal])
  | (refine CallP.okL (hx _ (by first | omega | (simp; done) | (simp; omega) | fail)) (by first | (simp [hne, hne3, hne2, hne1, h0, he, her, x.row_eq, y.row_eq, Nat.add_assoc, del, zaa, getK, zab, zac, zaj, zat, del]; done) | fail) (by rfl) (by first | assumption | (simp; done) | fail) (by rfl) (by simp) ?_; (try simp [hne, hne3, hne2, hne1, h0, he, her, x.row_eq, y.row_eq, Nat.add_assoc, del, zbe, del]))
  | fail)
  (refine EndW.here ?_; (first | (refine EndOK.fin (.inr rfl) ?_) | (refine EndOK.fin (.inl rfl) ?_)); simp [zay, zae, Tryd.results54, hm, hm1, hm2, hm3, hne, hne3, hne2, hne1, zab, zac, zaa, getK]; refine FinOK.cut (evO lets vars T) (nx) (by simp [zaa, getK, zab, zac, Ob.under, D.under, zad, zaf, hm, hm1, hm2, hm3, hne, hne3, hne2, hne1, zab, zac, zaa, getK] <;> omega) (by simp [D.under]) (by simp [hn]) ?_; try simp)
 ·rw [hvx] at hto1 hx
  simp only [zcO, za3] at hx hto1
  by_cases ha : a = 0
  ·subst ha
   rw [zib h0 he hvx]
   obtain ⟨T, rfl⟩ : ∃ T, T = t1 := ⟨_, rfl⟩
   have hb := zd4 false
   simp only [zbI, Bool.false_eq_true, if_false] at hb
   simp only [zcO]
   (refine RetX.of_bodyW Tryd.func54 rfl (by simp) fun Γ hn hpan => ?_); simp only [entry, List.zipIdx_cons, List.zipIdx_nil, List.map_cons, List.map_nil, Nat.zero_add, Tryd.ntmps54]
   repeat' (first
  | (refine zah ?_; simp [hne, hne3, hne2, hne1, h0, he, x.row_eq, y.row_eq, Nat.add_assoc, del])
  | (refine zak ?_; simp [hne, hne3, hne2, hne1, h0, he, x.row_eq, y.row_eq, Nat.add_assoc, del])
  | (refine zai ?_; simp [hne, hne3, hne2, hne1, h0, he, x.row_eq, y.row_eq, Nat.add_assoc, del])
  | (refine zag ?_; simp [hne, hne3, hne2, hne1, h0, he, x.row_eq, y.row_eq, Nat.add_assoc, del])
  | (refine zar ?_; simp only [zal])
  | (refine zaq ?_; simp only [zal])
  | (refine CallP.fun_ (hb) (by first | rfl | fail) (by first | assumption | (simp; done) | fail) (by first | (simp [hne, hne3, hne2, hne1, h0, he, x.row_eq, y.row_eq, Nat.add_assoc, del]; done) | (simp [hne, hne3, hne2, hne1, h0, he, x.row_eq, y.row_eq, Nat.add_assoc, del]; rfl) | fail) (by first | (simp; done) | fail) (fun d hd => ?_); subst hd; (try simp [hne, hne3, hne2, hne1, h0, he, x.row_eq, y.row_eq, Nat.add_assoc, del]))
  | (refine CallP.okL (hx _ (by first | omega | (simp; done) | (simp; omega) | fail)) (by first | (simp [hne, hne3, hne2, hne1, h0, he, x.row_eq, y.row_eq, Nat.add_assoc, del, zaa, getK, zab, zac, zaj, zat, del]; done) | fail) (by rfl) (by first | assumption | (simp; done) | fail) (by rfl) (by simp) ?_; (try simp [hne, hne3, hne2, hne1, h0, he, x.row_eq, y.row_eq, Nat.add_assoc, del, zbe, del]))
  | fail)
   (refine EndW.here ?_; (first | (refine EndOK.fin (.inr rfl) ?_) | (refine EndOK.fin (.inl rfl) ?_)); simp [zay, zae, Tryd.results54, hm, hm1, hm2, hm3, hne, hne3, hne2, hne1, zab, zac, zaa, getK]; refine FinOK.cut (evO lets vars T) (nx) (by simp [zaa, getK, zab, zac, Ob.under, D.under, zad, zaf, hm, hm1, hm2, hm3, hne, hne3, hne2, hne1, zab, zac, zaa, getK] <;> omega) (by simp [D.under]) (by simp [hn]) ?_; try simp)
  ·have hy := fun nx' (h : nx ≤ nx') => hVy t1 nx' (by omega) hto1
   obtain ⟨hto2, hin2, hne0y⟩ := hTy t1 hto1
   rcases hvy : zbp lets (gX vars) n y t1 with ⟨er | b, T⟩
   ·rw [hvy] at hne0y hy
    have her := hne0y er rfl
    rw [zia h0 he hvx ha hvy]
    simp only [zde, za3] at hy ⊢
    (refine RetX.of_bodyW Tryd.func54 rfl (by simp) fun Γ hn hpan => ?_); simp only [entry, List.zipIdx_cons, List.zipIdx_nil, List.map_cons, List.map_nil, Nat.zero_add, Tryd.ntmps54]
    repeat' (first
  | (refine zah ?_; simp [hne, hne3, hne2, hne1, h0, he, ha, her, x.row_eq, y.row_eq, Nat.add_assoc, del])
  | (refine zak ?_; simp [hne, hne3, hne2, hne1, h0, he, ha, her, x.row_eq, y.row_eq, Nat.add_assoc, del])
  | (refine zai ?_; simp [hne, hne3, hne2, hne1, h0, he, ha, her, x.row_eq, y.row_eq, Nat.add_assoc, del])
  | (refine zag ?_; simp [hne, hne3, hne2, hne1, h0, he, ha, her, x.row_eq, y.row_eq, Nat.add_assoc, del])
  | (refine zar ?_; simp only [zal])
  | (refine zaq ?_; simp only [zal])
  | (refine CallP.okL (hx _ (by first | omega | (simp; done) | (simp; omega) | fail)) (by first | (simp [hne, hne3, hne2, hne1, h0, he, ha, her, x.row_eq, y.row_eq, Nat.add_assoc, del, zaa, getK, zab, zac, zaj, zat, del]; done) | fail) (by rfl) (by first | assumption | (simp; done) | fail) (by rfl) (by simp) ?_; (try simp [hne, hne3, hne2, hne1, h0, he, ha, her, x.row_eq, y.row_eq, Nat.add_assoc, del, zbe, del]))
  | (refine CallP.okL (hy _ (by first | omega | (simp; done) | (simp; omega) | fail)) (by first | (simp [hne, hne3, hne2, hne1, h0, he, ha, her, x.row_eq, y.row_eq, Nat.add_assoc, del, zaa, getK, zab, zac, zaj, zat, del]; done) | fail) (by rfl) (by first | assumption | (simp; done) | fail) (by rfl) (by simp) ?_; (try simp [hne, hne3, hne2, hne1, h0, he, ha, her, x.row_eq, y.row_eq, Nat.add_assoc, del, zbe, del]))
  | fail)
    (refine EndW.here ?_; (first | (refine EndOK.fin (.inr rfl) ?_) | (refine EndOK.fin (.inl rfl) ?_)); simp [zay, zae, Tryd.results54, hm, hm1, hm2, hm3, hne, hne3, hne2, hne1, zab, zac, zaa, getK]; refine FinOK.cut (evO lets vars T) (nx) (by simp [zaa, getK, zab, zac, Ob.under, D.under, zad, zaf, hm, hm1, hm2, hm3, hne, hne3, hne2, hne1, zab, zac, zaa, getK] <;> omega) (by simp [D.under]) (by simp [hn]) ?_; try simp)
   ·rw [hvy] at hy
    rw [zj3 h0 he hvx ha hvy]
    simp only [zcO, za3] at hy ⊢
    by_cases hb0 : b = 0
    ·have hb := zd4 false
     simp only [zbI, Bool.false_eq_true, if_false, hb0, ne_eq, not_true_eq_false, decide_false] at hb hy ⊢
     (refine RetX.of_bodyW Tryd.func54 rfl (by simp) fun Γ hn hpan => ?_); simp only [entry, List.zipIdx_cons, List.zipIdx_nil, List.map_cons, List.map_nil, Nat.zero_add, Tryd.ntmps54]
     repeat' (first
  | (refine zah ?_; simp [hne, hne3, hne2, hne1, h0, he, ha, hb0, x.row_eq, y.row_eq, Nat.add_assoc, del])
  | (refine zak ?_; simp [hne, hne3, hne2, hne1, h0, he, ha, hb0, x.row_eq, y.row_eq, Nat.add_assoc, del])
  | (refine zai ?_; simp [hne, hne3, hne2, hne1, h0, he, ha, hb0, x.row_eq, y.row_eq, Nat.add_assoc, del])
  | (refine zag ?_; simp [hne, hne3, hne2, hne1, h0, he, ha, hb0, x.row_eq, y.row_eq, Nat.add_assoc, del])
  | (refine zar ?_; simp only [zal])
  | (refine zaq ?_; simp only [zal])
  | (refine CallP.fun_ (hb) (by first | rfl | fail) (by first | assumption | (simp; done) | fail) (by first | (simp [hne, hne3, hne2, hne1, h0, he, ha, hb0, x.row_eq, y.row_eq, Nat.add_assoc, del]; done) | (simp [hne, hne3, hne2, hne1, h0, he, ha, hb0, x.row_eq, y.row_eq, Nat.add_assoc, del]; rfl) | fail) (by first | (simp; done) | fail) (fun d hd => ?_); subst hd; (try simp [hne, hne3, hne2, hne1, h0, he, ha, hb0, x.row_eq, y.row_eq, Nat.add_assoc, del]))
  | (refine CallP.okL (hx _ (by first | omega | (simp; done) | (simp; omega) | fail)) (by first | (simp [hne, hne3, hne2, hne1, h0, he, ha, hb0, x.row_eq, y.row_eq, Nat.add_assoc, del, zaa, getK, zab, zac, zaj, zat, del]; done) | fail) (by rfl) (by first | assumption | (simp; done) | fail) (by rfl) (by simp) ?_; (try simp [hne, hne3, hne2, hne1, h0, he, ha, hb0, x.row_eq, y.row_eq, Nat.add_assoc, del, zbe, del]))
  | (refine CallP.okL (hy _ (by first | omega | (simp; done) | (simp; omega) | fail)) (by first | (simp [hne, hne3, hne2, hne1, h0, he, ha, hb0, x.row_eq, y.row_eq, Nat.add_assoc, del, zaa, getK, zab, zac, zaj, zat, del]; done) | fail) (by rfl) (by first | assumption | (simp; done) | fail) (by rfl) (by simp) ?_; (try simp [hne, hne3, hne2, hne1, h0, he, ha, hb0, x.row_eq, y.row_eq, Nat.add_assoc, del, zbe, del]))
  | fail)
     (refine EndW.here ?_; (first | (refine EndOK.fin (.inr rfl) ?_) | (refine EndOK.fin (.inl rfl) ?_)); simp [zay, zae, Tryd.results54, hm, hm1, hm2, hm3, hne, hne3, hne2, hne1, zab, zac, zaa, getK]; refine FinOK.cut (evO lets vars T) (nx) (by simp [zaa, getK, zab, zac, Ob.under, D.under, zad, zaf, hm, hm1, hm2, hm3, hne, hne3, hne2, hne1, zab, zac, zaa, getK] <;> omega) (by simp [D.under]) (by simp [hn]) ?_; try simp)
    ·have hb := zd4 true
     simp only [zbI, if_true, hb0, ne_eq, not_false_eq_true, decide_true] at hb ⊢
     (refine RetX.of_bodyW Tryd.func54 rfl (by simp) fun Γ hn hpan => ?_); simp only [entry, List.zipIdx_cons, List.zipIdx_nil, List.map_cons, List.map_nil, Nat.zero_add, Tryd.ntmps54]
     repeat' (first
  | (refine zah ?_; simp [hne, hne3, hne2, hne1, h0, he, ha, hb0, x.row_eq, y.row_eq, Nat.add_assoc, del])
  | (refine zak ?_; simp [hne, hne3, hne2, hne1, h0, he, ha, hb0, x.row_eq, y.row_eq, Nat.add_assoc, del])
  | (refine zai ?_; simp [hne, hne3, hne2, hne1, h0, he, ha, hb0, x.row_eq, y.row_eq, Nat.add_assoc, del])
  | (refine zag ?_; simp [hne, hne3, hne2, hne1, h0, he, ha, hb0, x.row_eq, y.row_eq, Nat.add_assoc, del])
  | (refine zar ?_; simp only [zal])
  | (refine zaq ?_; simp only [zal])
  | (refine CallP.fun_ (hb) (by first | rfl | fail) (by first | assumption | (simp; done) | fail) (by first | (simp [hne, hne3, hne2, hne1, h0, he, ha, hb0, x.row_eq, y.row_eq, Nat.add_assoc, del]; done) | (simp [hne, hne3, hne2, hne1, h0, he, ha, hb0, x.row_eq, y.row_eq, Nat.add_assoc, del]; rfl) | fail) (by first | (simp; done) | fail) (fun d hd => ?_); subst hd; (try simp [hne, hne3, hne2, hne1, h0, he, ha, hb0, x.row_eq, y.row_eq, Nat.add_assoc, del]))
  | (refine CallP.okL (hx _ (by first | omega | (simp; done) | (simp; omega) | fail)) (by first | (simp [hne, hne3, hne2, hne1, h0, he, ha, hb0, x.row_eq, y.row_eq, Nat.add_assoc, del, zaa, getK, zab, zac, zaj, zat, del]; done) | fail) (by rfl) (by first | assumption | (simp; done) | fail) (by rfl) (by simp) ?_; (try simp [hne, hne3, hne2, hne1, h0, he, ha, hb0, x.row_eq, y.row_eq, Nat.add_assoc, del, zbe, del]))
  | (refine CallP.okL (hy _ (by first | omega | (simp; done) | (simp; omega) | fail)) (by first | (simp [hne, hne3, hne2, hne1, h0, he, ha, hb0, x.row_eq, y.row_eq, Nat.add_assoc, del, zaa, getK, zab, zac, zaj, zat, del]; done) | fail) (by rfl) (by first | assumption | (simp; done) | fail) (by rfl) (by simp) ?_; (try simp [hne, hne3, hne2, hne1, h0, he, ha, hb0, x.row_eq, y.row_eq, Nat.add_assoc, del, zbe, del]))
  | fail)
     (refine EndW.here ?_; (first | (refine EndOK.fin (.inr rfl) ?_) | (refine EndOK.fin (.inl rfl) ?_)); simp [zay, zae, Tryd.results54, hm, hm1, hm2, hm3, hne, hne3, hne2, hne1, zab, zac, zaa, getK]; refine FinOK.cut (evO lets vars T) (nx) (by simp [zaa, getK, zab, zac, Ob.under, D.under, zad, zaf, hm, hm1, hm2, hm3, hne, hne3, hne2, hne1, zab, zac, zaa, getK] <;> omega) (by simp [D.under]) (by simp [hn]) ?_; try simp)
theorem zol {lets : List Let} {vars : List Var} {n : Nat} {e x y : Exp} (h0 : e.op = 11) (he : e.args = [x, y]) (hVx : zh4 lets vars n x) (hTx : zmZ lets vars n x) (hVy : zh4 lets vars n y) (hTy : zmZ lets vars n y) : zpT lets vars n e := by
 intro t nx hm hto
 have hne := nef hm
 have hne3 := nef (show 3 < nx by omega)
 have hne2 := nef (show 2 < nx by omega)
 have hne1 := nef (show 1 < nx by omega)
 have hm3 : 3 < nx := by omega
 have hm2 : 2 < nx := by omega
 have hm1 : 1 < nx := by omega
 unfold za3
 have hx := fun nx' (h : nx ≤ nx') => hVx t nx' (by omega) hto
 obtain ⟨hto1, hin1, hne0⟩ := hTx t hto
 rcases hvx : zbp lets (gX vars) n x t with ⟨er | a, t1⟩
 ·obtain ⟨T, rfl⟩ : ∃ T, T = t1 := ⟨_, rfl⟩
  rw [hvx] at hne0 hx
  have her := hne0 er rfl
  rw [zc5 (by omega) (by omega) he hvx]
  simp only [zde, za3] at hx ⊢
  (refine RetX.of_bodyW Tryd.func54 rfl (by simp) fun Γ hn hpan => ?_); simp only [entry, List.zipIdx_cons, List.zipIdx_nil, List.map_cons, List.map_nil, Nat.zero_add, Tryd.ntmps54]
  repeat' (first
  | (refine zah ?_; simp [hne, hne3, hne2, hne1, h0, he, her, x.row_eq, y.row_eq, Nat.add_assoc, del])
  | (refine zak ?_; simp [hne, hne3, hne2, hne1, h0, he, her, x.row_eq, y.row_eq, Nat.add_assoc, del])
  | (refine zai ?_; simp [hne, hne3, hne2, hne1, h0, he, her, x.row_eq, y.row_eq, Nat.add_assoc, del])
  | (refine zag ?_; simp [hne, hne3, hne2, hne1, h0, he, her, x.row_eq, y.row_eq, Nat.add_assoc, del])
  | (refine zar ?_; simp only [zal])
  | (refine CallP.okL (hx _ (by first | omega | (simp; done) | (simp; omega) | fail)) (by first | (simp [hne, hne3, hne2, hne1, h0, he, her, x.row_eq, y.row_eq, Nat.add_assoc, del, zaa, getK, zab, zac, zaj, zat, del]; done) | fail) (by rfl) (by first | assumption | (simp; done) | fail) (by rfl) (by simp) ?_; (try simp [hne, hne3, hne2, hne1, h0, he, her, x.row_eq, y.row_eq, Nat.add_assoc, del, zbe, del]))
  | fail)
  (refine EndW.here ?_; (first | (refine EndOK.fin (.inr rfl) ?_) | (refine EndOK.fin (.inl rfl) ?_)); simp [zay, zae, Tryd.results54, hm, hm1, hm2, hm3, hne, hne3, hne2, hne1, zab, zac, zaa, getK]; refine FinOK.cut (evO lets vars T) (nx) (by simp [zaa, getK, zab, zac, Ob.under, D.under, zad, zaf, hm, hm1, hm2, hm3, hne, hne3, hne2, hne1, zab, zac, zaa, getK] <;> omega) (by simp [D.under]) (by simp [hn]) ?_; try simp)
 ·rw [hvx] at hto1 hx
  simp only [zcO, za3] at hx hto1
  by_cases ha : a = 0
  ·subst ha
   have hy := fun nx' (h : nx ≤ nx') => hVy t1 nx' (by omega) hto1
   obtain ⟨hto2, hin2, hne0y⟩ := hTy t1 hto1
   rcases hvy : zbp lets (gX vars) n y t1 with ⟨er | b, T⟩
   ·rw [hvy] at hne0y hy
    have her := hne0y er rfl
    rw [zjW h0 he hvx hvy]
    simp only [zde, za3] at hy ⊢
    (refine RetX.of_bodyW Tryd.func54 rfl (by simp) fun Γ hn hpan => ?_); simp only [entry, List.zipIdx_cons, List.zipIdx_nil, List.map_cons, List.map_nil, Nat.zero_add, Tryd.ntmps54]
    repeat' (first
  | (refine zah ?_; simp [hne, hne3, hne2, hne1, h0, he, her, x.row_eq, y.row_eq, Nat.add_assoc, del])
  | (refine zak ?_; simp [hne, hne3, hne2, hne1, h0, he, her, x.row_eq, y.row_eq, Nat.add_assoc, del])
  | (refine zai ?_; simp [hne, hne3, hne2, hne1, h0, he, her, x.row_eq, y.row_eq, Nat.add_assoc, del])
  | (refine zag ?_; simp [hne, hne3, hne2, hne1, h0, he, her, x.row_eq, y.row_eq, Nat.add_assoc, del])
  | (refine zar ?_; simp only [zal])
  | (refine zaq ?_; simp only [zal])
  | (refine CallP.okL (hx _ (by first | omega | (simp; done) | (simp; omega) | fail)) (by first | (simp [hne, hne3, hne2, hne1, h0, he, her, x.row_eq, y.row_eq, Nat.add_assoc, del, zaa, getK, zab, zac, zaj, zat, del]; done) | fail) (by rfl) (by first | assumption | (simp; done) | fail) (by rfl) (by simp) ?_; (try simp [hne, hne3, hne2, hne1, h0, he, her, x.row_eq, y.row_eq, Nat.add_assoc, del, zbe, del]))
  | (refine CallP.okL (hy _ (by first | omega | (simp; done) | (simp; omega) | fail)) (by first | (simp [hne, hne3, hne2, hne1, h0, he, her, x.row_eq, y.row_eq, Nat.add_assoc, del, zaa, getK, zab, zac, zaj, zat, del]; done) | fail) (by rfl) (by first | assumption | (simp; done) | fail) (by rfl) (by simp) ?_; (try simp [hne, hne3, hne2, hne1, h0, he, her, x.row_eq, y.row_eq, Nat.add_assoc, del, zbe, del]))
  | fail)
    (refine EndW.here ?_; (first | (refine EndOK.fin (.inr rfl) ?_) | (refine EndOK.fin (.inl rfl) ?_)); simp [zay, zae, Tryd.results54, hm, hm1, hm2, hm3, hne, hne3, hne2, hne1, zab, zac, zaa, getK]; refine FinOK.cut (evO lets vars T) (nx) (by simp [zaa, getK, zab, zac, Ob.under, D.under, zad, zaf, hm, hm1, hm2, hm3, hne, hne3, hne2, hne1, zab, zac, zaa, getK] <;> omega) (by simp [D.under]) (by simp [hn]) ?_; try simp)
   ·rw [hvy] at hy
    rw [zlx h0 he hvx hvy]
    simp only [zcO, za3] at hy ⊢
    by_cases hb0 : b = 0
    ·have hb := zd4 false
     simp only [zbI, Bool.false_eq_true, if_false, hb0, ne_eq, not_true_eq_false, decide_false] at hb hy ⊢
     (refine RetX.of_bodyW Tryd.func54 rfl (by simp) fun Γ hn hpan => ?_); simp only [entry, List.zipIdx_cons, List.zipIdx_nil, List.map_cons, List.map_nil, Nat.zero_add, Tryd.ntmps54]
     repeat' (first
  | (refine zah ?_; simp [hne, hne3, hne2, hne1, h0, he, hb0, x.row_eq, y.row_eq, Nat.add_assoc, del])
  | (refine zak ?_; simp [hne, hne3, hne2, hne1, h0, he, hb0, x.row_eq, y.row_eq, Nat.add_assoc, del])
  | (refine zai ?_; simp [hne, hne3, hne2, hne1, h0, he, hb0, x.row_eq, y.row_eq, Nat.add_assoc, del])
  | (refine zag ?_; simp [hne, hne3, hne2, hne1, h0, he, hb0, x.row_eq, y.row_eq, Nat.add_assoc, del])
  | (refine zar ?_; simp only [zal])
  | (refine zaq ?_; simp only [zal])
  | (refine CallP.fun_ (hb) (by first | rfl | fail) (by first | assumption | (simp; done) | fail) (by first | (simp [hne, hne3, hne2, hne1, h0, he, hb0, x.row_eq, y.row_eq, Nat.add_assoc, del]; done) | (simp [hne, hne3, hne2, hne1, h0, he, hb0, x.row_eq, y.row_eq, Nat.add_assoc, del]; rfl) | fail) (by first | (simp; done) | fail) (fun d hd => ?_); subst hd; (try simp [hne, hne3, hne2, hne1, h0, he, hb0, x.row_eq, y.row_eq, Nat.add_assoc, del]))
  | (refine CallP.okL (hx _ (by first | omega | (simp; done) | (simp; omega) | fail)) (by first | (simp [hne, hne3, hne2, hne1, h0, he, hb0, x.row_eq, y.row_eq, Nat.add_assoc, del, zaa, getK, zab, zac, zaj, zat, del]; done) | fail) (by rfl) (by first | assumption | (simp; done) | fail) (by rfl) (by simp) ?_; (try simp [hne, hne3, hne2, hne1, h0, he, hb0, x.row_eq, y.row_eq, Nat.add_assoc, del, zbe, del]))
  | (refine CallP.okL (hy _ (by first | omega | (simp; done) | (simp; omega) | fail)) (by first | (simp [hne, hne3, hne2, hne1, h0, he, hb0, x.row_eq, y.row_eq, Nat.add_assoc, del, zaa, getK, zab, zac, zaj, zat, del]; done) | fail) (by rfl) (by first | assumption | (simp; done) | fail) (by rfl) (by simp) ?_; (try simp [hne, hne3, hne2, hne1, h0, he, hb0, x.row_eq, y.row_eq, Nat.add_assoc, del, zbe, del]))
  | fail)
     (refine EndW.here ?_; (first | (refine EndOK.fin (.inr rfl) ?_) | (refine EndOK.fin (.inl rfl) ?_)); simp [zay, zae, Tryd.results54, hm, hm1, hm2, hm3, hne, hne3, hne2, hne1, zab, zac, zaa, getK]; refine FinOK.cut (evO lets vars T) (nx) (by simp [zaa, getK, zab, zac, Ob.under, D.under, zad, zaf, hm, hm1, hm2, hm3, hne, hne3, hne2, hne1, zab, zac, zaa, getK] <;> omega) (by simp [D.under]) (by simp [hn]) ?_; try simp)
    ·have hb := zd4 true
     simp only [zbI, if_true, hb0, ne_eq, not_false_eq_true, decide_true] at hb ⊢
     (refine RetX.of_bodyW Tryd.func54 rfl (by simp) fun Γ hn hpan => ?_); simp only [entry, List.zipIdx_cons, List.zipIdx_nil, List.map_cons, List.map_nil, Nat.zero_add, Tryd.ntmps54]
     repeat' (first
  | (refine zah ?_; simp [hne, hne3, hne2, hne1, h0, he, hb0, x.row_eq, y.row_eq, Nat.add_assoc, del])
  | (refine zak ?_; simp [hne, hne3, hne2, hne1, h0, he, hb0, x.row_eq, y.row_eq, Nat.add_assoc, del])
  | (refine zai ?_; simp [hne, hne3, hne2, hne1, h0, he, hb0, x.row_eq, y.row_eq, Nat.add_assoc, del])
  | (refine zag ?_; simp [hne, hne3, hne2, hne1, h0, he, hb0, x.row_eq, y.row_eq, Nat.add_assoc, del])
  | (refine zar ?_; simp only [zal])
  | (refine zaq ?_; simp only [zal])
  | (refine CallP.fun_ (hb) (by first | rfl | fail) (by first | assumption | (simp; done) | fail) (by first | (simp [hne, hne3, hne2, hne1, h0, he, hb0, x.row_eq, y.row_eq, Nat.add_assoc, del]; done) | (simp [hne, hne3, hne2, hne1, h0, he, hb0, x.row_eq, y.row_eq, Nat.add_assoc, del]; rfl) | fail) (by first | (simp; done) | fail) (fun d hd => ?_); subst hd; (try simp [hne, hne3, hne2, hne1, h0, he, hb0, x.row_eq, y.row_eq, Nat.add_assoc, del]))
  | (refine CallP.okL (hx _ (by first | omega | (simp; done) | (simp; omega) | fail)) (by first | (simp [hne, hne3, hne2, hne1, h0, he, hb0, x.row_eq, y.row_eq, Nat.add_assoc, del, zaa, getK, zab, zac, zaj, zat, del]; done) | fail) (by rfl) (by first | assumption | (simp; done) | fail) (by rfl) (by simp) ?_; (try simp [hne, hne3, hne2, hne1, h0, he, hb0, x.row_eq, y.row_eq, Nat.add_assoc, del, zbe, del]))
  | (refine CallP.okL (hy _ (by first | omega | (simp; done) | (simp; omega) | fail)) (by first | (simp [hne, hne3, hne2, hne1, h0, he, hb0, x.row_eq, y.row_eq, Nat.add_assoc, del, zaa, getK, zab, zac, zaj, zat, del]; done) | fail) (by rfl) (by first | assumption | (simp; done) | fail) (by rfl) (by simp) ?_; (try simp [hne, hne3, hne2, hne1, h0, he, hb0, x.row_eq, y.row_eq, Nat.add_assoc, del, zbe, del]))
  | fail)
     (refine EndW.here ?_; (first | (refine EndOK.fin (.inr rfl) ?_) | (refine EndOK.fin (.inl rfl) ?_)); simp [zay, zae, Tryd.results54, hm, hm1, hm2, hm3, hne, hne3, hne2, hne1, zab, zac, zaa, getK]; refine FinOK.cut (evO lets vars T) (nx) (by simp [zaa, getK, zab, zac, Ob.under, D.under, zad, zaf, hm, hm1, hm2, hm3, hne, hne3, hne2, hne1, zab, zac, zaa, getK] <;> omega) (by simp [D.under]) (by simp [hn]) ?_; try simp)
  ·rw [zjX h0 he hvx ha]
   obtain ⟨T, rfl⟩ : ∃ T, T = t1 := ⟨_, rfl⟩
   have hb := zd4 true
   simp only [zbI, if_true] at hb
   simp only [zcO]
   (refine RetX.of_bodyW Tryd.func54 rfl (by simp) fun Γ hn hpan => ?_); simp only [entry, List.zipIdx_cons, List.zipIdx_nil, List.map_cons, List.map_nil, Nat.zero_add, Tryd.ntmps54]
   repeat' (first
  | (refine zah ?_; simp [hne, hne3, hne2, hne1, h0, he, ha, x.row_eq, y.row_eq, Nat.add_assoc, del])
  | (refine zak ?_; simp [hne, hne3, hne2, hne1, h0, he, ha, x.row_eq, y.row_eq, Nat.add_assoc, del])
  | (refine zai ?_; simp [hne, hne3, hne2, hne1, h0, he, ha, x.row_eq, y.row_eq, Nat.add_assoc, del])
  | (refine zag ?_; simp [hne, hne3, hne2, hne1, h0, he, ha, x.row_eq, y.row_eq, Nat.add_assoc, del])
  | (refine zar ?_; simp only [zal])
  | (refine zaq ?_; simp only [zal])
  | (refine CallP.fun_ (hb) (by first | rfl | fail) (by first | assumption | (simp; done) | fail) (by first | (simp [hne, hne3, hne2, hne1, h0, he, ha, x.row_eq, y.row_eq, Nat.add_assoc, del]; done) | (simp [hne, hne3, hne2, hne1, h0, he, ha, x.row_eq, y.row_eq, Nat.add_assoc, del]; rfl) | fail) (by first | (simp; done) | fail) (fun d hd => ?_); subst hd; (try simp [hne, hne3, hne2, hne1, h0, he, ha, x.row_eq, y.row_eq, Nat.add_assoc, del]))
  | (refine CallP.okL (hx _ (by first | omega | (simp; done) | (simp; omega) | fail)) (by first | (simp [hne, hne3, hne2, hne1, h0, he, ha, x.row_eq, y.row_eq, Nat.add_assoc, del, zaa, getK, zab, zac, zaj, zat, del]; done) | fail) (by rfl) (by first | assumption | (simp; done) | fail) (by rfl) (by simp) ?_; (try simp [hne, hne3, hne2, hne1, h0, he, ha, x.row_eq, y.row_eq, Nat.add_assoc, del, zbe, del]))
  | fail)
   (refine EndW.here ?_; (first | (refine EndOK.fin (.inr rfl) ?_) | (refine EndOK.fin (.inl rfl) ?_)); simp [zay, zae, Tryd.results54, hm, hm1, hm2, hm3, hne, hne3, hne2, hne1, zab, zac, zaa, getK]; refine FinOK.cut (evO lets vars T) (nx) (by simp [zaa, getK, zab, zac, Ob.under, D.under, zad, zaf, hm, hm1, hm2, hm3, hne, hne3, hne2, hne1, zab, zac, zaa, getK] <;> omega) (by simp [D.under]) (by simp [hn]) ?_; try simp)
theorem zom {lets : List Let} {vars : List Var} {n : Nat} {e x y z : Exp} (h0 : e.op = 13) (he : e.args = [x, y, z]) (hVx : zh4 lets vars n x) (hTx : zmZ lets vars n x) (hVy : zh4 lets vars n y) (hVz : zh4 lets vars n z) : zpT lets vars n e := by
 intro t nx hm hto
 have hne := nef hm
 have hne3 := nef (show 3 < nx by omega)
 have hne2 := nef (show 2 < nx by omega)
 have hne1 := nef (show 1 < nx by omega)
 have hm3 : 3 < nx := by omega
 have hm2 : 2 < nx := by omega
 have hm1 : 1 < nx := by omega
 unfold za3
 have hx := fun nx' (h : nx ≤ nx') => hVx t nx' (by omega) hto
 obtain ⟨hto1, hin1, hne0⟩ := hTx t hto
 rcases hvx : zbp lets (gX vars) n x t with ⟨er | a, t1⟩
 ·obtain ⟨T, rfl⟩ : ∃ T, T = t1 := ⟨_, rfl⟩
  rw [hvx] at hne0 hx
  have her := hne0 er rfl
  rw [zc5 (by omega) (by omega) he hvx]
  simp only [zde, za3] at hx ⊢
  (refine RetX.of_bodyW Tryd.func54 rfl (by simp) fun Γ hn hpan => ?_); simp only [entry, List.zipIdx_cons, List.zipIdx_nil, List.map_cons, List.map_nil, Nat.zero_add, Tryd.ntmps54]
  repeat' (first
  | (refine zah ?_; simp [hne, hne3, hne2, hne1, h0, he, her, x.row_eq, y.row_eq, z.row_eq, Nat.add_assoc, del])
  | (refine zak ?_; simp [hne, hne3, hne2, hne1, h0, he, her, x.row_eq, y.row_eq, z.row_eq, Nat.add_assoc, del])
  | (refine zai ?_; simp [hne, hne3, hne2, hne1, h0, he, her, x.row_eq, y.row_eq, z.row_eq, Nat.add_assoc, del])
  | (refine zag ?_; simp [hne, hne3, hne2, hne1, h0, he, her, x.row_eq, y.row_eq, z.row_eq, Nat.add_assoc, del])
  | (refine zar ?_; simp only [zal])
  | (refine CallP.okL (hx _ (by first | omega | (simp; done) | (simp; omega) | fail)) (by first | (simp [hne, hne3, hne2, hne1, h0, he, her, x.row_eq, y.row_eq, z.row_eq, Nat.add_assoc, del, zaa, getK, zab, zac, zaj, zat, del]; done) | fail) (by rfl) (by first | assumption | (simp; done) | fail) (by rfl) (by simp) ?_; (try simp [hne, hne3, hne2, hne1, h0, he, her, x.row_eq, y.row_eq, z.row_eq, Nat.add_assoc, del, zbe, del]))
  | fail)
  (refine EndW.here ?_; (first | (refine EndOK.fin (.inr rfl) ?_) | (refine EndOK.fin (.inl rfl) ?_)); simp [zay, zae, Tryd.results54, hm, hm1, hm2, hm3, hne, hne3, hne2, hne1, zab, zac, zaa, getK]; refine FinOK.cut (evO lets vars T) (nx) (by simp [zaa, getK, zab, zac, Ob.under, D.under, zad, zaf, hm, hm1, hm2, hm3, hne, hne3, hne2, hne1, zab, zac, zaa, getK] <;> omega) (by simp [D.under]) (by simp [hn]) ?_; try simp)
 ·rw [hvx] at hto1 hx
  simp only [zcO, za3] at hx hto1
  by_cases ha : a = 0
  ·subst ha
   have hz := fun nx' (h : nx ≤ nx') => hVz t1 nx' (by omega) hto1
   rw [zj1 h0 he hvx]
   rcases hvz : zbp lets (gX vars) n z t1 with ⟨res, T⟩
   rw [hvz] at hz
   unfold zgD at hz ⊢
   generalize zcT res = q at hz ⊢
   obtain ⟨v1, e1, d1⟩ := q
   simp only [za3] at hz ⊢
   (refine RetX.of_bodyW Tryd.func54 rfl (by simp) fun Γ hn hpan => ?_); simp only [entry, List.zipIdx_cons, List.zipIdx_nil, List.map_cons, List.map_nil, Nat.zero_add, Tryd.ntmps54]
   repeat' (first
  | (refine zah ?_; simp [hne, hne3, hne2, hne1, h0, he, x.row_eq, y.row_eq, z.row_eq, Nat.add_assoc, del])
  | (refine zak ?_; simp [hne, hne3, hne2, hne1, h0, he, x.row_eq, y.row_eq, z.row_eq, Nat.add_assoc, del])
  | (refine zai ?_; simp [hne, hne3, hne2, hne1, h0, he, x.row_eq, y.row_eq, z.row_eq, Nat.add_assoc, del])
  | (refine zag ?_; simp [hne, hne3, hne2, hne1, h0, he, x.row_eq, y.row_eq, z.row_eq, Nat.add_assoc, del])
  | (refine zar ?_; simp only [zal])
  | (refine zaq ?_; simp only [zal])
  | (refine CallP.okL (hx _ (by first | omega | (simp; done) | (simp; omega) | fail)) (by first | (simp [hne, hne3, hne2, hne1, h0, he, x.row_eq, y.row_eq, z.row_eq, Nat.add_assoc, del, zaa, getK, zab, zac, zaj, zat, del]; done) | fail) (by rfl) (by first | assumption | (simp; done) | fail) (by rfl) (by simp) ?_; (try simp [hne, hne3, hne2, hne1, h0, he, x.row_eq, y.row_eq, z.row_eq, Nat.add_assoc, del, zbe, del]))
  | (refine CallP.okL (hz _ (by first | omega | (simp; done) | (simp; omega) | fail)) (by first | (simp [hne, hne3, hne2, hne1, h0, he, x.row_eq, y.row_eq, z.row_eq, Nat.add_assoc, del, zaa, getK, zab, zac, zaj, zat, del]; done) | fail) (by rfl) (by first | assumption | (simp; done) | fail) (by rfl) (by simp) ?_; (try simp [hne, hne3, hne2, hne1, h0, he, x.row_eq, y.row_eq, z.row_eq, Nat.add_assoc, del, zbe, del]))
  | fail)
   (refine EndW.here ?_; (first | (refine EndOK.fin (.inr rfl) ?_) | (refine EndOK.fin (.inl rfl) ?_)); simp [zay, zae, Tryd.results54, hm, hm1, hm2, hm3, hne, hne3, hne2, hne1, zab, zac, zaa, getK]; refine FinOK.cut (evO lets vars T) (nx) (by simp [zaa, getK, zab, zac, Ob.under, D.under, zad, zaf, hm, hm1, hm2, hm3, hne, hne3, hne2, hne1, zab, zac, zaa, getK] <;> omega) (by simp [D.under]) (by simp [hn]) ?_; try simp)
  ·have hy := fun nx' (h : nx ≤ nx') => hVy t1 nx' (by omega) hto1
   rw [zj0 h0 he hvx ha]
   rcases hvy : zbp lets (gX vars) n y t1 with ⟨res, T⟩
   rw [hvy] at hy
   unfold zgD at hy ⊢
   generalize zcT res = q at hy ⊢
   obtain ⟨v1, e1, d1⟩ := q
   simp only [za3] at hy ⊢
   (refine RetX.of_bodyW Tryd.func54 rfl (by simp) fun Γ hn hpan => ?_); simp only [entry, List.zipIdx_cons, List.zipIdx_nil, List.map_cons, List.map_nil, Nat.zero_add, Tryd.ntmps54]
   repeat' (first
  | (refine zah ?_; simp [hne, hne3, hne2, hne1, h0, he, ha, x.row_eq, y.row_eq, z.row_eq, Nat.add_assoc, del])
  | (refine zak ?_; simp [hne, hne3, hne2, hne1, h0, he, ha, x.row_eq, y.row_eq, z.row_eq, Nat.add_assoc, del])
  | (refine zai ?_; simp [hne, hne3, hne2, hne1, h0, he, ha, x.row_eq, y.row_eq, z.row_eq, Nat.add_assoc, del])
  | (refine zag ?_; simp [hne, hne3, hne2, hne1, h0, he, ha, x.row_eq, y.row_eq, z.row_eq, Nat.add_assoc, del])
  | (refine zar ?_; simp only [zal])
  | (refine zaq ?_; simp only [zal])
  | (refine CallP.okL (hx _ (by first | omega | (simp; done) | (simp; omega) | fail)) (by first | (simp [hne, hne3, hne2, hne1, h0, he, ha, x.row_eq, y.row_eq, z.row_eq, Nat.add_assoc, del, zaa, getK, zab, zac, zaj, zat, del]; done) | fail) (by rfl) (by first | assumption | (simp; done) | fail) (by rfl) (by simp) ?_; (try simp [hne, hne3, hne2, hne1, h0, he, ha, x.row_eq, y.row_eq, z.row_eq, Nat.add_assoc, del, zbe, del]))
  | (refine CallP.okL (hy _ (by first | omega | (simp; done) | (simp; omega) | fail)) (by first | (simp [hne, hne3, hne2, hne1, h0, he, ha, x.row_eq, y.row_eq, z.row_eq, Nat.add_assoc, del, zaa, getK, zab, zac, zaj, zat, del]; done) | fail) (by rfl) (by first | assumption | (simp; done) | fail) (by rfl) (by simp) ?_; (try simp [hne, hne3, hne2, hne1, h0, he, ha, x.row_eq, y.row_eq, z.row_eq, Nat.add_assoc, del, zbe, del]))
  | fail)
   (refine EndW.here ?_; (first | (refine EndOK.fin (.inr rfl) ?_) | (refine EndOK.fin (.inl rfl) ?_)); simp [zay, zae, Tryd.results54, hm, hm1, hm2, hm3, hne, hne3, hne2, hne1, zab, zac, zaa, getK]; refine FinOK.cut (evO lets vars T) (nx) (by simp [zaa, getK, zab, zac, Ob.under, D.under, zad, zaf, hm, hm1, hm2, hm3, hne, hne3, hne2, hne1, zab, zac, zaa, getK] <;> omega) (by simp [D.under]) (by simp [hn]) ?_; try simp)
end Go.Proofs.YtfcopibncpkdoaaDoor
