/- Texts joined by a program of mine: Fg Fh Ea Eb Ec Ed Ee Ef Eg Eh Ei Ej. -/
import Derived.Test.YtfcopibncpkdoaaDoorJ4
set_option linter.all false
set_option maxRecDepth 100000
set_option maxHeartbeats 8000000
namespace Go.Proofs.YtfcopibncpkdoaaDoor
open Go Go.VL
attribute [local simp] HS zcp zbN evPure opd uOf zaB St.put St.at getK binD binI binS binB nilD aggD zeJ ze8 lookD lookR zbT Go.VL.nextD zbY zfe zfd zev zbM mkV zaW zaP zaO zaN zcm zaM za1 zbc mapEff zcS zek Key.kk shiftI arith unD convD zcP loadD cellsAt fieldAddrD fieldD indexAddrD indexD sliceD cutD lenD minmaxD nilCheckD buildD fillD zbt zcq zdR setAll zcg zdy zbQ zeN zbO St.add zaC zbj rowsOf zcM zce zaj zac zaa za5 zcl zaH entry za4 za6 valD zbS zb7 zez zct zcu zbx zbs zav zaT za7 delAll effD St.effS zb9 zaQ zaI zca zaR zaK zby zaJ zaD zbz zb8 zbb zbw zaZ zbu zbv zat mkD zbk zbd zbB zav zbP D.ids Op.operands Call.operands za8 makeIfD typeAssertD ze6 zcH zcI zeR zbV IntKind.bits zch List.take_of_length_le List.range_succ
attribute [local irreducible] V G H HD HD2 HD4 zhn RetX zal Eff CallP CallV EndOK Fun Ret FinOK LoopI LoopW EndW
def zod (lets : List Let) (r : Nat) (g : GM) (m n : Nat) : Prop := ∀ (s : List UInt8) (t : Tab) (nx : Nat), m < nx → r < nx → TabOK lets.length t →
 RetX Tryd.prog 74 [.ptr m 0, .u (.str s), .u (.int .i64 n)] [(m, mOb lets r g), (r, tOb t)] nx
  (fun o obs n' => o = zco (nmT lets (gF g) n s t).1 ∧ obs = [(m, mOb lets r g), (r, tOb (nmT lets (gF g) n s t).2)] ∧ n' = nx)
theorem zlr {lets : List Let} {r : Nat} {g : GM} {m n : Nat} {e : Exp} (hmr : m ≠ r) (h0 : e.op = 0) : zdt lets r g m n e := by
 intro t nx hm hr ht
 have hne := nef hm
 have hne2 := nef hr
 unfold za3
 obtain ⟨T, rfl⟩ : ∃ T, T = t := ⟨_, rfl⟩
 rw [zjY h0]
 have hck := fun nx' => zdP e.n nx'
 cases hk0 : zcG e.n with
 | ok v =>
  simp only [hk0, zco] at hck ⊢
  (refine RetX.of_bodyW Tryd.func46 rfl (by simp) fun Γ hn hpan => ?_); simp only [entry, List.zipIdx_cons, List.zipIdx_nil, List.map_cons, List.map_nil, Nat.zero_add, Tryd.ntmps46]
  repeat' (first
  | (refine zah ?_; simp [hne, hne2, hmr, Ne.symm hmr, h0, Nat.add_assoc, del])
  | (refine zak ?_; simp [hne, hne2, hmr, Ne.symm hmr, h0, Nat.add_assoc, del])
  | (refine zai ?_; simp [hne, hne2, hmr, Ne.symm hmr, h0, Nat.add_assoc, del])
  | (refine zag ?_; simp [hne, hne2, hmr, Ne.symm hmr, h0, Nat.add_assoc, del])
  | (refine zam ?_; simp [hne, hne2, hmr, Ne.symm hmr, h0, Nat.add_assoc, del])
  | (refine zar ?_; simp only [zal])
  | (refine CallP.okL (hck _) (by first | (simp [hne, hne2, hmr, Ne.symm hmr, h0, Nat.add_assoc, del, zaa, getK, zab, zac, zaj, zat, del]; done) | fail) (by rfl) (by first | assumption | (simp; done) | fail) (by rfl) (by simp) ?_; (try simp [hne, hne2, hmr, Ne.symm hmr, h0, Nat.add_assoc, del, zbe, del]))
  | fail)
  (refine EndW.here ?_; (first | (refine EndOK.fin (.inr rfl) ?_) | (refine EndOK.fin (.inl rfl) ?_)); simp [zay, zae, Tryd.results46, hm, hr, hne, hne2, hmr, Ne.symm hmr, zan, zaw]; refine FinOK.cut [(m, mOb lets r g), (r, tOb T)] (nx) (by simp [zaa, getK, zab, zac, Ob.under, D.under, zad, zaf, hm, hr, hne, hne2, hmr, Ne.symm hmr, zan, zaw] <;> omega) (by simp [D.under]) (by simp [hn]) ?_; try simp)
 | error er =>
  simp only [hk0, zco] at hck ⊢
  (refine RetX.of_bodyW Tryd.func46 rfl (by simp) fun Γ hn hpan => ?_); simp only [entry, List.zipIdx_cons, List.zipIdx_nil, List.map_cons, List.map_nil, Nat.zero_add, Tryd.ntmps46]
  repeat' (first
  | (refine zah ?_; simp [hne, hne2, hmr, Ne.symm hmr, h0, Nat.add_assoc, del])
  | (refine zak ?_; simp [hne, hne2, hmr, Ne.symm hmr, h0, Nat.add_assoc, del])
  | (refine zai ?_; simp [hne, hne2, hmr, Ne.symm hmr, h0, Nat.add_assoc, del])
  | (refine zag ?_; simp [hne, hne2, hmr, Ne.symm hmr, h0, Nat.add_assoc, del])
  | (refine zam ?_; simp [hne, hne2, hmr, Ne.symm hmr, h0, Nat.add_assoc, del])
  | (refine CallP.zh5 (hck _) (by first | (simp [hne, hne2, hmr, Ne.symm hmr, h0, Nat.add_assoc, del, zaa, getK, zab, zac, zaj, zat, del]; done) | fail) (by rfl) (by first | assumption | (simp; done) | fail) (by rfl) (by simp) ?_; refine ⟨_, Wk.refl _, ?_⟩; (try simp [hne, hne2, hmr, Ne.symm hmr, h0, Nat.add_assoc, del, zbe, del]))
  | fail)
  (refine hpan _ _ ⟨{ n := _, env := [], obs := [(m, mOb lets r g), (r, tOb T)], next := nx }, (Wk.cut rfl (by simp [hn]) (by simp [wkO, zaa, getK, zab, zac, Ob.under, D.under, zad, zaf, hm, hr, hne, hne2, hmr, Ne.symm hmr, zan, zaw, zab, zac, zaa, getK] <;> (try omega)) (by simp [wkU, zap, zaa, getK, D.under, hm, hr, hne, hne2, hmr, Ne.symm hmr, zan, zaw, zab, zac, zaa, getK] <;> (try omega)) (by simp [wkE, zap, zaa, getK, hm, hr, hne, hne2, hmr, Ne.symm hmr, zan, zaw, zab, zac, zaa, getK] <;> (try omega))), (by simp [hn] <;> (try omega)), ?_⟩; try simp)
theorem zkG {lets : List Let} {r : Nat} {g : GM} {m n : Nat} {e : Exp} (hmr : m ≠ r) (h0 : e.op = 1) (hN : zod lets r g m n) : zdt lets r g m n e := by
 intro t nx hm hr ht
 have hne := nef hm
 have hne2 := nef hr
 unfold za3
 rw [zh8 h0]
 have hck := fun nx' (h : nx ≤ nx') => hN e.s t nx' (by omega) (by omega) ht
 rcases hk0 : nmT lets (gF g) n e.s t with ⟨er | v, T⟩
 ·simp only [hk0, zco] at hck ⊢
  (refine RetX.of_bodyW Tryd.func46 rfl (by simp) fun Γ hn hpan => ?_); simp only [entry, List.zipIdx_cons, List.zipIdx_nil, List.map_cons, List.map_nil, Nat.zero_add, Tryd.ntmps46]
  repeat' (first
  | (refine zah ?_; simp [hne, hne2, hmr, Ne.symm hmr, h0, Nat.add_assoc, del])
  | (refine zak ?_; simp [hne, hne2, hmr, Ne.symm hmr, h0, Nat.add_assoc, del])
  | (refine zai ?_; simp [hne, hne2, hmr, Ne.symm hmr, h0, Nat.add_assoc, del])
  | (refine zag ?_; simp [hne, hne2, hmr, Ne.symm hmr, h0, Nat.add_assoc, del])
  | (refine zam ?_; simp [hne, hne2, hmr, Ne.symm hmr, h0, Nat.add_assoc, del])
  | (refine CallP.zh5 (hck _ (by first | omega | (simp; done) | (simp; omega) | fail)) (by first | (simp [hne, hne2, hmr, Ne.symm hmr, h0, Nat.add_assoc, del, zaa, getK, zab, zac, zaj, zat, del]; done) | fail) (by rfl) (by first | assumption | (simp; done) | fail) (by rfl) (by simp) ?_; refine ⟨_, Wk.refl _, ?_⟩; (try simp [hne, hne2, hmr, Ne.symm hmr, h0, Nat.add_assoc, del, zbe, del]))
  | fail)
  (refine hpan _ _ ⟨{ n := _, env := [], obs := [(m, mOb lets r g), (r, tOb T)], next := nx }, (Wk.cut rfl (by simp [hn]) (by simp [wkO, zaa, getK, zab, zac, Ob.under, D.under, zad, zaf, hm, hr, hne, hne2, hmr, Ne.symm hmr, zan, zaw, zab, zac, zaa, getK] <;> (try omega)) (by simp [wkU, zap, zaa, getK, D.under, hm, hr, hne, hne2, hmr, Ne.symm hmr, zan, zaw, zab, zac, zaa, getK] <;> (try omega)) (by simp [wkE, zap, zaa, getK, hm, hr, hne, hne2, hmr, Ne.symm hmr, zan, zaw, zab, zac, zaa, getK] <;> (try omega))), (by simp [hn] <;> (try omega)), ?_⟩; try simp)
 ·simp only [hk0, zco] at hck ⊢
  (refine RetX.of_bodyW Tryd.func46 rfl (by simp) fun Γ hn hpan => ?_); simp only [entry, List.zipIdx_cons, List.zipIdx_nil, List.map_cons, List.map_nil, Nat.zero_add, Tryd.ntmps46]
  repeat' (first
  | (refine zah ?_; simp [hne, hne2, hmr, Ne.symm hmr, h0, Nat.add_assoc, del])
  | (refine zak ?_; simp [hne, hne2, hmr, Ne.symm hmr, h0, Nat.add_assoc, del])
  | (refine zai ?_; simp [hne, hne2, hmr, Ne.symm hmr, h0, Nat.add_assoc, del])
  | (refine zag ?_; simp [hne, hne2, hmr, Ne.symm hmr, h0, Nat.add_assoc, del])
  | (refine zam ?_; simp [hne, hne2, hmr, Ne.symm hmr, h0, Nat.add_assoc, del])
  | (refine zar ?_; simp only [zal])
  | (refine CallP.okL (hck _ (by first | omega | (simp; done) | (simp; omega) | fail)) (by first | (simp [hne, hne2, hmr, Ne.symm hmr, h0, Nat.add_assoc, del, zaa, getK, zab, zac, zaj, zat, del]; done) | fail) (by rfl) (by first | assumption | (simp; done) | fail) (by rfl) (by simp) ?_; (try simp [hne, hne2, hmr, Ne.symm hmr, h0, Nat.add_assoc, del, zbe, del]))
  | fail)
  (refine EndW.here ?_; (first | (refine EndOK.fin (.inr rfl) ?_) | (refine EndOK.fin (.inl rfl) ?_)); simp [zay, zae, Tryd.results46, hm, hr, hne, hne2, hmr, Ne.symm hmr, zan, zaw]; refine FinOK.cut [(m, mOb lets r g), (r, tOb T)] (nx) (by simp [zaa, getK, zab, zac, Ob.under, D.under, zad, zaf, hm, hr, hne, hne2, hmr, Ne.symm hmr, zan, zaw] <;> omega) (by simp [D.under]) (by simp [hn]) ?_; try simp)
theorem zlu {lets : List Let} {r : Nat} {g : GM} {m n : Nat} {e x y : Exp} (hmr : m ≠ r) (h0 : e.op = 10) (he : e.args = [x, y]) (hVx : zdt lets r g m n x) (hTx : TMok lets.length (zbp lets (gF g) n x)) (hVy : zdt lets r g m n y) (hTy : TMok lets.length (zbp lets (gF g) n y)) : zdt lets r g m n e := by
 intro t nx hm hr ht
 have hne := nef hm
 have hne2 := nef hr
 unfold za3
 have hx := zds hVx e 0 (by rw [he]; rfl) hmr nx hm hr t
 have hxok := hTx t ht
 rcases hvx : zbp lets (gF g) n x t with ⟨er | a, t1⟩
 ·obtain ⟨T, rfl⟩ : ∃ T, T = t1 := ⟨_, rfl⟩
  rw [zc5 (by omega) (by omega) he hvx]
  simp only [hvx, zco] at hx ⊢
  (refine RetX.of_bodyW Tryd.func46 rfl (by simp) fun Γ hn hpan => ?_); simp only [entry, List.zipIdx_cons, List.zipIdx_nil, List.map_cons, List.map_nil, Nat.zero_add, Tryd.ntmps46]
  repeat' (first
  | (refine zah ?_; simp [hne, hne2, hmr, Ne.symm hmr, h0, Nat.add_assoc, del])
  | (refine zak ?_; simp [hne, hne2, hmr, Ne.symm hmr, h0, Nat.add_assoc, del])
  | (refine zai ?_; simp [hne, hne2, hmr, Ne.symm hmr, h0, Nat.add_assoc, del])
  | (refine zag ?_; simp [hne, hne2, hmr, Ne.symm hmr, h0, Nat.add_assoc, del])
  | (refine zam ?_; simp [hne, hne2, hmr, Ne.symm hmr, h0, Nat.add_assoc, del])
  | (refine CallP.zh5 (hx _ (by first | omega | (simp; done) | (simp; omega) | fail) ht) (by first | (simp [hne, hne2, hmr, Ne.symm hmr, h0, Nat.add_assoc, del, zaa, getK, zab, zac, zaj, zat, del]; done) | fail) (by rfl) (by first | assumption | (simp; done) | fail) (by rfl) (by simp) ?_; refine ⟨_, Wk.refl _, ?_⟩; (try simp [hne, hne2, hmr, Ne.symm hmr, h0, Nat.add_assoc, del, zbe, del]))
  | fail)
  (refine hpan _ _ ⟨{ n := _, env := [], obs := [(m, mOb lets r g), (r, tOb T)], next := nx }, (Wk.cut rfl (by simp [hn]) (by simp [wkO, zaa, getK, zab, zac, Ob.under, D.under, zad, zaf, hm, hr, hne, hne2, hmr, Ne.symm hmr, zan, zaw, zab, zac, zaa, getK] <;> (try omega)) (by simp [wkU, zap, zaa, getK, D.under, hm, hr, hne, hne2, hmr, Ne.symm hmr, zan, zaw, zab, zac, zaa, getK] <;> (try omega)) (by simp [wkE, zap, zaa, getK, hm, hr, hne, hne2, hmr, Ne.symm hmr, zan, zaw, zab, zac, zaa, getK] <;> (try omega))), (by simp [hn] <;> (try omega)), ?_⟩; try simp)
 ·rw [hvx] at hxok
  simp only [hvx, zco] at hx
  have hxok1 := hxok.1
  simp only at hxok1
  have hy := zds hVy e 1 (by rw [he]; rfl) hmr nx hm hr t1
  have hyok := hTy t1 hxok1
  by_cases ha : a = 0
  ·subst ha
   rw [zib h0 he hvx]
   simp only [zco]
   obtain ⟨T, rfl⟩ : ∃ T, T = t1 := ⟨_, rfl⟩
   have htr := zc7 false
   simp only [zbI, Bool.false_eq_true, if_false] at htr
   (refine RetX.of_bodyW Tryd.func46 rfl (by simp) fun Γ hn hpan => ?_); simp only [entry, List.zipIdx_cons, List.zipIdx_nil, List.map_cons, List.map_nil, Nat.zero_add, Tryd.ntmps46]
   repeat' (first
  | (refine zah ?_; simp [hne, hne2, hmr, Ne.symm hmr, h0, Nat.add_assoc, del])
  | (refine zak ?_; simp [hne, hne2, hmr, Ne.symm hmr, h0, Nat.add_assoc, del])
  | (refine zai ?_; simp [hne, hne2, hmr, Ne.symm hmr, h0, Nat.add_assoc, del])
  | (refine zag ?_; simp [hne, hne2, hmr, Ne.symm hmr, h0, Nat.add_assoc, del])
  | (refine zam ?_; simp [hne, hne2, hmr, Ne.symm hmr, h0, Nat.add_assoc, del])
  | (refine zar ?_; simp only [zal])
  | (refine CallP.fun_ (htr) (by first | rfl | fail) (by first | assumption | (simp; done) | fail) (by first | (simp [hne, hne2, hmr, Ne.symm hmr, h0, Nat.add_assoc, del]; done) | (simp [hne, hne2, hmr, Ne.symm hmr, h0, Nat.add_assoc, del]; rfl) | fail) (by first | (simp; done) | fail) (fun d hd => ?_); subst hd; (try simp [hne, hne2, hmr, Ne.symm hmr, h0, Nat.add_assoc, del]))
  | (refine CallP.okL (hx _ (by first | omega | (simp; done) | (simp; omega) | fail) ht) (by first | (simp [hne, hne2, hmr, Ne.symm hmr, h0, Nat.add_assoc, del, zaa, getK, zab, zac, zaj, zat, del]; done) | fail) (by rfl) (by first | assumption | (simp; done) | fail) (by rfl) (by simp) ?_; (try simp [hne, hne2, hmr, Ne.symm hmr, h0, Nat.add_assoc, del, zbe, del]))
  | fail)
   (refine EndW.here ?_; (first | (refine EndOK.fin (.inr rfl) ?_) | (refine EndOK.fin (.inl rfl) ?_)); simp [zay, zae, Tryd.results46, hm, hr, hne, hne2, hmr, Ne.symm hmr, zan, zaw]; refine FinOK.cut [(m, mOb lets r g), (r, tOb T)] (nx) (by simp [zaa, getK, zab, zac, Ob.under, D.under, zad, zaf, hm, hr, hne, hne2, hmr, Ne.symm hmr, zan, zaw] <;> omega) (by simp [D.under]) (by simp [hn]) ?_; try simp)
  ·skip
   rcases hvy : zbp lets (gF g) n y t1 with ⟨er | b, T⟩
   ·rw [zia h0 he hvx ha hvy]
    simp only [hvy, zco] at hy ⊢
    (refine RetX.of_bodyW Tryd.func46 rfl (by simp) fun Γ hn hpan => ?_); simp only [entry, List.zipIdx_cons, List.zipIdx_nil, List.map_cons, List.map_nil, Nat.zero_add, Tryd.ntmps46]
    repeat' (first
  | (refine zah ?_; simp [hne, hne2, hmr, Ne.symm hmr, h0, Nat.add_assoc, del, ha])
  | (refine zak ?_; simp [hne, hne2, hmr, Ne.symm hmr, h0, Nat.add_assoc, del, ha])
  | (refine zai ?_; simp [hne, hne2, hmr, Ne.symm hmr, h0, Nat.add_assoc, del, ha])
  | (refine zag ?_; simp [hne, hne2, hmr, Ne.symm hmr, h0, Nat.add_assoc, del, ha])
  | (refine zam ?_; simp [hne, hne2, hmr, Ne.symm hmr, h0, Nat.add_assoc, del, ha])
  | (refine CallP.okL (hx _ (by first | omega | (simp; done) | (simp; omega) | fail) ht) (by first | (simp [hne, hne2, hmr, Ne.symm hmr, h0, Nat.add_assoc, del, ha, zaa, getK, zab, zac, zaj, zat, del]; done) | fail) (by rfl) (by first | assumption | (simp; done) | fail) (by rfl) (by simp) ?_; (try simp [hne, hne2, hmr, Ne.symm hmr, h0, Nat.add_assoc, del, ha, zbe, del]))
  | (refine CallP.zh5 (hy _ (by first | omega | (simp; done) | (simp; omega) | fail) hxok1) (by first | (simp [hne, hne2, hmr, Ne.symm hmr, h0, Nat.add_assoc, del, ha, zaa, getK, zab, zac, zaj, zat, del]; done) | fail) (by rfl) (by first | assumption | (simp; done) | fail) (by rfl) (by simp) ?_; refine ⟨_, Wk.refl _, ?_⟩; (try simp [hne, hne2, hmr, Ne.symm hmr, h0, Nat.add_assoc, del, ha, zbe, del]))
  | fail)
    (refine hpan _ _ ⟨{ n := _, env := [], obs := [(m, mOb lets r g), (r, tOb T)], next := nx }, (Wk.cut rfl (by simp [hn]) (by simp [wkO, zaa, getK, zab, zac, Ob.under, D.under, zad, zaf, hm, hr, hne, hne2, hmr, Ne.symm hmr, zan, zaw, zab, zac, zaa, getK] <;> (try omega)) (by simp [wkU, zap, zaa, getK, D.under, hm, hr, hne, hne2, hmr, Ne.symm hmr, zan, zaw, zab, zac, zaa, getK] <;> (try omega)) (by simp [wkE, zap, zaa, getK, hm, hr, hne, hne2, hmr, Ne.symm hmr, zan, zaw, zab, zac, zaa, getK] <;> (try omega))), (by simp [hn] <;> (try omega)), ?_⟩; try simp)
   ·rw [zj3 h0 he hvx ha hvy]
    simp only [hvy, zco] at hy ⊢
    have htr := zc7 (decide (b ≠ 0))
    by_cases hb : b = 0
    ·simp only [hb, ne_eq, not_true_eq_false, decide_false] at htr hy ⊢
     (refine RetX.of_bodyW Tryd.func46 rfl (by simp) fun Γ hn hpan => ?_); simp only [entry, List.zipIdx_cons, List.zipIdx_nil, List.map_cons, List.map_nil, Nat.zero_add, Tryd.ntmps46]
     repeat' (first
  | (refine zah ?_; simp [hne, hne2, hmr, Ne.symm hmr, h0, Nat.add_assoc, del, ha, hb])
  | (refine zak ?_; simp [hne, hne2, hmr, Ne.symm hmr, h0, Nat.add_assoc, del, ha, hb])
  | (refine zai ?_; simp [hne, hne2, hmr, Ne.symm hmr, h0, Nat.add_assoc, del, ha, hb])
  | (refine zag ?_; simp [hne, hne2, hmr, Ne.symm hmr, h0, Nat.add_assoc, del, ha, hb])
  | (refine zam ?_; simp [hne, hne2, hmr, Ne.symm hmr, h0, Nat.add_assoc, del, ha, hb])
  | (refine zar ?_; simp only [zal])
  | (refine CallP.fun_ (htr) (by first | rfl | fail) (by first | assumption | (simp; done) | fail) (by first | (simp [hne, hne2, hmr, Ne.symm hmr, h0, Nat.add_assoc, del, ha, hb]; done) | (simp [hne, hne2, hmr, Ne.symm hmr, h0, Nat.add_assoc, del, ha, hb]; rfl) | fail) (by first | (simp; done) | fail) (fun d hd => ?_); subst hd; (try simp [hne, hne2, hmr, Ne.symm hmr, h0, Nat.add_assoc, del, ha, hb]))
  | (refine CallP.okL (hx _ (by first | omega | (simp; done) | (simp; omega) | fail) ht) (by first | (simp [hne, hne2, hmr, Ne.symm hmr, h0, Nat.add_assoc, del, ha, hb, zaa, getK, zab, zac, zaj, zat, del]; done) | fail) (by rfl) (by first | assumption | (simp; done) | fail) (by rfl) (by simp) ?_; (try simp [hne, hne2, hmr, Ne.symm hmr, h0, Nat.add_assoc, del, ha, hb, zbe, del]))
  | (refine CallP.okL (hy _ (by first | omega | (simp; done) | (simp; omega) | fail) hxok1) (by first | (simp [hne, hne2, hmr, Ne.symm hmr, h0, Nat.add_assoc, del, ha, hb, zaa, getK, zab, zac, zaj, zat, del]; done) | fail) (by rfl) (by first | assumption | (simp; done) | fail) (by rfl) (by simp) ?_; (try simp [hne, hne2, hmr, Ne.symm hmr, h0, Nat.add_assoc, del, ha, hb, zbe, del]))
  | fail)
     (refine EndW.here ?_; (first | (refine EndOK.fin (.inr rfl) ?_) | (refine EndOK.fin (.inl rfl) ?_)); simp [zay, zae, Tryd.results46, hm, hr, hne, hne2, hmr, Ne.symm hmr, zan, zaw]; refine FinOK.cut [(m, mOb lets r g), (r, tOb T)] (nx) (by simp [zaa, getK, zab, zac, Ob.under, D.under, zad, zaf, hm, hr, hne, hne2, hmr, Ne.symm hmr, zan, zaw] <;> omega) (by simp [D.under]) (by simp [hn]) ?_; try simp)
    ·simp only [hb, ne_eq, not_false_eq_true, decide_true] at htr ⊢
     (refine RetX.of_bodyW Tryd.func46 rfl (by simp) fun Γ hn hpan => ?_); simp only [entry, List.zipIdx_cons, List.zipIdx_nil, List.map_cons, List.map_nil, Nat.zero_add, Tryd.ntmps46]
     repeat' (first
  | (refine zah ?_; simp [hne, hne2, hmr, Ne.symm hmr, h0, Nat.add_assoc, del, ha, hb])
  | (refine zak ?_; simp [hne, hne2, hmr, Ne.symm hmr, h0, Nat.add_assoc, del, ha, hb])
  | (refine zai ?_; simp [hne, hne2, hmr, Ne.symm hmr, h0, Nat.add_assoc, del, ha, hb])
  | (refine zag ?_; simp [hne, hne2, hmr, Ne.symm hmr, h0, Nat.add_assoc, del, ha, hb])
  | (refine zam ?_; simp [hne, hne2, hmr, Ne.symm hmr, h0, Nat.add_assoc, del, ha, hb])
  | (refine zar ?_; simp only [zal])
  | (refine CallP.fun_ (htr) (by first | rfl | fail) (by first | assumption | (simp; done) | fail) (by first | (simp [hne, hne2, hmr, Ne.symm hmr, h0, Nat.add_assoc, del, ha, hb]; done) | (simp [hne, hne2, hmr, Ne.symm hmr, h0, Nat.add_assoc, del, ha, hb]; rfl) | fail) (by first | (simp; done) | fail) (fun d hd => ?_); subst hd; (try simp [hne, hne2, hmr, Ne.symm hmr, h0, Nat.add_assoc, del, ha, hb]))
  | (refine CallP.okL (hx _ (by first | omega | (simp; done) | (simp; omega) | fail) ht) (by first | (simp [hne, hne2, hmr, Ne.symm hmr, h0, Nat.add_assoc, del, ha, hb, zaa, getK, zab, zac, zaj, zat, del]; done) | fail) (by rfl) (by first | assumption | (simp; done) | fail) (by rfl) (by simp) ?_; (try simp [hne, hne2, hmr, Ne.symm hmr, h0, Nat.add_assoc, del, ha, hb, zbe, del]))
  | (refine CallP.okL (hy _ (by first | omega | (simp; done) | (simp; omega) | fail) hxok1) (by first | (simp [hne, hne2, hmr, Ne.symm hmr, h0, Nat.add_assoc, del, ha, hb, zaa, getK, zab, zac, zaj, zat, del]; done) | fail) (by rfl) (by first | assumption | (simp; done) | fail) (by rfl) (by simp) ?_; (try simp [hne, hne2, hmr, Ne.symm hmr, h0, Nat.add_assoc, del, ha, hb, zbe, del]))
  | fail)
     (refine EndW.here ?_; (first | (refine EndOK.fin (.inr rfl) ?_) | (refine EndOK.fin (.inl rfl) ?_)); simp [zay, zae, Tryd.results46, hm, hr, hne, hne2, hmr, Ne.symm hmr, zan, zaw]; refine FinOK.cut [(m, mOb lets r g), (r, tOb T)] (nx) (by simp [zaa, getK, zab, zac, Ob.under, D.under, zad, zaf, hm, hr, hne, hne2, hmr, Ne.symm hmr, zan, zaw] <;> omega) (by simp [D.under]) (by simp [hn]) ?_; try simp)
theorem zm0 {lets : List Let} {r : Nat} {g : GM} {m n : Nat} {e x y : Exp} (hmr : m ≠ r) (h0 : e.op = 11) (he : e.args = [x, y]) (hVx : zdt lets r g m n x) (hTx : TMok lets.length (zbp lets (gF g) n x)) (hVy : zdt lets r g m n y) (hTy : TMok lets.length (zbp lets (gF g) n y)) : zdt lets r g m n e := by
 intro t nx hm hr ht
 have hne := nef hm
 have hne2 := nef hr
 unfold za3
 have hx := zds hVx e 0 (by rw [he]; rfl) hmr nx hm hr t
 have hxok := hTx t ht
 rcases hvx : zbp lets (gF g) n x t with ⟨er | a, t1⟩
 ·obtain ⟨T, rfl⟩ : ∃ T, T = t1 := ⟨_, rfl⟩
  rw [zc5 (by omega) (by omega) he hvx]
  simp only [hvx, zco] at hx ⊢
  (refine RetX.of_bodyW Tryd.func46 rfl (by simp) fun Γ hn hpan => ?_); simp only [entry, List.zipIdx_cons, List.zipIdx_nil, List.map_cons, List.map_nil, Nat.zero_add, Tryd.ntmps46]
  repeat' (first
  | (refine zah ?_; simp [hne, hne2, hmr, Ne.symm hmr, h0, Nat.add_assoc, del])
  | (refine zak ?_; simp [hne, hne2, hmr, Ne.symm hmr, h0, Nat.add_assoc, del])
  | (refine zai ?_; simp [hne, hne2, hmr, Ne.symm hmr, h0, Nat.add_assoc, del])
  | (refine zag ?_; simp [hne, hne2, hmr, Ne.symm hmr, h0, Nat.add_assoc, del])
  | (refine zam ?_; simp [hne, hne2, hmr, Ne.symm hmr, h0, Nat.add_assoc, del])
  | (refine CallP.zh5 (hx _ (by first | omega | (simp; done) | (simp; omega) | fail) ht) (by first | (simp [hne, hne2, hmr, Ne.symm hmr, h0, Nat.add_assoc, del, zaa, getK, zab, zac, zaj, zat, del]; done) | fail) (by rfl) (by first | assumption | (simp; done) | fail) (by rfl) (by simp) ?_; refine ⟨_, Wk.refl _, ?_⟩; (try simp [hne, hne2, hmr, Ne.symm hmr, h0, Nat.add_assoc, del, zbe, del]))
  | fail)
  (refine hpan _ _ ⟨{ n := _, env := [], obs := [(m, mOb lets r g), (r, tOb T)], next := nx }, (Wk.cut rfl (by simp [hn]) (by simp [wkO, zaa, getK, zab, zac, Ob.under, D.under, zad, zaf, hm, hr, hne, hne2, hmr, Ne.symm hmr, zan, zaw, zab, zac, zaa, getK] <;> (try omega)) (by simp [wkU, zap, zaa, getK, D.under, hm, hr, hne, hne2, hmr, Ne.symm hmr, zan, zaw, zab, zac, zaa, getK] <;> (try omega)) (by simp [wkE, zap, zaa, getK, hm, hr, hne, hne2, hmr, Ne.symm hmr, zan, zaw, zab, zac, zaa, getK] <;> (try omega))), (by simp [hn] <;> (try omega)), ?_⟩; try simp)
 ·rw [hvx] at hxok
  simp only [hvx, zco] at hx
  have hxok1 := hxok.1
  simp only at hxok1
  have hy := zds hVy e 1 (by rw [he]; rfl) hmr nx hm hr t1
  have hyok := hTy t1 hxok1
  by_cases ha : a = 0
  ·subst ha
   rcases hvy : zbp lets (gF g) n y t1 with ⟨er | b, T⟩
   ·rw [zjW h0 he hvx hvy]
    simp only [hvy, zco] at hy ⊢
    (refine RetX.of_bodyW Tryd.func46 rfl (by simp) fun Γ hn hpan => ?_); simp only [entry, List.zipIdx_cons, List.zipIdx_nil, List.map_cons, List.map_nil, Nat.zero_add, Tryd.ntmps46]
    repeat' (first
  | (refine zah ?_; simp [hne, hne2, hmr, Ne.symm hmr, h0, Nat.add_assoc, del])
  | (refine zak ?_; simp [hne, hne2, hmr, Ne.symm hmr, h0, Nat.add_assoc, del])
  | (refine zai ?_; simp [hne, hne2, hmr, Ne.symm hmr, h0, Nat.add_assoc, del])
  | (refine zag ?_; simp [hne, hne2, hmr, Ne.symm hmr, h0, Nat.add_assoc, del])
  | (refine zam ?_; simp [hne, hne2, hmr, Ne.symm hmr, h0, Nat.add_assoc, del])
  | (refine CallP.okL (hx _ (by first | omega | (simp; done) | (simp; omega) | fail) ht) (by first | (simp [hne, hne2, hmr, Ne.symm hmr, h0, Nat.add_assoc, del, zaa, getK, zab, zac, zaj, zat, del]; done) | fail) (by rfl) (by first | assumption | (simp; done) | fail) (by rfl) (by simp) ?_; (try simp [hne, hne2, hmr, Ne.symm hmr, h0, Nat.add_assoc, del, zbe, del]))
  | (refine CallP.zh5 (hy _ (by first | omega | (simp; done) | (simp; omega) | fail) hxok1) (by first | (simp [hne, hne2, hmr, Ne.symm hmr, h0, Nat.add_assoc, del, zaa, getK, zab, zac, zaj, zat, del]; done) | fail) (by rfl) (by first | assumption | (simp; done) | fail) (by rfl) (by simp) ?_; refine ⟨_, Wk.refl _, ?_⟩; (try simp [hne, hne2, hmr, Ne.symm hmr, h0, Nat.add_assoc, del, zbe, del]))
  | fail)
    (refine hpan _ _ ⟨{ n := _, env := [], obs := [(m, mOb lets r g), (r, tOb T)], next := nx }, (Wk.cut rfl (by simp [hn]) (by simp [wkO, zaa, getK, zab, zac, Ob.under, D.under, zad, zaf, hm, hr, hne, hne2, hmr, Ne.symm hmr, zan, zaw, zab, zac, zaa, getK] <;> (try omega)) (by simp [wkU, zap, zaa, getK, D.under, hm, hr, hne, hne2, hmr, Ne.symm hmr, zan, zaw, zab, zac, zaa, getK] <;> (try omega)) (by simp [wkE, zap, zaa, getK, hm, hr, hne, hne2, hmr, Ne.symm hmr, zan, zaw, zab, zac, zaa, getK] <;> (try omega))), (by simp [hn] <;> (try omega)), ?_⟩; try simp)
   ·rw [zlx h0 he hvx hvy]
    simp only [hvy, zco] at hy ⊢
    have htr := zc7 (decide (b ≠ 0))
    by_cases hb : b = 0
    ·simp only [hb, ne_eq, not_true_eq_false, decide_false] at htr hy ⊢
     (refine RetX.of_bodyW Tryd.func46 rfl (by simp) fun Γ hn hpan => ?_); simp only [entry, List.zipIdx_cons, List.zipIdx_nil, List.map_cons, List.map_nil, Nat.zero_add, Tryd.ntmps46]
     repeat' (first
  | (refine zah ?_; simp [hne, hne2, hmr, Ne.symm hmr, h0, Nat.add_assoc, del, hb])
  | (refine zak ?_; simp [hne, hne2, hmr, Ne.symm hmr, h0, Nat.add_assoc, del, hb])
  | (refine zai ?_; simp [hne, hne2, hmr, Ne.symm hmr, h0, Nat.add_assoc, del, hb])
  | (refine zag ?_; simp [hne, hne2, hmr, Ne.symm hmr, h0, Nat.add_assoc, del, hb])
  | (refine zam ?_; simp [hne, hne2, hmr, Ne.symm hmr, h0, Nat.add_assoc, del, hb])
  | (refine zar ?_; simp only [zal])
  | (refine CallP.fun_ (htr) (by first | rfl | fail) (by first | assumption | (simp; done) | fail) (by first | (simp [hne, hne2, hmr, Ne.symm hmr, h0, Nat.add_assoc, del, hb]; done) | (simp [hne, hne2, hmr, Ne.symm hmr, h0, Nat.add_assoc, del, hb]; rfl) | fail) (by first | (simp; done) | fail) (fun d hd => ?_); subst hd; (try simp [hne, hne2, hmr, Ne.symm hmr, h0, Nat.add_assoc, del, hb]))
  | (refine CallP.okL (hx _ (by first | omega | (simp; done) | (simp; omega) | fail) ht) (by first | (simp [hne, hne2, hmr, Ne.symm hmr, h0, Nat.add_assoc, del, hb, zaa, getK, zab, zac, zaj, zat, del]; done) | fail) (by rfl) (by first | assumption | (simp; done) | fail) (by rfl) (by simp) ?_; (try simp [hne, hne2, hmr, Ne.symm hmr, h0, Nat.add_assoc, del, hb, zbe, del]))
  | (refine CallP.okL (hy _ (by first | omega | (simp; done) | (simp; omega) | fail) hxok1) (by first | (simp [hne, hne2, hmr, Ne.symm hmr, h0, Nat.add_assoc, del, hb, zaa, getK, zab, zac, zaj, zat, del]; done) | fail) (by rfl) (by first | assumption | (simp; done) | fail) (by rfl) (by simp) ?_; (try simp [hne, hne2, hmr, Ne.symm hmr, h0, Nat.add_assoc, del, hb, zbe, del]))
  | fail)
     (refine EndW.here ?_; (first | (refine EndOK.fin (.inr rfl) ?_) | (refine EndOK.fin (.inl rfl) ?_)); simp [zay, zae, Tryd.results46, hm, hr, hne, hne2, hmr, Ne.symm hmr, zan, zaw]; refine FinOK.cut [(m, mOb lets r g), (r, tOb T)] (nx) (by simp [zaa, getK, zab, zac, Ob.under, D.under, zad, zaf, hm, hr, hne, hne2, hmr, Ne.symm hmr, zan, zaw] <;> omega) (by simp [D.under]) (by simp [hn]) ?_; try simp)
    ·simp only [hb, ne_eq, not_false_eq_true, decide_true] at htr ⊢
     (refine RetX.of_bodyW Tryd.func46 rfl (by simp) fun Γ hn hpan => ?_); simp only [entry, List.zipIdx_cons, List.zipIdx_nil, List.map_cons, List.map_nil, Nat.zero_add, Tryd.ntmps46]
     repeat' (first
  | (refine zah ?_; simp [hne, hne2, hmr, Ne.symm hmr, h0, Nat.add_assoc, del, hb])
  | (refine zak ?_; simp [hne, hne2, hmr, Ne.symm hmr, h0, Nat.add_assoc, del, hb])
  | (refine zai ?_; simp [hne, hne2, hmr, Ne.symm hmr, h0, Nat.add_assoc, del, hb])
  | (refine zag ?_; simp [hne, hne2, hmr, Ne.symm hmr, h0, Nat.add_assoc, del, hb])
  | (refine zam ?_; simp [hne, hne2, hmr, Ne.symm hmr, h0, Nat.add_assoc, del, hb])
  | (refine zar ?_; simp only [zal])
  | (refine CallP.fun_ (htr) (by first | rfl | fail) (by first | assumption | (simp; done) | fail) (by first | (simp [hne, hne2, hmr, Ne.symm hmr, h0, Nat.add_assoc, del, hb]; done) | (simp [hne, hne2, hmr, Ne.symm hmr, h0, Nat.add_assoc, del, hb]; rfl) | fail) (by first | (simp; done) | fail) (fun d hd => ?_); subst hd; (try simp [hne, hne2, hmr, Ne.symm hmr, h0, Nat.add_assoc, del, hb]))
  | (refine CallP.okL (hx _ (by first | omega | (simp; done) | (simp; omega) | fail) ht) (by first | (simp [hne, hne2, hmr, Ne.symm hmr, h0, Nat.add_assoc, del, hb, zaa, getK, zab, zac, zaj, zat, del]; done) | fail) (by rfl) (by first | assumption | (simp; done) | fail) (by rfl) (by simp) ?_; (try simp [hne, hne2, hmr, Ne.symm hmr, h0, Nat.add_assoc, del, hb, zbe, del]))
  | (refine CallP.okL (hy _ (by first | omega | (simp; done) | (simp; omega) | fail) hxok1) (by first | (simp [hne, hne2, hmr, Ne.symm hmr, h0, Nat.add_assoc, del, hb, zaa, getK, zab, zac, zaj, zat, del]; done) | fail) (by rfl) (by first | assumption | (simp; done) | fail) (by rfl) (by simp) ?_; (try simp [hne, hne2, hmr, Ne.symm hmr, h0, Nat.add_assoc, del, hb, zbe, del]))
  | fail)
     (refine EndW.here ?_; (first | (refine EndOK.fin (.inr rfl) ?_) | (refine EndOK.fin (.inl rfl) ?_)); simp [zay, zae, Tryd.results46, hm, hr, hne, hne2, hmr, Ne.symm hmr, zan, zaw]; refine FinOK.cut [(m, mOb lets r g), (r, tOb T)] (nx) (by simp [zaa, getK, zab, zac, Ob.under, D.under, zad, zaf, hm, hr, hne, hne2, hmr, Ne.symm hmr, zan, zaw] <;> omega) (by simp [D.under]) (by simp [hn]) ?_; try simp)
  ·skip
   rw [zjX h0 he hvx ha]
   simp only [zco]
   obtain ⟨T, rfl⟩ : ∃ T, T = t1 := ⟨_, rfl⟩
   have htr := zc7 true
   simp only [zbI, if_true] at htr
   (refine RetX.of_bodyW Tryd.func46 rfl (by simp) fun Γ hn hpan => ?_); simp only [entry, List.zipIdx_cons, List.zipIdx_nil, List.map_cons, List.map_nil, Nat.zero_add, Tryd.ntmps46]
   repeat' (first
  | (refine zah ?_; simp [hne, hne2, hmr, Ne.symm hmr, h0, Nat.add_assoc, del, ha])
  | (refine zak ?_; simp [hne, hne2, hmr, Ne.symm hmr, h0, Nat.add_assoc, del, ha])
  | (refine zai ?_; simp [hne, hne2, hmr, Ne.symm hmr, h0, Nat.add_assoc, del, ha])
  | (refine zag ?_; simp [hne, hne2, hmr, Ne.symm hmr, h0, Nat.add_assoc, del, ha])
  | (refine zam ?_; simp [hne, hne2, hmr, Ne.symm hmr, h0, Nat.add_assoc, del, ha])
  | (refine zar ?_; simp only [zal])
  | (refine CallP.fun_ (htr) (by first | rfl | fail) (by first | assumption | (simp; done) | fail) (by first | (simp [hne, hne2, hmr, Ne.symm hmr, h0, Nat.add_assoc, del, ha]; done) | (simp [hne, hne2, hmr, Ne.symm hmr, h0, Nat.add_assoc, del, ha]; rfl) | fail) (by first | (simp; done) | fail) (fun d hd => ?_); subst hd; (try simp [hne, hne2, hmr, Ne.symm hmr, h0, Nat.add_assoc, del, ha]))
  | (refine CallP.okL (hx _ (by first | omega | (simp; done) | (simp; omega) | fail) ht) (by first | (simp [hne, hne2, hmr, Ne.symm hmr, h0, Nat.add_assoc, del, ha, zaa, getK, zab, zac, zaj, zat, del]; done) | fail) (by rfl) (by first | assumption | (simp; done) | fail) (by rfl) (by simp) ?_; (try simp [hne, hne2, hmr, Ne.symm hmr, h0, Nat.add_assoc, del, ha, zbe, del]))
  | fail)
   (refine EndW.here ?_; (first | (refine EndOK.fin (.inr rfl) ?_) | (refine EndOK.fin (.inl rfl) ?_)); simp [zay, zae, Tryd.results46, hm, hr, hne, hne2, hmr, Ne.symm hmr, zan, zaw]; refine FinOK.cut [(m, mOb lets r g), (r, tOb T)] (nx) (by simp [zaa, getK, zab, zac, Ob.under, D.under, zad, zaf, hm, hr, hne, hne2, hmr, Ne.symm hmr, zan, zaw] <;> omega) (by simp [D.under]) (by simp [hn]) ?_; try simp)
theorem zls {lets : List Let} {r : Nat} {g : GM} {m n : Nat} {e x : Exp} (hmr : m ≠ r) (h0 : e.op = 12) (he : e.args = [x]) (hVx : zdt lets r g m n x) (hTx : TMok lets.length (zbp lets (gF g) n x)) : zdt lets r g m n e := by
 intro t nx hm hr ht
 have hne := nef hm
 have hne2 := nef hr
 unfold za3
 have hx := zds hVx e 0 (by rw [he]; rfl) hmr nx hm hr t
 have hxok := hTx t ht
 rcases hvx : zbp lets (gF g) n x t with ⟨er | a, t1⟩
 ·obtain ⟨T, rfl⟩ : ∃ T, T = t1 := ⟨_, rfl⟩
  rw [zc5 (by omega) (by omega) he hvx]
  simp only [hvx, zco] at hx ⊢
  (refine RetX.of_bodyW Tryd.func46 rfl (by simp) fun Γ hn hpan => ?_); simp only [entry, List.zipIdx_cons, List.zipIdx_nil, List.map_cons, List.map_nil, Nat.zero_add, Tryd.ntmps46]
  repeat' (first
  | (refine zah ?_; simp [hne, hne2, hmr, Ne.symm hmr, h0, Nat.add_assoc, del])
  | (refine zak ?_; simp [hne, hne2, hmr, Ne.symm hmr, h0, Nat.add_assoc, del])
  | (refine zai ?_; simp [hne, hne2, hmr, Ne.symm hmr, h0, Nat.add_assoc, del])
  | (refine zag ?_; simp [hne, hne2, hmr, Ne.symm hmr, h0, Nat.add_assoc, del])
  | (refine zam ?_; simp [hne, hne2, hmr, Ne.symm hmr, h0, Nat.add_assoc, del])
  | (refine CallP.zh5 (hx _ (by first | omega | (simp; done) | (simp; omega) | fail) ht) (by first | (simp [hne, hne2, hmr, Ne.symm hmr, h0, Nat.add_assoc, del, zaa, getK, zab, zac, zaj, zat, del]; done) | fail) (by rfl) (by first | assumption | (simp; done) | fail) (by rfl) (by simp) ?_; refine ⟨_, Wk.refl _, ?_⟩; (try simp [hne, hne2, hmr, Ne.symm hmr, h0, Nat.add_assoc, del, zbe, del]))
  | fail)
  (refine hpan _ _ ⟨{ n := _, env := [], obs := [(m, mOb lets r g), (r, tOb T)], next := nx }, (Wk.cut rfl (by simp [hn]) (by simp [wkO, zaa, getK, zab, zac, Ob.under, D.under, zad, zaf, hm, hr, hne, hne2, hmr, Ne.symm hmr, zan, zaw, zab, zac, zaa, getK] <;> (try omega)) (by simp [wkU, zap, zaa, getK, D.under, hm, hr, hne, hne2, hmr, Ne.symm hmr, zan, zaw, zab, zac, zaa, getK] <;> (try omega)) (by simp [wkE, zap, zaa, getK, hm, hr, hne, hne2, hmr, Ne.symm hmr, zan, zaw, zab, zac, zaa, getK] <;> (try omega))), (by simp [hn] <;> (try omega)), ?_⟩; try simp)
 ·obtain ⟨T, rfl⟩ : ∃ T, T = t1 := ⟨_, rfl⟩
  rw [zjZ h0 he hvx]
  simp only [hvx, zco] at hx ⊢
  have htr := zc7 (decide (a = 0))
  by_cases ha : a = 0
  ·simp only [ha, decide_true] at htr hx ⊢
   (refine RetX.of_bodyW Tryd.func46 rfl (by simp) fun Γ hn hpan => ?_); simp only [entry, List.zipIdx_cons, List.zipIdx_nil, List.map_cons, List.map_nil, Nat.zero_add, Tryd.ntmps46]
   repeat' (first
  | (refine zah ?_; simp [hne, hne2, hmr, Ne.symm hmr, h0, Nat.add_assoc, del])
  | (refine zak ?_; simp [hne, hne2, hmr, Ne.symm hmr, h0, Nat.add_assoc, del])
  | (refine zai ?_; simp [hne, hne2, hmr, Ne.symm hmr, h0, Nat.add_assoc, del])
  | (refine zag ?_; simp [hne, hne2, hmr, Ne.symm hmr, h0, Nat.add_assoc, del])
  | (refine zam ?_; simp [hne, hne2, hmr, Ne.symm hmr, h0, Nat.add_assoc, del])
  | (refine zar ?_; simp only [zal])
  | (refine CallP.fun_ (htr) (by first | rfl | fail) (by first | assumption | (simp; done) | fail) (by first | (simp [hne, hne2, hmr, Ne.symm hmr, h0, Nat.add_assoc, del]; done) | (simp [hne, hne2, hmr, Ne.symm hmr, h0, Nat.add_assoc, del]; rfl) | fail) (by first | (simp; done) | fail) (fun d hd => ?_); subst hd; (try simp [hne, hne2, hmr, Ne.symm hmr, h0, Nat.add_assoc, del]))
  | (refine CallP.okL (hx _ (by first | omega | (simp; done) | (simp; omega) | fail) ht) (by first | (simp [hne, hne2, hmr, Ne.symm hmr, h0, Nat.add_assoc, del, zaa, getK, zab, zac, zaj, zat, del]; done) | fail) (by rfl) (by first | assumption | (simp; done) | fail) (by rfl) (by simp) ?_; (try simp [hne, hne2, hmr, Ne.symm hmr, h0, Nat.add_assoc, del, zbe, del]))
  | fail)
   (refine EndW.here ?_; (first | (refine EndOK.fin (.inr rfl) ?_) | (refine EndOK.fin (.inl rfl) ?_)); simp [zay, zae, Tryd.results46, hm, hr, hne, hne2, hmr, Ne.symm hmr, zan, zaw]; refine FinOK.cut [(m, mOb lets r g), (r, tOb T)] (nx) (by simp [zaa, getK, zab, zac, Ob.under, D.under, zad, zaf, hm, hr, hne, hne2, hmr, Ne.symm hmr, zan, zaw] <;> omega) (by simp [D.under]) (by simp [hn]) ?_; try simp)
  ·simp only [ha, decide_false] at htr ⊢
   (refine RetX.of_bodyW Tryd.func46 rfl (by simp) fun Γ hn hpan => ?_); simp only [entry, List.zipIdx_cons, List.zipIdx_nil, List.map_cons, List.map_nil, Nat.zero_add, Tryd.ntmps46]
   repeat' (first
  | (refine zah ?_; simp [hne, hne2, hmr, Ne.symm hmr, h0, Nat.add_assoc, del, ha])
  | (refine zak ?_; simp [hne, hne2, hmr, Ne.symm hmr, h0, Nat.add_assoc, del, ha])
  | (refine zai ?_; simp [hne, hne2, hmr, Ne.symm hmr, h0, Nat.add_assoc, del, ha])
  | (refine zag ?_; simp [hne, hne2, hmr, Ne.symm hmr, h0, Nat.add_assoc, del, ha])
  | (refine zam ?_; simp [hne, hne2, hmr, Ne.symm hmr, h0, Nat.add_assoc, del, ha])
  | (refine zar ?_; simp only [zal])
  | (refine CallP.fun_ (htr) (by first | rfl | fail) (by first | assumption | (simp; done) | fail) (by first | (simp [hne, hne2, hmr, Ne.symm hmr, h0, Nat.add_assoc, del, ha]; done) | (simp [hne, hne2, hmr, Ne.symm hmr, h0, Nat.add_assoc, del, ha]; rfl) | fail) (by first | (simp; done) | fail) (fun d hd => ?_); subst hd; (try simp [hne, hne2, hmr, Ne.symm hmr, h0, Nat.add_assoc, del, ha]))
  | (refine CallP.okL (hx _ (by first | omega | (simp; done) | (simp; omega) | fail) ht) (by first | (simp [hne, hne2, hmr, Ne.symm hmr, h0, Nat.add_assoc, del, ha, zaa, getK, zab, zac, zaj, zat, del]; done) | fail) (by rfl) (by first | assumption | (simp; done) | fail) (by rfl) (by simp) ?_; (try simp [hne, hne2, hmr, Ne.symm hmr, h0, Nat.add_assoc, del, ha, zbe, del]))
  | fail)
   (refine EndW.here ?_; (first | (refine EndOK.fin (.inr rfl) ?_) | (refine EndOK.fin (.inl rfl) ?_)); simp [zay, zae, Tryd.results46, hm, hr, hne, hne2, hmr, Ne.symm hmr, zan, zaw]; refine FinOK.cut [(m, mOb lets r g), (r, tOb T)] (nx) (by simp [zaa, getK, zab, zac, Ob.under, D.under, zad, zaf, hm, hr, hne, hne2, hmr, Ne.symm hmr, zan, zaw] <;> omega) (by simp [D.under]) (by simp [hn]) ?_; try simp)
theorem zm1 {lets : List Let} {r : Nat} {g : GM} {m n : Nat} {e x y z : Exp} (hmr : m ≠ r) (h0 : e.op = 13) (he : e.args = [x, y, z]) (hVx : zdt lets r g m n x) (hTx : TMok lets.length (zbp lets (gF g) n x)) (hVy : zdt lets r g m n y) (hTy : TMok lets.length (zbp lets (gF g) n y)) (hVz : zdt lets r g m n z) (hTz : TMok lets.length (zbp lets (gF g) n z)) : zdt lets r g m n e := by
 intro t nx hm hr ht
 have hne := nef hm
 have hne2 := nef hr
 unfold za3
 have hx := zds hVx e 0 (by rw [he]; rfl) hmr nx hm hr t
 have hxok := hTx t ht
 rcases hvx : zbp lets (gF g) n x t with ⟨er | a, t1⟩
 ·obtain ⟨T, rfl⟩ : ∃ T, T = t1 := ⟨_, rfl⟩
  rw [zc5 (by omega) (by omega) he hvx]
  simp only [hvx, zco] at hx ⊢
  (refine RetX.of_bodyW Tryd.func46 rfl (by simp) fun Γ hn hpan => ?_); simp only [entry, List.zipIdx_cons, List.zipIdx_nil, List.map_cons, List.map_nil, Nat.zero_add, Tryd.ntmps46]
  repeat' (first
  | (refine zah ?_; simp [hne, hne2, hmr, Ne.symm hmr, h0, Nat.add_assoc, del])
  | (refine zak ?_; simp [hne, hne2, hmr, Ne.symm hmr, h0, Nat.add_assoc, del])
  | (refine zai ?_; simp [hne, hne2, hmr, Ne.symm hmr, h0, Nat.add_assoc, del])
  | (refine zag ?_; simp [hne, hne2, hmr, Ne.symm hmr, h0, Nat.add_assoc, del])
  | (refine zam ?_; simp [hne, hne2, hmr, Ne.symm hmr, h0, Nat.add_assoc, del])
  | (refine CallP.zh5 (hx _ (by first | omega | (simp; done) | (simp; omega) | fail) ht) (by first | (simp [hne, hne2, hmr, Ne.symm hmr, h0, Nat.add_assoc, del, zaa, getK, zab, zac, zaj, zat, del]; done) | fail) (by rfl) (by first | assumption | (simp; done) | fail) (by rfl) (by simp) ?_; refine ⟨_, Wk.refl _, ?_⟩; (try simp [hne, hne2, hmr, Ne.symm hmr, h0, Nat.add_assoc, del, zbe, del]))
  | fail)
  (refine hpan _ _ ⟨{ n := _, env := [], obs := [(m, mOb lets r g), (r, tOb T)], next := nx }, (Wk.cut rfl (by simp [hn]) (by simp [wkO, zaa, getK, zab, zac, Ob.under, D.under, zad, zaf, hm, hr, hne, hne2, hmr, Ne.symm hmr, zan, zaw, zab, zac, zaa, getK] <;> (try omega)) (by simp [wkU, zap, zaa, getK, D.under, hm, hr, hne, hne2, hmr, Ne.symm hmr, zan, zaw, zab, zac, zaa, getK] <;> (try omega)) (by simp [wkE, zap, zaa, getK, hm, hr, hne, hne2, hmr, Ne.symm hmr, zan, zaw, zab, zac, zaa, getK] <;> (try omega))), (by simp [hn] <;> (try omega)), ?_⟩; try simp)
 ·rw [hvx] at hxok
  simp only [hvx, zco] at hx
  have hxok1 := hxok.1
  simp only at hxok1
  have hy := zds hVy e 1 (by rw [he]; rfl) hmr nx hm hr t1
  have hyok := hTy t1 hxok1
  have hz := zds hVz e 2 (by rw [he]; rfl) hmr nx hm hr t1
  by_cases ha : a = 0
  ·subst ha
   rw [zj1 h0 he hvx]
   rcases hvz : zbp lets (gF g) n z t1 with ⟨er | b, T⟩
   ·simp only [hvz, zco] at hz ⊢
    (refine RetX.of_bodyW Tryd.func46 rfl (by simp) fun Γ hn hpan => ?_); simp only [entry, List.zipIdx_cons, List.zipIdx_nil, List.map_cons, List.map_nil, Nat.zero_add, Tryd.ntmps46]
    repeat' (first
  | (refine zah ?_; simp [hne, hne2, hmr, Ne.symm hmr, h0, Nat.add_assoc, del])
  | (refine zak ?_; simp [hne, hne2, hmr, Ne.symm hmr, h0, Nat.add_assoc, del])
  | (refine zai ?_; simp [hne, hne2, hmr, Ne.symm hmr, h0, Nat.add_assoc, del])
  | (refine zag ?_; simp [hne, hne2, hmr, Ne.symm hmr, h0, Nat.add_assoc, del])
  | (refine zam ?_; simp [hne, hne2, hmr, Ne.symm hmr, h0, Nat.add_assoc, del])
  | (refine zaq ?_; simp only [zal])
  | (refine CallP.okL (hx _ (by first | omega | (simp; done) | (simp; omega) | fail) ht) (by first | (simp [hne, hne2, hmr, Ne.symm hmr, h0, Nat.add_assoc, del, zaa, getK, zab, zac, zaj, zat, del]; done) | fail) (by rfl) (by first | assumption | (simp; done) | fail) (by rfl) (by simp) ?_; (try simp [hne, hne2, hmr, Ne.symm hmr, h0, Nat.add_assoc, del, zbe, del]))
  | (refine CallP.zh5 (hz _ (by first | omega | (simp; done) | (simp; omega) | fail) hxok1) (by first | (simp [hne, hne2, hmr, Ne.symm hmr, h0, Nat.add_assoc, del, zaa, getK, zab, zac, zaj, zat, del]; done) | fail) (by rfl) (by first | assumption | (simp; done) | fail) (by rfl) (by simp) ?_; refine ⟨_, Wk.refl _, ?_⟩; (try simp [hne, hne2, hmr, Ne.symm hmr, h0, Nat.add_assoc, del, zbe, del]))
  | fail)
    (refine hpan _ _ ⟨{ n := _, env := [], obs := [(m, mOb lets r g), (r, tOb T)], next := nx }, (Wk.cut rfl (by simp [hn]) (by simp [wkO, zaa, getK, zab, zac, Ob.under, D.under, zad, zaf, hm, hr, hne, hne2, hmr, Ne.symm hmr, zan, zaw, zab, zac, zaa, getK] <;> (try omega)) (by simp [wkU, zap, zaa, getK, D.under, hm, hr, hne, hne2, hmr, Ne.symm hmr, zan, zaw, zab, zac, zaa, getK] <;> (try omega)) (by simp [wkE, zap, zaa, getK, hm, hr, hne, hne2, hmr, Ne.symm hmr, zan, zaw, zab, zac, zaa, getK] <;> (try omega))), (by simp [hn] <;> (try omega)), ?_⟩; try simp)
   ·simp only [hvz, zco] at hz ⊢
    (refine RetX.of_bodyW Tryd.func46 rfl (by simp) fun Γ hn hpan => ?_); simp only [entry, List.zipIdx_cons, List.zipIdx_nil, List.map_cons, List.map_nil, Nat.zero_add, Tryd.ntmps46]
    repeat' (first
  | (refine zah ?_; simp [hne, hne2, hmr, Ne.symm hmr, h0, Nat.add_assoc, del])
  | (refine zak ?_; simp [hne, hne2, hmr, Ne.symm hmr, h0, Nat.add_assoc, del])
  | (refine zai ?_; simp [hne, hne2, hmr, Ne.symm hmr, h0, Nat.add_assoc, del])
  | (refine zag ?_; simp [hne, hne2, hmr, Ne.symm hmr, h0, Nat.add_assoc, del])
  | (refine zam ?_; simp [hne, hne2, hmr, Ne.symm hmr, h0, Nat.add_assoc, del])
  | (refine zar ?_; simp only [zal])
  | (refine zaq ?_; simp only [zal])
  | (refine CallP.okL (hx _ (by first | omega | (simp; done) | (simp; omega) | fail) ht) (by first | (simp [hne, hne2, hmr, Ne.symm hmr, h0, Nat.add_assoc, del, zaa, getK, zab, zac, zaj, zat, del]; done) | fail) (by rfl) (by first | assumption | (simp; done) | fail) (by rfl) (by simp) ?_; (try simp [hne, hne2, hmr, Ne.symm hmr, h0, Nat.add_assoc, del, zbe, del]))
  | (refine CallP.okL (hz _ (by first | omega | (simp; done) | (simp; omega) | fail) hxok1) (by first | (simp [hne, hne2, hmr, Ne.symm hmr, h0, Nat.add_assoc, del, zaa, getK, zab, zac, zaj, zat, del]; done) | fail) (by rfl) (by first | assumption | (simp; done) | fail) (by rfl) (by simp) ?_; (try simp [hne, hne2, hmr, Ne.symm hmr, h0, Nat.add_assoc, del, zbe, del]))
  | fail)
    (refine EndW.here ?_; (first | (refine EndOK.fin (.inr rfl) ?_) | (refine EndOK.fin (.inl rfl) ?_)); simp [zay, zae, Tryd.results46, hm, hr, hne, hne2, hmr, Ne.symm hmr, zan, zaw]; refine FinOK.cut [(m, mOb lets r g), (r, tOb T)] (nx) (by simp [zaa, getK, zab, zac, Ob.under, D.under, zad, zaf, hm, hr, hne, hne2, hmr, Ne.symm hmr, zan, zaw] <;> omega) (by simp [D.under]) (by simp [hn]) ?_; try simp)
  ·rw [zj0 h0 he hvx ha]
   rcases hvy : zbp lets (gF g) n y t1 with ⟨er | b, T⟩
   ·simp only [hvy, zco] at hy ⊢
    (refine RetX.of_bodyW Tryd.func46 rfl (by simp) fun Γ hn hpan => ?_); simp only [entry, List.zipIdx_cons, List.zipIdx_nil, List.map_cons, List.map_nil, Nat.zero_add, Tryd.ntmps46]
    repeat' (first
  | (refine zah ?_; simp [hne, hne2, hmr, Ne.symm hmr, h0, Nat.add_assoc, del, ha])
  | (refine zak ?_; simp [hne, hne2, hmr, Ne.symm hmr, h0, Nat.add_assoc, del, ha])
  | (refine zai ?_; simp [hne, hne2, hmr, Ne.symm hmr, h0, Nat.add_assoc, del, ha])
  | (refine zag ?_; simp [hne, hne2, hmr, Ne.symm hmr, h0, Nat.add_assoc, del, ha])
  | (refine zam ?_; simp [hne, hne2, hmr, Ne.symm hmr, h0, Nat.add_assoc, del, ha])
  | (refine CallP.okL (hx _ (by first | omega | (simp; done) | (simp; omega) | fail) ht) (by first | (simp [hne, hne2, hmr, Ne.symm hmr, h0, Nat.add_assoc, del, ha, zaa, getK, zab, zac, zaj, zat, del]; done) | fail) (by rfl) (by first | assumption | (simp; done) | fail) (by rfl) (by simp) ?_; (try simp [hne, hne2, hmr, Ne.symm hmr, h0, Nat.add_assoc, del, ha, zbe, del]))
  | (refine CallP.zh5 (hy _ (by first | omega | (simp; done) | (simp; omega) | fail) hxok1) (by first | (simp [hne, hne2, hmr, Ne.symm hmr, h0, Nat.add_assoc, del, ha, zaa, getK, zab, zac, zaj, zat, del]; done) | fail) (by rfl) (by first | assumption | (simp; done) | fail) (by rfl) (by simp) ?_; refine ⟨_, Wk.refl _, ?_⟩; (try simp [hne, hne2, hmr, Ne.symm hmr, h0, Nat.add_assoc, del, ha, zbe, del]))
  | fail)
    (refine hpan _ _ ⟨{ n := _, env := [], obs := [(m, mOb lets r g), (r, tOb T)], next := nx }, (Wk.cut rfl (by simp [hn]) (by simp [wkO, zaa, getK, zab, zac, Ob.under, D.under, zad, zaf, hm, hr, hne, hne2, hmr, Ne.symm hmr, zan, zaw, zab, zac, zaa, getK] <;> (try omega)) (by simp [wkU, zap, zaa, getK, D.under, hm, hr, hne, hne2, hmr, Ne.symm hmr, zan, zaw, zab, zac, zaa, getK] <;> (try omega)) (by simp [wkE, zap, zaa, getK, hm, hr, hne, hne2, hmr, Ne.symm hmr, zan, zaw, zab, zac, zaa, getK] <;> (try omega))), (by simp [hn] <;> (try omega)), ?_⟩; try simp)
   ·simp only [hvy, zco] at hy ⊢
    (refine RetX.of_bodyW Tryd.func46 rfl (by simp) fun Γ hn hpan => ?_); simp only [entry, List.zipIdx_cons, List.zipIdx_nil, List.map_cons, List.map_nil, Nat.zero_add, Tryd.ntmps46]
    repeat' (first
  | (refine zah ?_; simp [hne, hne2, hmr, Ne.symm hmr, h0, Nat.add_assoc, del, ha])
  | (refine zak ?_; simp [hne, hne2, hmr, Ne.symm hmr, h0, Nat.add_assoc, del, ha])
  | (refine zai ?_; simp [hne, hne2, hmr, Ne.symm hmr, h0, Nat.add_assoc, del, ha])
  | (refine zag ?_; simp [hne, hne2, hmr, Ne.symm hmr, h0, Nat.add_assoc, del, ha])
  | (refine zam ?_; simp [hne, hne2, hmr, Ne.symm hmr, h0, Nat.add_assoc, del, ha])
  | (refine zar ?_; simp only [zal])
  | (refine CallP.okL (hx _ (by first | omega | (simp; done) | (simp; omega) | fail) ht) (by first | (simp [hne, hne2, hmr, Ne.symm hmr, h0, Nat.add_assoc, del, ha, zaa, getK, zab, zac, zaj, zat, del]; done) | fail) (by rfl) (by first | assumption | (simp; done) | fail) (by rfl) (by simp) ?_; (try simp [hne, hne2, hmr, Ne.symm hmr, h0, Nat.add_assoc, del, ha, zbe, del]))
  | (refine CallP.okL (hy _ (by first | omega | (simp; done) | (simp; omega) | fail) hxok1) (by first | (simp [hne, hne2, hmr, Ne.symm hmr, h0, Nat.add_assoc, del, ha, zaa, getK, zab, zac, zaj, zat, del]; done) | fail) (by rfl) (by first | assumption | (simp; done) | fail) (by rfl) (by simp) ?_; (try simp [hne, hne2, hmr, Ne.symm hmr, h0, Nat.add_assoc, del, ha, zbe, del]))
  | fail)
    (refine EndW.here ?_; (first | (refine EndOK.fin (.inr rfl) ?_) | (refine EndOK.fin (.inl rfl) ?_)); simp [zay, zae, Tryd.results46, hm, hr, hne, hne2, hmr, Ne.symm hmr, zan, zaw]; refine FinOK.cut [(m, mOb lets r g), (r, tOb T)] (nx) (by simp [zaa, getK, zab, zac, Ob.under, D.under, zad, zaf, hm, hr, hne, hne2, hmr, Ne.symm hmr, zan, zaw] <;> omega) (by simp [D.under]) (by simp [hn]) ?_; try simp)
theorem zlt {lets : List Let} {r : Nat} {g : GM} {m n : Nat} {e x y : Exp} (hmr : m ≠ r) (hop : 2 ≤ e.op ∧ e.op ≤ 9) (hl : lets.length ≤ 20) (hnl : n ≤ lets.length) (he : e.args = [x, y]) (hVx : zdt lets r g m n x) (hTx : TMok lets.length (zbp lets (gF g) n x)) (hVy : zdt lets r g m n y) (hTy : TMok lets.length (zbp lets (gF g) n y)) : zdt lets r g m n e := by
 intro t nx hm hr ht
 have hne := nef hm
 have hne2 := nef hr
 unfold za3
 have c0 : ¬ e.op = 0 := by omega
 have c1 : ¬ e.op = 1 := by omega
 have c2 : ¬ e.op = 10 := by omega
 have c3 : ¬ e.op = 11 := by omega
 have c4 : ¬ e.op = 12 := by omega
 have c5 : ¬ e.op = 13 := by omega
 have hx := zds hVx e 0 (by rw [he]; rfl) hmr nx hm hr t
 have hxok := hTx t ht
 rcases hvx : zbp lets (gF g) n x t with ⟨er | a, t1⟩
 ·obtain ⟨T, rfl⟩ : ∃ T, T = t1 := ⟨_, rfl⟩
  rw [zc5 (by omega) (by omega) he hvx]
  simp only [hvx, zco] at hx ⊢
  (refine RetX.of_bodyW Tryd.func46 rfl (by simp) fun Γ hn hpan => ?_); simp only [entry, List.zipIdx_cons, List.zipIdx_nil, List.map_cons, List.map_nil, Nat.zero_add, Tryd.ntmps46]
  repeat' (first
  | (refine zfW (fun nx' h' => hx nx' (by simp at h'; omega) ht) (by first | (simp [hne, hne2, hmr, Ne.symm hmr, c0, c1, c2, c3, c4, c5, Nat.add_assoc, del, zaa, getK, zab, zac, zaj, zat, del]; done) | fail) (by rfl) (by first | assumption | (simp; done) | fail) (by rfl) (by simp) ?_ ?_; intro env' n' hn'; refine ⟨_, Wk.refl _, ?_⟩; (try simp [hne, hne2, hmr, Ne.symm hmr, c0, c1, c2, c3, c4, c5, Nat.add_assoc, del, zbe, del]))
  | (refine zje rfl (by simp) ?_; simp)
  | (refine zbo rfl ?_; simp [hne, hne2, hmr, Ne.symm hmr, c0, c1, c2, c3, c4, c5, Nat.add_assoc, del]; (fail_if_success (guard_target =ₛ False)))
  | (refine zah ?_; simp [hne, hne2, hmr, Ne.symm hmr, c0, c1, c2, c3, c4, c5, Nat.add_assoc, del])
  | (refine zak ?_; simp [hne, hne2, hmr, Ne.symm hmr, c0, c1, c2, c3, c4, c5, Nat.add_assoc, del])
  | (refine zai ?_; simp [hne, hne2, hmr, Ne.symm hmr, c0, c1, c2, c3, c4, c5, Nat.add_assoc, del])
  | (refine zag ?_; simp [hne, hne2, hmr, Ne.symm hmr, c0, c1, c2, c3, c4, c5, Nat.add_assoc, del])
  | (refine zdB (hC _ (zbg [m, r] nx (by simp <;> omega) (by simp <;> omega) (by apply Exists.intro; apply And.intro; (focus (repeat' (first | exact KF.nil | exact KL.nil | apply KF.cons | apply KL.cons 0 rfl | apply KL.cons 1 rfl | apply KL.cons 2 rfl | apply KL.cons 3 rfl | apply KL.cons 4 rfl | apply KL.cons 5 rfl | apply KL.cons 6 rfl | apply KL.cons 7 rfl | apply KL.cons 8 rfl | apply KL.cons 9 rfl))); kernel_rfl))) rfl; done)
  | (refine zbm rfl (by kernel_rfl) (by first | (simp [hn]; done) | (simp [hn]; omega) | fail) fun C k hC hk => ?_; simp [hne, hne2, hmr, Ne.symm hmr, c0, c1, c2, c3, c4, c5, Nat.add_assoc, del])
  | (refine zam ?_; simp [hne, hne2, hmr, Ne.symm hmr, c0, c1, c2, c3, c4, c5, Nat.add_assoc, del])
  | (refine zaq ?_; simp only [zal])
  | fail)
  (refine hpan _ _ ⟨{ n := _, env := [], obs := [(m, mOb lets r g), (r, tOb T)], next := nx }, (Wk.cut rfl (by simp [hn]) (by simp [wkO, zaa, getK, zab, zac, Ob.under, D.under, zad, zaf, hm, hr, hne, hne2, hmr, Ne.symm hmr, zan, zaw, zab, zac, zaa, getK] <;> (try omega)) (by simp [wkU, zap, zaa, getK, D.under, hm, hr, hne, hne2, hmr, Ne.symm hmr, zan, zaw, zab, zac, zaa, getK] <;> (try omega)) (by simp [wkE, zap, zaa, getK, hm, hr, hne, hne2, hmr, Ne.symm hmr, zan, zaw, zab, zac, zaa, getK] <;> (try omega))), (by simp [hn] <;> (try omega)), ?_⟩; try simp)
 ·rw [hvx] at hxok
  simp only [hvx, zco] at hx
  have hxok1 := hxok.1
  simp only at hxok1
  have hy := zds hVy e 1 (by rw [he]; rfl) hmr nx hm hr t1
  have hyok := hTy t1 hxok1
  have hx1 := fun nx' h1 h2 h3 => zky (v := a) (t1 := t1) hVx e 0 (by rw [he]; rfl) hmr nx hm hr t nx' h1 h2 h3
  have hy1 := fun v T nx' h1 h2 h3 => zky (v := v) (t1 := T) hVy e 1 (by rw [he]; rfl) hmr nx hm hr t1 nx' h1 h2 h3
  rcases hvy : zbp lets (gF g) n y t1 with ⟨er | b, T⟩
  ·rw [zh9 hop he hvx hvy]
   simp only [hvy, zco] at hy ⊢
   (refine RetX.of_bodyW Tryd.func46 rfl (by simp) fun Γ hn hpan => ?_); simp only [entry, List.zipIdx_cons, List.zipIdx_nil, List.map_cons, List.map_nil, Nat.zero_add, Tryd.ntmps46]
   repeat' (first
  | (refine zgx (fun nx' h' => hx1 nx' (by simp at h'; omega) ht hvx) (by first | (simp [hne, hne2, hmr, Ne.symm hmr, c0, c1, c2, c3, c4, c5, Nat.add_assoc, del, zaa, getK, zab, zac, zaj, zat, del]; done) | fail) (by first | (simp [hne, hne2, hmr, Ne.symm hmr, c0, c1, c2, c3, c4, c5, Nat.add_assoc, del]; done) | fail) (by rfl) (by first | assumption | (simp; done) | fail) (by rfl) (by first | (simp [hne, hne2, hmr, Ne.symm hmr, c0, c1, c2, c3, c4, c5, Nat.add_assoc, del, D.under, Ob.under, zad, zaf]; done) | (simp [hne, hne2, hmr, Ne.symm hmr, c0, c1, c2, c3, c4, c5, Nat.add_assoc, del, D.under, Ob.under, zad, zaf]; omega) | fail) (by simp) ?_; (try simp [hne, hne2, hmr, Ne.symm hmr, c0, c1, c2, c3, c4, c5, Nat.add_assoc, del]))
  | (refine zfW (fun nx' h' => hy nx' (by simp at h'; omega) hxok1) (by first | (simp [hne, hne2, hmr, Ne.symm hmr, c0, c1, c2, c3, c4, c5, Nat.add_assoc, del, zaa, getK, zab, zac, zaj, zat, del]; done) | fail) (by rfl) (by first | assumption | (simp; done) | fail) (by rfl) (by simp) ?_ ?_; intro env' n' hn'; refine ⟨_, Wk.refl _, ?_⟩; (try simp [hne, hne2, hmr, Ne.symm hmr, c0, c1, c2, c3, c4, c5, Nat.add_assoc, del, zbe, del]))
  | (refine zje rfl (by simp) ?_; simp)
  | (refine zbo rfl ?_; simp [hne, hne2, hmr, Ne.symm hmr, c0, c1, c2, c3, c4, c5, Nat.add_assoc, del]; (fail_if_success (guard_target =ₛ False)))
  | (refine zah ?_; simp [hne, hne2, hmr, Ne.symm hmr, c0, c1, c2, c3, c4, c5, Nat.add_assoc, del])
  | (refine zak ?_; simp [hne, hne2, hmr, Ne.symm hmr, c0, c1, c2, c3, c4, c5, Nat.add_assoc, del])
  | (refine zai ?_; simp [hne, hne2, hmr, Ne.symm hmr, c0, c1, c2, c3, c4, c5, Nat.add_assoc, del])
  | (refine zag ?_; simp [hne, hne2, hmr, Ne.symm hmr, c0, c1, c2, c3, c4, c5, Nat.add_assoc, del])
  | (refine zdB (hC _ (zbg [m, r] nx (by simp <;> omega) (by simp <;> omega) (by apply Exists.intro; apply And.intro; (focus (repeat' (first | exact KF.nil | exact KL.nil | apply KF.cons | apply KL.cons 0 rfl | apply KL.cons 1 rfl | apply KL.cons 2 rfl | apply KL.cons 3 rfl | apply KL.cons 4 rfl | apply KL.cons 5 rfl | apply KL.cons 6 rfl | apply KL.cons 7 rfl | apply KL.cons 8 rfl | apply KL.cons 9 rfl))); kernel_rfl))) rfl; done)
  | (refine zbm rfl (by kernel_rfl) (by first | (simp [hn]; done) | (simp [hn]; omega) | fail) fun C k hC hk => ?_; simp [hne, hne2, hmr, Ne.symm hmr, c0, c1, c2, c3, c4, c5, Nat.add_assoc, del])
  | (refine zam ?_; simp [hne, hne2, hmr, Ne.symm hmr, c0, c1, c2, c3, c4, c5, Nat.add_assoc, del])
  | (refine zaq ?_; simp only [zal])
  | fail)
   (refine hpan _ _ ⟨{ n := _, env := [], obs := [(m, mOb lets r g), (r, tOb T)], next := nx }, (Wk.cut rfl (by simp [hn]) (by simp [wkO, zaa, getK, zab, zac, Ob.under, D.under, zad, zaf, hm, hr, hne, hne2, hmr, Ne.symm hmr, zan, zaw, zab, zac, zaa, getK] <;> (try omega)) (by simp [wkU, zap, zaa, getK, D.under, hm, hr, hne, hne2, hmr, Ne.symm hmr, zan, zaw, zab, zac, zaa, getK] <;> (try omega)) (by simp [wkE, zap, zaa, getK, hm, hr, hne, hne2, hmr, Ne.symm hmr, zan, zaw, zab, zac, zaa, getK] <;> (try omega))), (by simp [hn] <;> (try omega)), ?_⟩; try simp)
  ·rw [zj2 hop he hvx hvy]
   rw [hvy] at hyok
   have hb := fun nx' (h : nx ≤ nx') => zlk lets r g m nx' (by omega) (by omega) e x y a b n hnl hl he (hxok.2.1 a rfl) (hyok.2.1 b rfl) hop
   simp only [hvy, zco] at hy ⊢
   unfold za3 at hb
   cases hbx : zd5 e.op (zbC (lets.take n) x || zbC (lets.take n) y) a b with
   | error er =>
    simp only [hbx, zco] at hb ⊢
    (refine RetX.of_bodyW Tryd.func46 rfl (by simp) fun Γ hn hpan => ?_); simp only [entry, List.zipIdx_cons, List.zipIdx_nil, List.map_cons, List.map_nil, Nat.zero_add, Tryd.ntmps46]
    repeat' (first
  | (refine zgx (fun nx' h' => hx1 nx' (by simp at h'; omega) ht hvx) (by first | (simp [hne, hne2, hmr, Ne.symm hmr, c0, c1, c2, c3, c4, c5, Nat.add_assoc, del, zaa, getK, zab, zac, zaj, zat, del]; done) | fail) (by first | (simp [hne, hne2, hmr, Ne.symm hmr, c0, c1, c2, c3, c4, c5, Nat.add_assoc, del]; done) | fail) (by rfl) (by first | assumption | (simp; done) | fail) (by rfl) (by first | (simp [hne, hne2, hmr, Ne.symm hmr, c0, c1, c2, c3, c4, c5, Nat.add_assoc, del, D.under, Ob.under, zad, zaf]; done) | (simp [hne, hne2, hmr, Ne.symm hmr, c0, c1, c2, c3, c4, c5, Nat.add_assoc, del, D.under, Ob.under, zad, zaf]; omega) | fail) (by simp) ?_; (try simp [hne, hne2, hmr, Ne.symm hmr, c0, c1, c2, c3, c4, c5, Nat.add_assoc, del]))
  | (refine zgx (fun nx' h' => hy1 _ _ nx' (by simp at h'; omega) hxok1 hvy) (by first | (simp [hne, hne2, hmr, Ne.symm hmr, c0, c1, c2, c3, c4, c5, Nat.add_assoc, del, zaa, getK, zab, zac, zaj, zat, del]; done) | fail) (by first | (simp [hne, hne2, hmr, Ne.symm hmr, c0, c1, c2, c3, c4, c5, Nat.add_assoc, del]; done) | fail) (by rfl) (by first | assumption | (simp; done) | fail) (by rfl) (by first | (simp [hne, hne2, hmr, Ne.symm hmr, c0, c1, c2, c3, c4, c5, Nat.add_assoc, del, D.under, Ob.under, zad, zaf]; done) | (simp [hne, hne2, hmr, Ne.symm hmr, c0, c1, c2, c3, c4, c5, Nat.add_assoc, del, D.under, Ob.under, zad, zaf]; omega) | fail) (by simp) ?_; (try simp [hne, hne2, hmr, Ne.symm hmr, c0, c1, c2, c3, c4, c5, Nat.add_assoc, del]))
  | (refine zfW (fun nx' h' => hb nx' (by simp at h'; omega)) (by first | (simp [hne, hne2, hmr, Ne.symm hmr, c0, c1, c2, c3, c4, c5, Nat.add_assoc, del, zaa, getK, zab, zac, zaj, zat, del]; done) | fail) (by rfl) (by first | assumption | (simp; done) | fail) (by rfl) (by simp) ?_ ?_; intro env' n' hn'; refine ⟨_, Wk.refl _, ?_⟩; (try simp [hne, hne2, hmr, Ne.symm hmr, c0, c1, c2, c3, c4, c5, Nat.add_assoc, del, zbe, del]))
  | (refine zbo rfl ?_; simp [hne, hne2, hmr, Ne.symm hmr, c0, c1, c2, c3, c4, c5, Nat.add_assoc, del]; (fail_if_success (guard_target =ₛ False)))
  | (refine zah ?_; simp [hne, hne2, hmr, Ne.symm hmr, c0, c1, c2, c3, c4, c5, Nat.add_assoc, del])
  | (refine zak ?_; simp [hne, hne2, hmr, Ne.symm hmr, c0, c1, c2, c3, c4, c5, Nat.add_assoc, del])
  | (refine zai ?_; simp [hne, hne2, hmr, Ne.symm hmr, c0, c1, c2, c3, c4, c5, Nat.add_assoc, del])
  | (refine zag ?_; simp [hne, hne2, hmr, Ne.symm hmr, c0, c1, c2, c3, c4, c5, Nat.add_assoc, del])
  | (refine zdB (hC _ (zbg [m, r] nx (by simp <;> omega) (by simp <;> omega) (by apply Exists.intro; apply And.intro; (focus (repeat' (first | exact KF.nil | exact KL.nil | apply KF.cons | apply KL.cons 0 rfl | apply KL.cons 1 rfl | apply KL.cons 2 rfl | apply KL.cons 3 rfl | apply KL.cons 4 rfl | apply KL.cons 5 rfl | apply KL.cons 6 rfl | apply KL.cons 7 rfl | apply KL.cons 8 rfl | apply KL.cons 9 rfl))); kernel_rfl))) rfl; done)
  | (refine zbm rfl (by kernel_rfl) (by first | (simp [hn]; done) | (simp [hn]; omega) | fail) fun C k hC hk => ?_; simp [hne, hne2, hmr, Ne.symm hmr, c0, c1, c2, c3, c4, c5, Nat.add_assoc, del])
  | (refine zam ?_; simp [hne, hne2, hmr, Ne.symm hmr, c0, c1, c2, c3, c4, c5, Nat.add_assoc, del])
  | (refine zaq ?_; simp only [zal])
  | fail)
    (refine hpan _ _ ⟨{ n := _, env := [], obs := [(m, mOb lets r g), (r, tOb T)], next := nx }, (Wk.cut rfl (by simp [hn]) (by simp [wkO, zaa, getK, zab, zac, Ob.under, D.under, zad, zaf, hm, hr, hne, hne2, hmr, Ne.symm hmr, zan, zaw, zab, zac, zaa, getK] <;> (try omega)) (by simp [wkU, zap, zaa, getK, D.under, hm, hr, hne, hne2, hmr, Ne.symm hmr, zan, zaw, zab, zac, zaa, getK] <;> (try omega)) (by simp [wkE, zap, zaa, getK, hm, hr, hne, hne2, hmr, Ne.symm hmr, zan, zaw, zab, zac, zaa, getK] <;> (try omega))), (by simp [hn] <;> (try omega)), ?_⟩; try simp)
   | ok v =>
    simp only [hbx, zco] at hb ⊢
    (refine RetX.of_bodyW Tryd.func46 rfl (by simp) fun Γ hn hpan => ?_); simp only [entry, List.zipIdx_cons, List.zipIdx_nil, List.map_cons, List.map_nil, Nat.zero_add, Tryd.ntmps46]
    repeat' (first
  | (refine zgx (fun nx' h' => hx1 nx' (by simp at h'; omega) ht hvx) (by first | (simp [hne, hne2, hmr, Ne.symm hmr, c0, c1, c2, c3, c4, c5, Nat.add_assoc, del, zaa, getK, zab, zac, zaj, zat, del]; done) | fail) (by first | (simp [hne, hne2, hmr, Ne.symm hmr, c0, c1, c2, c3, c4, c5, Nat.add_assoc, del]; done) | fail) (by rfl) (by first | assumption | (simp; done) | fail) (by rfl) (by first | (simp [hne, hne2, hmr, Ne.symm hmr, c0, c1, c2, c3, c4, c5, Nat.add_assoc, del, D.under, Ob.under, zad, zaf]; done) | (simp [hne, hne2, hmr, Ne.symm hmr, c0, c1, c2, c3, c4, c5, Nat.add_assoc, del, D.under, Ob.under, zad, zaf]; omega) | fail) (by simp) ?_; (try simp [hne, hne2, hmr, Ne.symm hmr, c0, c1, c2, c3, c4, c5, Nat.add_assoc, del]))
  | (refine zgx (fun nx' h' => hy1 _ _ nx' (by simp at h'; omega) hxok1 hvy) (by first | (simp [hne, hne2, hmr, Ne.symm hmr, c0, c1, c2, c3, c4, c5, Nat.add_assoc, del, zaa, getK, zab, zac, zaj, zat, del]; done) | fail) (by first | (simp [hne, hne2, hmr, Ne.symm hmr, c0, c1, c2, c3, c4, c5, Nat.add_assoc, del]; done) | fail) (by rfl) (by first | assumption | (simp; done) | fail) (by rfl) (by first | (simp [hne, hne2, hmr, Ne.symm hmr, c0, c1, c2, c3, c4, c5, Nat.add_assoc, del, D.under, Ob.under, zad, zaf]; done) | (simp [hne, hne2, hmr, Ne.symm hmr, c0, c1, c2, c3, c4, c5, Nat.add_assoc, del, D.under, Ob.under, zad, zaf]; omega) | fail) (by simp) ?_; (try simp [hne, hne2, hmr, Ne.symm hmr, c0, c1, c2, c3, c4, c5, Nat.add_assoc, del]))
  | (refine zmU (fun nx' h' => hb nx' (by simp at h'; omega)) (by first | (simp [hne, hne2, hmr, Ne.symm hmr, c0, c1, c2, c3, c4, c5, Nat.add_assoc, del, zaa, getK, zab, zac, zaj, zat, del]; done) | fail) rfl (by first | (simp [hne, hne2, hmr, Ne.symm hmr, c0, c1, c2, c3, c4, c5, Nat.add_assoc, del]; done) | fail) (by rfl) (by first | assumption | (simp; done) | fail) (by rfl) (by first | (simp [hne, hne2, hmr, Ne.symm hmr, c0, c1, c2, c3, c4, c5, Nat.add_assoc, del, D.under, Ob.under, zad, zaf]; done) | (simp [hne, hne2, hmr, Ne.symm hmr, c0, c1, c2, c3, c4, c5, Nat.add_assoc, del, D.under, Ob.under, zad, zaf]; omega) | fail) (by simp) ?_; (try simp [hne, hne2, hmr, Ne.symm hmr, c0, c1, c2, c3, c4, c5, Nat.add_assoc, del]))
  | (refine zah ?_; simp [hne, hne2, hmr, Ne.symm hmr, c0, c1, c2, c3, c4, c5, Nat.add_assoc, del])
  | (refine zbo rfl ?_; simp [hne, hne2, hmr, Ne.symm hmr, c0, c1, c2, c3, c4, c5, Nat.add_assoc, del])
  | (refine zak ?_; simp [hne, hne2, hmr, Ne.symm hmr, c0, c1, c2, c3, c4, c5, Nat.add_assoc, del])
  | (refine zai ?_; simp [hne, hne2, hmr, Ne.symm hmr, c0, c1, c2, c3, c4, c5, Nat.add_assoc, del])
  | (refine zag ?_; simp [hne, hne2, hmr, Ne.symm hmr, c0, c1, c2, c3, c4, c5, Nat.add_assoc, del])
  | (refine zb1 (hC _ (zbg [m, r] nx (by simp <;> omega) (by simp <;> omega) (by apply Exists.intro; apply And.intro; (focus (repeat' (first | exact KF.nil | exact KL.nil | apply KF.cons | apply KL.cons 0 rfl | apply KL.cons 1 rfl | apply KL.cons 2 rfl | apply KL.cons 3 rfl | apply KL.cons 4 rfl | apply KL.cons 5 rfl | apply KL.cons 6 rfl | apply KL.cons 7 rfl | apply KL.cons 8 rfl | apply KL.cons 9 rfl))); kernel_rfl))) (hk _ ?_); clear hC hk C k; simp only [zal])
  | (refine zbm rfl (by kernel_rfl) (by first | (simp [hn]; done) | (simp [hn]; omega) | fail) fun C k hC hk => ?_; simp [hne, hne2, hmr, Ne.symm hmr, c0, c1, c2, c3, c4, c5, Nat.add_assoc, del])
  | (refine zam ?_; simp [hne, hne2, hmr, Ne.symm hmr, c0, c1, c2, c3, c4, c5, Nat.add_assoc, del])
  | (refine zar ?_; simp only [zal])
  | (refine zaq ?_; simp only [zal])
  | fail)
    (refine EndW.here ?_; (first | (refine EndOK.fin (.inr rfl) ?_) | (refine EndOK.fin (.inl rfl) ?_)); simp [zay, zae, Tryd.results46, hm, hr, hne, hne2, hmr, Ne.symm hmr, zan, zaw]; refine FinOK.cut [(m, mOb lets r g), (r, tOb T)] (nx) (by simp [zaa, getK, zab, zac, Ob.under, D.under, zad, zaf, hm, hr, hne, hne2, hmr, Ne.symm hmr, zan, zaw] <;> omega) (by simp [D.under]) (by simp [hn]) ?_; try simp)
end Go.Proofs.YtfcopibncpkdoaaDoor
namespace Go.Proofs.YtfcopibncpkdoaaDoor
open Go Go.VL
theorem zoa {e : Exp} {d : Nat} (h : zax (d + 1) e = true) (ho : zaE e.op = 1) : ∃ x, e.args = [x] := by
 obtain ⟨h1, _⟩ := zcc h
 exact List.length_eq_one_iff.1 (by omega)
theorem zhh {e : Exp} {d : Nat} (h : zax (d + 1) e = true) (ho : zaE e.op = 2) : ∃ x y, e.args = [x, y] := by
 obtain ⟨h1, _⟩ := zcc h
 match hl : e.args, h1 with
 | [a, b], _ => exact ⟨a, b, rfl⟩
 | [], h => simp at h; omega
 | [a], h => simp at h; omega
 | a :: b :: c :: l, h => simp at h; omega
theorem zn9 {e : Exp} {d : Nat} (h : zax (d + 1) e = true) (ho : zaE e.op = 3) : ∃ x y z, e.args = [x, y, z] := by
 obtain ⟨h1, _⟩ := zcc h
 match hl : e.args, h1 with
 | [a, b, c], _ => exact ⟨a, b, c, rfl⟩
 | [], h => simp at h; omega
 | [a], h => simp at h; omega
 | [a, b], h => simp at h; omega
 | a :: b :: c :: d :: l, h => simp at h; omega
theorem zh7 {lets : List Let} {r : Nat} {g : GM} {m n : Nat} (hgs : ∀ s v, gF g s = some v → inC v) (hrb : ∀ l ∈ lets, zax 12 l.body = true) (hl : lets.length ≤ 20) (hmr : m ≠ r) (hnl : n ≤ lets.length) (hN : zod lets r g m n) : ∀ (d : Nat) (e : Exp), zax d e = true → zdt lets r g m n e
 | 0, e, h => by simp [zax] at h
 | d + 1, e, h => by
  obtain ⟨h1, h2, h3, h4⟩ := zcc h
  by_cases c0 : e.op = 0
  ·exact zlr hmr c0
  by_cases c1 : e.op = 1
  ·exact zkG hmr c1 hN
  have hV : ∀ x ∈ e.args, zdt lets r g m n x := fun x hx => zh7 hgs hrb hl hmr hnl hN d x (h4 c0 c1 x hx)
  have hT : ∀ x ∈ e.args, TMok lets.length (zbp lets (gF g) n x) := fun x hx => zhq hrb hgs n d x (h4 c0 c1 x hx)
  by_cases c2 : e.op = 10
  ·obtain ⟨x, y, he⟩ := zhh h (by rw [c2]; rfl)
   rw [he] at hV hT
   exact zlu hmr c2 he (hV x (by simp)) (hT x (by simp)) (hV y (by simp)) (hT y (by simp))
  by_cases c3 : e.op = 11
  ·obtain ⟨x, y, he⟩ := zhh h (by rw [c3]; rfl)
   rw [he] at hV hT
   exact zm0 hmr c3 he (hV x (by simp)) (hT x (by simp)) (hV y (by simp)) (hT y (by simp))
  by_cases c4 : e.op = 12
  ·obtain ⟨x, he⟩ := zoa h (by rw [c4]; rfl)
   rw [he] at hV hT
   exact zls hmr c4 he (hV x (by simp)) (hT x (by simp))
  by_cases c5 : e.op = 13
  ·obtain ⟨x, y, z, he⟩ := zn9 h (by rw [c5]; rfl)
   rw [he] at hV hT
   exact zm1 hmr c5 he (hV x (by simp)) (hT x (by simp)) (hV y (by simp)) (hT y (by simp)) (hV z (by simp)) (hT z (by simp))
  obtain ⟨x, y, he⟩ := zhh h (by unfold zaE; split <;> first | omega | (split <;> first | omega | (split <;> first | omega | (split <;> omega))))
  rw [he] at hV hT
  exact zlt hmr (by omega) hl hnl he (hV x (by simp)) (hT x (by simp)) (hV y (by simp)) (hT y (by simp))
theorem znz {lets : List Let} {r : Nat} {g : GM} {m : Nat} (hgs : ∀ s v, gF g s = some v → inC v) (hrb : ∀ l ∈ lets, zax 12 l.body = true) (hl : lets.length ≤ 20) (hmr : m ≠ r) :
  ∀ n, n ≤ lets.length → ∀ (d : Nat) (e : Exp), zax d e = true → zdt lets r g m n e := by
 intro n
 induction n using Nat.strongRecOn with
 | _ n ih =>
  intro hnl
  refine zh7 hgs hrb hl hmr hnl fun s t nx hm hr ht => ?_
  exact znk hgs hrb (fun i l hi hx => zlA (ih i hi (by omega) 12 l.body (hrb l (List.mem_of_getElem? hx))) hmr) s hnl hl hmr t nx hm hr ht
/-- The given values, the first of each name. -/
def gV (vars : List Var) : GM := vars.foldl (fun g v => if asc g v.name = none then zdb g v.name v.n else g) []
theorem zoF {vars : List Var} {i : Nat} {v : Var} (h : vars[i]? = some v) : gV (vars.take (i + 1)) = if asc (gV (vars.take i)) v.name = none then zdb (gV (vars.take i)) v.name v.n else gV (vars.take i) := zer _ _ h
def zla (v : Var) : Bool := decide (v.n ≤ 1099511627776) && decide (-1099511627776 ≤ v.n)
theorem zoG : ∀ (vars : List Var) (g : GM), (∀ s v, asc g s = some v → inC v) → (∀ v ∈ vars, zla v = true) → ∀ s v, asc (vars.foldl (fun g v => if asc g v.name = none then zdb g v.name v.n else g) g) s = some v → inC v
 | [], g, hg, _, s, v, h => hg s v h
 | x :: l, g, hg, hv, s, v, h => by
  refine zoG l _ ?_ (fun y hy => hv y (by simp [hy])) s v h
  intro s' v' h'
  simp only at h'
  split at h'
  ·rw [zgt] at h'
   split at h'
   ·cases h'
    have := hv x (by simp)
    simp only [zla, Bool.and_eq_true, decide_eq_true_eq] at this
    exact ⟨this.2, this.1⟩
   ·exact hg s' v' h'
  ·exact hg s' v' h'
def zhx (lets : List Let) : Tab := List.replicate lets.length (0, 0, false)
/-- What Value returns. -/
def zdG (lets : List Let) (vars : List Var) (e : Exp) : Int × Int :=
 if zbL lets e = true ∧ vars.all zla = true then ((zcT (zbp lets (gF (gV vars)) lets.length e (zhx lets)).1).1, (zcT (zbp lets (gF (gV vars)) lets.length e (zhx lets)).1).2.1) else (0, 1)
attribute [local simp] HS zcp zbN evPure opd uOf zaB St.put St.at getK binD binI binS binB nilD aggD zeJ ze8 lookD lookR zbT Go.VL.nextD zbY zfe zfd zev zbM mkV zaW zaP zaO zaN zcm zaM za1 zbc mapEff zcS zek Key.kk shiftI arith unD convD zcP loadD cellsAt fieldAddrD fieldD indexAddrD indexD sliceD cutD lenD minmaxD nilCheckD buildD fillD zbt zcq zdR setAll zcg zdy zbQ zeN zbO St.add zaC zbj rowsOf zcM zce zaj zac zaa za5 zcl zaH entry za4 za6 valD zbS zb7 zez zct zcu zbx zbs zav zaT za7 delAll effD St.effS zb9 zaQ zaI zca zaR zaK zby zaJ zaD zbz zb8 zbb zbw zaZ zbu zbv zat mkD zbk zbd zbB zav zbP D.ids Op.operands Call.operands za8 makeIfD typeAssertD ze6 zcH zcI zeR zbV IntKind.bits zch List.take_of_length_le List.range_succ
attribute [local irreducible] V G H HD HD2 HD4 zhn RetX zal Eff CallP CallV EndOK Fun Ret FinOK LoopI LoopW EndW
theorem zeP (lets : List Let) (vars : List Var) (e : Exp) : Fun Tryd.prog 13 [.u (zaw lets), .u (zcF vars), za3 e] (· = .tup [.u (.int .i64 (zdG lets vars e).1), .u (.int .i64 (zdG lets vars e).2)]) := by
 have h1 := zc9 e
 generalize hK : zdG lets vars e = K
 unfold zdG zbL at hK
 by_cases hre : zax 12 e = true
 case neg =>
  have hre2 : zax 12 e = false := by simpa using hre
  rw [if_neg (by simp [hre2])] at hK
  subst hK
  rw [hre2] at h1
  simp only [zaw, zcF, za3] at h1 ⊢
  (refine Fun.of_bodyW Tryd.func13 rfl (by simp) fun Γ hn => ?_); simp only [entry, List.zipIdx_cons, List.zipIdx_nil, List.map_cons, List.map_nil, Nat.zero_add, Tryd.ntmps13]
  repeat' (first
  | (refine zah ?_; simp)
  | (refine zak ?_; simp)
  | (refine zai ?_; simp)
  | (refine zag ?_; simp)
  | (refine zar ?_; simp only [zal])
  | (refine CallP.fun_ (h1) (by first | rfl | fail) (by first | assumption | (simp; done) | fail) (by first | (simp; done) | (simp; rfl) | fail) (by first | (simp; done) | fail) (fun d hd => ?_); subst hd; (try simp))
  | fail)
  refine EndW.here ?_
  (refine EndOK.val (.inr rfl) ?_; simp [zay, zae, zau, Tryd.results13])
 by_cases hll : lets.length ≤ 20
 case neg =>
  have hll2 : 20 < (lets.length : Int) := by omega
  rw [if_neg (by simp [hll])] at hK
  subst hK
  rw [hre] at h1
  simp only [zaw, zcF, za3] at h1 ⊢
  (refine Fun.of_bodyW Tryd.func13 rfl (by simp) fun Γ hn => ?_); simp only [entry, List.zipIdx_cons, List.zipIdx_nil, List.map_cons, List.map_nil, Nat.zero_add, Tryd.ntmps13]
  refine zfJ (x := 0) rfl fun hl0 => ?_
  simp only [List.length_map] at hl0
  repeat' (first
  | (refine zah ?_; simp [hll2])
  | (refine zak ?_; simp [hll2])
  | (refine zai ?_; simp [hll2])
  | (refine zag ?_; simp [hll2])
  | (refine zar ?_; simp only [zal])
  | (refine CallP.fun_ (h1) (by first | rfl | fail) (by first | assumption | (simp; done) | fail) (by first | (simp [hll2]; done) | (simp [hll2]; rfl) | fail) (by first | (simp; done) | fail) (fun d hd => ?_); subst hd; (try simp [hll2]))
  | fail)
  refine EndW.here ?_
  (refine EndOK.val (.inr rfl) ?_; simp [zay, zae, zau, Tryd.results13])
 have hll2 : ¬ 20 < (lets.length : Int) := by omega
 rw [hre] at h1
 simp only [zaw, zcF, za3] at h1 ⊢
 (refine Fun.of_bodyW Tryd.func13 rfl (by simp) fun Γ hn => ?_); simp only [entry, List.zipIdx_cons, List.zipIdx_nil, List.map_cons, List.map_nil, Nat.zero_add, Tryd.ntmps13]
 refine zfJ (x := 1) rfl fun hl1 => ?_
 simp only [List.length_map] at hl1
 repeat' (first
  | (refine zah ?_; simp [hll2])
  | (refine zak ?_; simp [hll2])
  | (refine zai ?_; simp [hll2])
  | (refine zag ?_; simp [hll2])
  | (refine zam ?_; simp [hll2])
  | (refine zaq ?_; simp only [zal])
  | (refine CallP.fun_ (h1) (by first | rfl | fail) (by first | assumption | (simp; done) | fail) (by first | (simp [hll2]; done) | (simp [hll2]; rfl) | fail) (by first | (simp; done) | fail) (fun d hd => ?_); subst hd; (try simp [hll2]))
  | fail)
 refine zcR (α := { i : Nat // i ≤ lets.length ∧ ∀ l ∈ lets.take i, zax 12 l.body = true }) [0, 1, 5, 23, 24] (fun i => [(25, .u (.int .i64 i.1))])
  (fun i => [(0, .box [.u (.int .i64 e.op), .u (.int .i64 e.n), .u (.int .i64 e.unit), .u (.str e.s), .u (.sl (e.args.map Exp.row))])]) 1
  (fun i => lets.length - i.1) ⟨0, by omega, by simp⟩ ?_ ?_
 ·exact (Wk.cut rfl (by simp [hn, St.lp]) (by simp [wkO, St.lp, zaa, getK, Ob.under, D.under, zad, zaf, Ob.under]) (by simp [wkU, St.lp, zap, zaa, getK, D.under, Ob.under]) (by simp [wkE, St.lp, zap, zaa, getK, Ob.under] <;> (try (intros; simp_all; done)) <;> (try (intros; omega)) <;> (try grind)))
 rintro ⟨i, hi, hb⟩
 simp [St.lp, St.only, zap, zaa, getK]
 rcases hx : lets[i]? with _ | l
 ·have hge : lets.length ≤ i := by simpa using hx
  obtain rfl : i = lets.length := by omega
  rw [List.take_length] at hb
  repeat' (first
  | (refine zah ?_; simp [hx])
  | (refine zak ?_; simp [hx])
  | (refine ⟨by omega, ?_⟩)
  | (refine zai ?_; simp [hx])
  | (refine zam ?_; simp [hx])
  | (refine zba ?_; simp [zal])
  | fail)
  have hrg : zbL lets e = true := by
   simp only [zbL, Bool.and_eq_true, decide_eq_true_eq, Bool.not_eq_true', List.any_eq_false]
   exact ⟨⟨hll, hre⟩, fun l hl => by simp [hb l hl]⟩
  refine zcR (α := { i : Nat // i ≤ vars.length ∧ ∀ v ∈ vars.take i, zla v = true }) [0, 5, 10, 41, 42] (fun i => [(43, .u (.int .i64 i.1))])
   (fun i => [(3, .box [.u (.sl (lets.map fun l => [.str l.name, .int .i64 l.body.op, .int .i64 l.body.n, .int .i64 l.body.unit, .str l.body.s, .sl (l.body.args.map Exp.row)])), .vec 1 lets.length, .mp 2]), (2, .map .s false (zhe (zjF (gV (vars.take i.1))))),
     (1, .vec 153 3 (List.replicate lets.length [.u (.int .i64 0), .u (.int .i64 0), .u (.bool false)])), (0, .box [.u (.int .i64 e.op), .u (.int .i64 e.n), .u (.int .i64 e.unit), .u (.str e.s), .u (.sl (e.args.map Exp.row))])]) 4
   (fun i => vars.length - i.1) ⟨0, by omega, by simp⟩ ?_ ?_
  ·exact (Wk.cut rfl (by simp [hn, St.lp]) (by simp [wkO, St.lp, zaa, getK, Ob.under, D.under, zad, zaf, gV, zjF, zaW, Ob.under]) (by simp [wkU, St.lp, zap, zaa, getK, D.under, gV, zjF, zaW, Ob.under]) (by simp [wkE, St.lp, zap, zaa, getK, gV, zjF, zaW, Ob.under] <;> (try (intros; simp_all; done)) <;> (try (intros; omega)) <;> (try grind)))
  rintro ⟨j, hj, hvb⟩
  simp [St.lp, St.only, zap, zaa, getK]
  rcases hy : vars[j]? with _ | v
  ·have hge : vars.length ≤ j := by simpa using hy
   obtain rfl : j = vars.length := by omega
   rw [List.take_length] at hvb
   have hva : vars.all zla = true := by simpa [List.all_eq_true] using hvb
   have hgs : ∀ s v, gF (gV vars) s = some v → inC v := zoG vars [] (fun s v h => by simp [asc] at h) hvb
   rw [if_pos ⟨hrg, hva⟩] at hK
   have htry := fun nx' (h : 4 ≤ nx') => zlA (znz (r := 1) (m := 3) hgs hb hll (by decide) lets.length (Nat.le_refl _) 12 e hre) (by decide) (zhx lets) nx' (by omega) (by omega) ⟨by simp [zhx], fun i v er d hi => by
    have h7 : (v, er, d) = (0, 0, false) := List.eq_of_mem_replicate (List.mem_of_getElem? hi)
    cases h7
    unfold inC; omega⟩
   have htb : tOb (zhx lets) = .vec 153 3 (List.replicate lets.length [.u (.int .i64 0), .u (.int .i64 0), .u (.bool false)]) := by simp [tOb, zhx]
   rw [htb] at htry
   simp only [za3, mOb, zaw] at htry
   subst hK
   repeat' (first
  | (refine zah ?_; simp [hy, List.take_length])
  | (refine zak ?_; simp [hy, List.take_length])
  | (refine zai ?_; simp [hy, List.take_length])
  | (refine zba ?_; simp [zal])
  | fail)
   refine zkE (Wk.zrd (us := zjF (gV vars)) 2 [3, 2, 1, 0] rfl (by simp)) ?_
   simp [zaV, zaU, St.frzS, frzS, fv, zbH, zbJ, zbK, zaY, zaF, zaA, del]
   repeat' (first
  | (refine zah ?_; simp [hy])
  | (refine zak ?_; simp [hy])
  | (refine zar ?_; simp only [zal])
  | (refine CallP.okL (htry _ (by first | omega | (simp; done) | (simp; omega) | fail)) (by first | (simp [hy, zaa, getK, zab, zac, zaj, zat, del]; done) | fail) (by rfl) (by first | assumption | (simp; done) | fail) (by rfl) (by simp) ?_; (try simp [hy, zbe, del]))
  | fail)
   refine EndW.here ?_
   (refine EndOK.val (.inr rfl) ?_; simp [zay, zae, zau, Tryd.results13])
  ·have hlt : j < vars.length := (List.getElem?_eq_some_iff.1 hy).1
   have hg := zkf (gV (vars.take j)) v.name
   have hsu := zoF hy
   by_cases hv : zla v = true
   ·have hv1 := hv
    simp only [zla, Bool.and_eq_true, decide_eq_true_eq] at hv1
    have hv2 : ¬ 1099511627776 < v.n := by omega
    have hv3 : ¬ v.n < -1099511627776 := by omega
    cases hga : asc (gV (vars.take j)) v.name with
    | some u =>
     rw [hga] at hg hsu
     simp only [Option.map_some] at hg
     repeat' (first
  | (refine zah ?_; simp [hy, hg, hv2, hv3])
  | (refine zbo rfl ?_; simp [hy, hg, hv2, hv3])
  | (refine zak ?_; simp [hy, hg, hv2, hv3])
  | (refine ⟨by omega, ?_⟩)
  | (refine zai ?_; simp [hy, hg, hv2, hv3])
  | (refine zag ?_; simp [hy, hg, hv2, hv3])
  | (refine zb1 (hC _ (by kernel_rfl)) (hk _ ?_); clear hC hk C k; simp only [zal])
  | (refine zbm rfl (by kernel_rfl) (by first | (simp [hn]; done) | (simp [hn]; omega) | fail) fun C k hC hk => ?_; simp [hy, hg, hv2, hv3])
  | (refine zas ?_; simp [hy, hg, hv2, hv3])
  | (refine zaq ?_; simp only [zal])
  | (refine ⟨?_, by omega⟩)
  | (intro hc <;> (try (exfalso; omega)))
  | fail)
     refine LoopW.next ⟨j + 1, by omega, zaG hy hvb hv⟩ (by simp; omega) ?_
     exact (Wk.cut rfl (by simp [hn, St.lp]) (by simp [wkO, St.lp, zaa, getK, Ob.under, D.under, zad, zaf, hsu]) (by simp [wkU, St.lp, zap, zaa, getK, D.under, hsu]) (by simp [wkE, St.lp, zap, zaa, getK, hsu] <;> (try (intros; simp_all; done)) <;> (try (intros; omega)) <;> (try grind)))
    | none =>
     rw [hga] at hg hsu
     simp only [Option.map_none] at hg
     repeat' (first
  | (refine zah ?_; simp [hy, hg, zd8, hv2, hv3])
  | (refine zbo rfl ?_; simp [hy, hg, zd8, hv2, hv3])
  | (refine zd7 rfl ?_; simp [hy, hg, zd8, hv2, hv3])
  | (refine zak ?_; simp [hy, hg, zd8, hv2, hv3])
  | (refine ⟨by omega, ?_⟩)
  | (refine zai ?_; simp [hy, hg, zd8, hv2, hv3])
  | (refine zag ?_; simp [hy, hg, zd8, hv2, hv3])
  | (refine zb1 (hC _ (by kernel_rfl)) (hk _ ?_); clear hC hk C k; simp only [zal])
  | (refine zbm rfl (by kernel_rfl) (by first | (simp [hn]; done) | (simp [hn]; omega) | fail) fun C k hC hk => ?_; simp [hy, hg, zd8, hv2, hv3])
  | (refine zas ?_; simp [hy, hg, zd8, hv2, hv3])
  | (refine zaq ?_; simp only [zal])
  | (refine ⟨?_, by omega⟩)
  | (intro hc <;> (try (exfalso; omega)))
  | fail)
     refine LoopW.next ⟨j + 1, by omega, zaG hy hvb hv⟩ (by simp; omega) ?_
     exact (Wk.cut rfl (by simp [hn, St.lp]) (by simp [wkO, St.lp, zaa, getK, Ob.under, D.under, zad, zaf, hsu]) (by simp [wkU, St.lp, zap, zaa, getK, D.under, hsu]) (by simp [wkE, St.lp, zap, zaa, getK, hsu] <;> (try (intros; simp_all; done)) <;> (try (intros; omega)) <;> (try grind)))
   ·have hv1 : 1099511627776 < v.n ∨ v.n < -1099511627776 := by
     simp only [zla, Bool.and_eq_true, decide_eq_true_eq] at hv
     omega
    rw [if_neg (by
     rintro ⟨_, h⟩
     rw [List.all_eq_true] at h
     exact hv (h v (List.mem_of_getElem? hy)))] at hK
    subst hK
    by_cases hv2 : 1099511627776 < v.n
    ·repeat' (first
  | (refine zah ?_; simp [hy, hv2])
  | (refine zak ?_; simp [hy, hv2])
  | (refine zai ?_; simp [hy, hv2])
  | (refine zag ?_; simp [hy, hv2])
  | (refine zar ?_; simp only [zal])
  | (refine zaq ?_; simp only [zal])
  | (refine ⟨?_, by omega⟩)
  | (intro hc <;> (try (exfalso; omega)))
  | fail)
     refine EndW.here ?_
     (refine EndOK.val (.inr rfl) ?_; simp [zay, zae, zau, Tryd.results13])
    ·have hv3 : v.n < -1099511627776 := by omega
     repeat' (first
  | (refine zah ?_; simp [hy, hv2, hv3])
  | (refine zak ?_; simp [hy, hv2, hv3])
  | (refine zai ?_; simp [hy, hv2, hv3])
  | (refine zag ?_; simp [hy, hv2, hv3])
  | (refine zar ?_; simp only [zal])
  | (refine zaq ?_; simp only [zal])
  | (refine ⟨?_, by omega⟩)
  | (intro hc <;> (try (exfalso; omega)))
  | fail)
     refine EndW.here ?_
     (refine EndOK.val (.inr rfl) ?_; simp [zay, zae, zau, Tryd.results13])
 ·have hlt : i < lets.length := (List.getElem?_eq_some_iff.1 hx).1
  have h2 := zc9 l.body
  simp only [za3] at h2
  by_cases hlb : zax 12 l.body = true
  ·rw [hlb] at h2
   repeat' (first
  | (refine zah ?_; simp [hx])
  | (refine zak ?_; simp [hx])
  | (refine ⟨by omega, ?_⟩)
  | (refine zai ?_; simp [hx])
  | (refine zag ?_; simp [hx])
  | (refine zas ?_; simp [hx])
  | (refine zaq ?_; simp only [zal])
  | (refine ⟨?_, by omega⟩)
  | (intro hc <;> (try (exfalso; omega)))
  | (refine CallP.fun_ (h2) (by first | rfl | fail) (by first | assumption | (simp; done) | fail) (by first | (simp [hx]; done) | (simp [hx]; rfl) | fail) (by first | (simp; done) | fail) (fun d hd => ?_); subst hd; (try simp [hx]))
  | fail)
   refine LoopW.next ⟨i + 1, by omega, zaG hx hb hlb⟩ (by simp; omega) ?_
   exact (Wk.cut rfl (by simp [hn, St.lp]) (by simp [wkO, St.lp, zaa, getK, Ob.under, D.under, zad, zaf, Ob.under]) (by simp [wkU, St.lp, zap, zaa, getK, D.under, Ob.under]) (by simp [wkE, St.lp, zap, zaa, getK, Ob.under] <;> (try (intros; simp_all; done)) <;> (try (intros; omega)) <;> (try grind)))
  ·have hlb2 : zax 12 l.body = false := by simpa using hlb
   rw [hlb2] at h2
   rw [if_neg (by
    rintro ⟨h, _⟩
    simp only [Bool.and_eq_true, Bool.not_eq_true', List.any_eq_false] at h
    have := h.2 l (List.mem_of_getElem? hx)
    simp [hlb2] at this)] at hK
   subst hK
   repeat' (first
  | (refine zah ?_; simp [hx])
  | (refine zak ?_; simp [hx])
  | (refine zai ?_; simp [hx])
  | (refine zag ?_; simp [hx])
  | (refine zar ?_; simp only [zal])
  | (refine zaq ?_; simp only [zal])
  | (refine ⟨?_, by omega⟩)
  | (intro hc <;> (try (exfalso; omega)))
  | (refine CallP.fun_ (h2) (by first | rfl | fail) (by first | assumption | (simp; done) | fail) (by first | (simp [hx]; done) | (simp [hx]; rfl) | fail) (by first | (simp; done) | fail) (fun d hd => ?_); subst hd; (try simp [hx]))
  | fail)
   refine EndW.here ?_
   (refine EndOK.val (.inr rfl) ?_; simp [zay, zae, zau, Tryd.results13])
end Go.Proofs.YtfcopibncpkdoaaDoor
namespace Go.Proofs.YtfcopibncpkdoaaDoor
open Go Go.VL
structure Tok where
 kind : Int
 text : List UInt8
 n : Int
 pos : Int
 deriving DecidableEq, Inhabited
def Tok.row (t : Tok) : List U := [.int .i64 t.kind, .str t.text, .int .i64 t.n, .int .i64 t.pos]
def zcQ (c : UInt8) : Bool := decide (c.toNat = 32) || decide (c.toNat = 9) || decide (c.toNat = 10)
def zcZ (c : UInt8) : Bool := zb4 c || za9 c
def zbi (s : List UInt8) : Int := s.foldl (fun n c => 10 * n + ((c.toNat : Int) - 48)) 0
def zgb (s : List UInt8) : Option Int :=
 if s = [] ∨ zcs za9 s ≠ s.length ∨ (s.head? = some 48 ∧ s ≠ [48]) ∨ 13 < s.length then none else if 1099511627776 < zbi s then none else some (zbi s)
theorem zeh (s : List UInt8) (c : UInt8) : zbi (s ++ [c]) = 10 * zbi s + ((c.toNat : Int) - 48) := by simp [zbi]
theorem ze3 : ∀ (n : Nat) (s : List UInt8), s.length = n → (∀ c ∈ s, za9 c = true) → 0 ≤ zbi s ∧ zbi s < 10 ^ n
 | 0, s, h, _ => by have := List.eq_nil_of_length_eq_zero h; subst this; simp [zbi]
 | n + 1, s, h, hd => by
  have hne : s ≠ [] := fun e => by rw [e] at h; simp at h
  obtain ⟨t, c, rfl⟩ : ∃ t c, s = t ++ [c] := ⟨s.dropLast, s.getLast hne, (List.dropLast_concat_getLast hne).symm⟩
  have h1 := ze3 n t (by simpa using h) (fun x hx => hd x (by simp [hx]))
  have h2 := hd c (by simp)
  simp only [za9, Bool.and_eq_true, decide_eq_true_eq] at h2
  rw [zeh]
  have : (10 : Int) ^ (n + 1) = 10 * 10 ^ n := by rw [Int.pow_succ]; omega
  omega
attribute [local simp] zcp zbN evPure opd uOf zaB St.put St.at getK binD binI binS binB nilD aggD zeJ ze8 lookD lookR zbT Go.VL.nextD zbY zfe zfd zev zbM mkV zaW zaP zaO zaN zcm zaM za1 zbc mapEff zcS zek Key.kk shiftI arith unD convD zcP loadD cellsAt fieldAddrD fieldD indexAddrD indexD sliceD cutD lenD minmaxD nilCheckD buildD fillD zbt zcq zdR setAll zcg zdy zbQ zeN zbO St.add zaC zbj rowsOf zcM zce zaj zac zaa za5 zcl zaH entry za4 za6 valD zbS zb7 zez zct zcu zbx zbs zav zaT za7 delAll effD St.effS zb9 zaQ zaI zca zaR zaK zby zaJ zaD zbz zb8 zbb zbw zaZ zbu zbv zat mkD zbk zbd zbB zav zbP D.ids Op.operands Call.operands za8 makeIfD typeAssertD ze6 zcH zcI zeR zbV IntKind.bits zch List.take_of_length_le List.range_succ
attribute [local irreducible] V G H HD HD2 zal Eff CallP CallV EndOK Fun Ret FinOK LoopI LoopW EndW
theorem zmH (c : UInt8) : Fun Tryd.prog 94 [.u (.int .u8 c.toNat)] (· = .u (.bool (zcQ c))) := by
 unfold zcQ
 (refine Fun.of_body Tryd.func94 rfl (by simp) fun Γ hn => ?_); simp only [entry, List.zipIdx_cons, List.zipIdx_nil, List.map_cons, List.map_nil, Nat.zero_add, Tryd.ntmps94]
 repeat' (first
  | (refine zah ?_; simp)
  | (refine zak ?_; simp)
  | (refine zai ?_; simp)
  | (refine zar ?_; simp only [zal])
  | (refine ⟨fun hc => ?_, fun hc => ?_⟩ <;> (try (exfalso; omega)))
  | fail)
 all_goals
  (refine EndOK.val (.inr rfl) ?_; simp [zay, zae, zau, Tryd.results94])
 all_goals first | omega | (rw [Bool.eq_iff_iff]; simp; omega) | (simp; omega)
theorem zl1 (c : UInt8) : Fun Tryd.prog 112 [.u (.int .u8 c.toNat)] (· = .u (.bool (zcZ c))) := by
 unfold zcZ
 (refine Fun.of_body Tryd.func112 rfl (by simp) fun Γ hn => ?_); simp only [entry, List.zipIdx_cons, List.zipIdx_nil, List.map_cons, List.map_nil, Nat.zero_add, Tryd.ntmps112]
 repeat' (first
  | (refine zah ?_; simp)
  | (refine zak ?_; simp)
  | (refine zai ?_; simp)
  | (refine zar ?_; simp only [zal])
  | (refine ⟨fun hc => ?_, fun hc => ?_⟩ <;> (try (exfalso; omega)))
  | (refine CallP.fun_ (zdN c) (by first | rfl | fail) (by first | assumption | (simp; done) | fail) (by first | (simp; done) | (simp; rfl) | fail) (by first | (simp; done) | fail) (fun d hd => ?_); subst hd; (try simp))
  | (refine CallP.fun_ (zei c) (by first | rfl | fail) (by first | assumption | (simp; done) | fail) (by first | (simp; done) | (simp; rfl) | fail) (by first | (simp; done) | fail) (fun d hd => ?_); subst hd; (try simp))
  | fail)
 all_goals
  (refine EndOK.val (.inr rfl) ?_; simp [zay, zae, zau, Tryd.results112])
 all_goals simp_all
theorem zdv (p : UInt8 → Bool) (l : List UInt8) : zcs p l ≤ l.length := by
 unfold zcs
 exact (List.takeWhile_sublist p).length_le
theorem zlE {p : UInt8 → Bool} {l : List UInt8} (h : zcs p l = l.length) : ∀ c ∈ l, p c = true := by
 have : l.takeWhile p = l := (List.takeWhile_sublist p).eq_of_length h
 intro c hc
 rw [← this] at hc
 exact List.all_eq_true.1 (List.all_takeWhile (l := l) (p := p)) c hc
theorem zkT (s : List UInt8) (hl : s.length ≤ 1000000) : Fun Tryd.prog 113 [.u (.str s)] (· = .tup [.u (.int .i64 ((zgb s).getD 0)), .u (.bool (zgb s).isSome)]) := by
 have hsp := zeV s hl 104 za9 (fun c _ => zei c) (by simp)
 unfold zgb
 cases s with
 | nil =>
  (refine Fun.of_body Tryd.func113 rfl (by simp) fun Γ hn => ?_); simp only [entry, List.zipIdx_cons, List.zipIdx_nil, List.map_cons, List.map_nil, Nat.zero_add, Tryd.ntmps113]
  repeat' (first
  | (refine zah ?_; simp)
  | (refine zak ?_; simp)
  | (refine zai ?_; simp)
  | (refine zag ?_; simp)
  | (refine zar ?_; simp only [zal])
  | fail)
  all_goals
   (refine EndOK.val (.inr rfl) ?_; simp [zay, zae, zau, Tryd.results113])
 | cons c s =>
  by_cases h1 : zcs za9 (c :: s) = (c :: s).length
  case neg =>
   rw [if_pos (.inr (.inl h1))]
   have h1' : ¬ (zcs za9 (c :: s) : Int) = s.length + 1 := by simp at h1; omega
   (refine Fun.of_body Tryd.func113 rfl (by simp) fun Γ hn => ?_); simp only [entry, List.zipIdx_cons, List.zipIdx_nil, List.map_cons, List.map_nil, Nat.zero_add, Tryd.ntmps113]
   repeat' (first
  | (refine zah ?_; simp [h1'])
  | (refine zak ?_; simp [h1'])
  | (refine zai ?_; simp [h1'])
  | (refine zag ?_; simp [h1'])
  | (refine zar ?_; simp only [zal])
  | (refine CallP.fun_ (hsp) (by first | rfl | fail) (by first | assumption | (simp; done) | fail) (by first | (simp [h1']; done) | (simp [h1']; rfl) | fail) (by first | (simp; done) | fail) (fun d hd => ?_); subst hd; (try simp [h1']))
  | fail)
   all_goals
    (refine EndOK.val (.inr rfl) ?_; simp [zay, zae, zau, Tryd.results113])
  have h1' : (zcs za9 (c :: s) : Int) = s.length + 1 := by simp at h1; omega
  by_cases h2 : c.toNat = 48 ∧ s ≠ []
  ·rw [if_pos (.inr (.inr (.inl ⟨by have := h2.1; simp; exact UInt8.toNat_inj.1 this, by simp; intro _; exact h2.2⟩)))]
   have h2b := h2.1
   have h2a := h2.2
   (refine Fun.of_body Tryd.func113 rfl (by simp) fun Γ hn => ?_); simp only [entry, List.zipIdx_cons, List.zipIdx_nil, List.map_cons, List.map_nil, Nat.zero_add, Tryd.ntmps113]
   repeat' (first
  | (refine zah ?_; simp [h1', h2a, h2b])
  | (refine zak ?_; simp [h1', h2a, h2b])
  | (refine zai ?_; simp [h1', h2a, h2b])
  | (refine zag ?_; simp [h1', h2a, h2b])
  | (refine zar ?_; simp only [zal])
  | (refine CallP.fun_ (hsp) (by first | rfl | fail) (by first | assumption | (simp; done) | fail) (by first | (simp [h1', h2a, h2b]; done) | (simp [h1', h2a, h2b]; rfl) | fail) (by first | (simp; done) | fail) (fun d hd => ?_); subst hd; (try simp [h1', h2a, h2b]))
  | fail)
   all_goals
    (refine EndOK.val (.inr rfl) ?_; simp [zay, zae, zau, Tryd.results113])
  have h2' : c.toNat = 48 → s = [] := fun h => by
   by_cases hs : s = []
   ·exact hs
   ·exact absurd ⟨h, hs⟩ h2
  by_cases h3 : 13 < (c :: s).length
  ·rw [if_pos (.inr (.inr (.inr h3)))]
   have h3' : 13 < (s.length : Int) + 1 := by simp at h3; omega
   have hne : s ≠ [] := fun e => by rw [e] at h3; simp at h3
   have h2'' : ¬ c.toNat = 48 := fun h => hne (h2' h)
   (refine Fun.of_body Tryd.func113 rfl (by simp) fun Γ hn => ?_); simp only [entry, List.zipIdx_cons, List.zipIdx_nil, List.map_cons, List.map_nil, Nat.zero_add, Tryd.ntmps113]
   repeat' (first
  | (refine zah ?_; simp [h1', h2'', h3'])
  | (refine zak ?_; simp [h1', h2'', h3'])
  | (refine ⟨by omega, ?_⟩)
  | (refine zai ?_; simp [h1', h2'', h3'])
  | (refine zag ?_; simp [h1', h2'', h3'])
  | (refine zar ?_; simp only [zal])
  | (intro hc <;> (try (exfalso; omega)))
  | (refine CallP.fun_ (hsp) (by first | rfl | fail) (by first | assumption | (simp; done) | fail) (by first | (simp [h1', h2'', h3']; done) | (simp [h1', h2'', h3']; rfl) | fail) (by first | (simp; done) | fail) (fun d hd => ?_); subst hd; (try simp [h1', h2'', h3']))
  | fail)
   all_goals
    (refine EndOK.val (.inr rfl) ?_; simp [zay, zae, zau, Tryd.results113])
  have hall := zlE h1
  rw [if_neg (by
   simp only [not_or]
   refine ⟨by simp, fun h => h h1, fun h => ?_, h3⟩
   have hc48 : c = 48 := by have := h.1; simpa using this
   have := h2' (by rw [hc48]; rfl)
   rw [this, hc48] at h
   exact h.2 rfl)]
  have h3' : ¬ 13 < (s.length : Int) + 1 := by simp at h3; omega
  have hval : ∀ k, k ≤ (c :: s).length → 0 ≤ zbi ((c :: s).take k) ∧ zbi ((c :: s).take k) < 10 ^ 13 := fun k hk => by
   have h4 := ze3 k ((c :: s).take k) (by simp; simp at hk; omega) (fun x hx => hall x (List.mem_of_mem_take hx))
   have : (10 : Int) ^ k ≤ 10 ^ 13 := by
    have := Nat.pow_le_pow_right (n := 10) (by omega) (show k ≤ 13 by simp at h3 hk; omega)
    exact_mod_cast this
   omega
  have hloop : ∀ (hw : c.toNat = 48 → s = []), Fun Tryd.prog 113 [.u (.str (c :: s))] (· = .tup [.u (.int .i64 ((if 1099511627776 < zbi (c :: s) then none else some (zbi (c :: s)) : Option Int).getD 0)), .u (.bool (if 1099511627776 < zbi (c :: s) then none else some (zbi (c :: s)) : Option Int).isSome)]) := fun hw => by
   by_cases h48 : c.toNat = 48
   ·have h48' : (c.toNat : Int) = 48 := by omega
    have hc48 : (c = 48) = True := eq_true (UInt8.toNat_inj.1 h48)
    have hs0 : (s = []) = True := eq_true (hw h48)
    (refine Fun.of_body Tryd.func113 rfl (by simp) fun Γ hn => ?_); simp only [entry, List.zipIdx_cons, List.zipIdx_nil, List.map_cons, List.map_nil, Nat.zero_add, Tryd.ntmps113]
    repeat' (first
  | (refine zah ?_; simp [h1', h3', h48', hc48, hs0])
  | (refine zak ?_; simp [h1', h3', h48', hc48, hs0])
  | (refine zai ?_; simp [h1', h3', h48', hc48, hs0])
  | (refine zag ?_; simp [h1', h3', h48', hc48, hs0])
  | (refine zam ?_; simp [h1', h3', h48', hc48, hs0])
  | (refine zaq ?_; simp only [zal])
  | (refine CallP.fun_ (hsp) (by first | rfl | fail) (by first | assumption | (simp; done) | fail) (by first | (simp [h1', h3', h48', hc48, hs0]; done) | (simp [h1', h3', h48', hc48, hs0]; rfl) | fail) (by first | (simp; done) | fail) (fun d hd => ?_); subst hd; (try simp [h1', h3', h48', hc48, hs0]))
  | fail)
    refine zbG (α := { i : Nat // i ≤ (c :: s).length }) [0, 30] (fun i => [(4, .u (.int .i64 (zbi ((c :: s).take i.1)))), (31, .u (.int .i64 i.1))]) (fun i => (c :: s).length - i.1) ⟨0, by omega⟩ ?_ ?_
    ·exact (Wk.cut rfl (by simp [hn, St.lp]) (by simp [wkO, St.lp, zaa, getK, Ob.under, D.under, zad, zaf, zbi]) (by simp [wkU, St.lp, zap, zaa, getK, D.under, zbi]) (by simp [wkE, St.lp, zap, zaa, getK, zbi] <;> (try (intros; simp_all; done)) <;> (try (intros; omega)) <;> (try grind)))
    rintro ⟨i, hi⟩
    simp [St.lp, St.only, zap, zaa, getK]
    rcases hx : (c :: s)[i]? with _ | a
    ·have hge : (c :: s).length ≤ i := by simpa using hx
     obtain rfl : i = (c :: s).length := by omega
     rw [List.take_length]
     have hge2 : ¬ ((c :: s).length : Int) < s.length + 1 := by simp
     by_cases hb : 1099511627776 < zbi (c :: s)
     ·repeat' (first
  | (refine zah ?_; simp [hb, hge2])
  | (refine zak ?_; simp [hb, hge2])
  | (refine zai ?_; simp [hb, hge2])
  | (refine zag ?_; simp [hb, hge2])
  | (refine zar ?_; simp only [zal])
  | (refine zba ?_; simp [zal])
  | fail)
      (refine EndOK.val (.inr rfl) ?_; simp [zay, zae, zau, Tryd.results113])
      try simp [hb]
     ·repeat' (first
  | (refine zah ?_; simp [hb, hge2])
  | (refine zak ?_; simp [hb, hge2])
  | (refine zai ?_; simp [hb, hge2])
  | (refine zag ?_; simp [hb, hge2])
  | (refine zar ?_; simp only [zal])
  | (refine zaq ?_; simp only [zal])
  | (refine zba ?_; simp [zal])
  | fail)
      (refine EndOK.val (.inr rfl) ?_; simp [zay, zae, zau, Tryd.results113])
      try simp [hb]
    ·have hlt : i < (c :: s).length := (List.getElem?_eq_some_iff.1 hx).1
     have hlt2 : (i : Int) < s.length + 1 := by simp at hlt; omega
     have hd := hall a (List.mem_of_getElem? hx)
     simp only [za9, Bool.and_eq_true, decide_eq_true_eq] at hd
     have hv := hval i hi
     have hv2 := hval (i + 1) hlt
     have hsn : zbi ((c :: s).take (i + 1)) = 10 * zbi ((c :: s).take i) + ((a.toNat : Int) - 48) := by
      rw [List.take_succ, hx]; exact zeh _ _
     generalize zbi ((c :: s).take i) = dv at hv hsn
     have hsn2 := hsn.symm
     repeat' (first
  | (refine zah ?_; simp [hx, hlt2, hsn2])
  | (refine zak ?_; simp [hx, hlt2, hsn2])
  | (refine ⟨by omega, ?_⟩)
  | (refine zai ?_; simp [hx, hlt2, hsn2])
  | (refine zas ?_; simp [hx, hlt2, hsn2])
  | (refine zaq ?_; simp only [zal])
  | fail)
     refine LoopW.next ⟨i + 1, hlt⟩ (by simp at hlt; simp; omega) ?_
     exact (Wk.cut rfl (by simp [hn, St.lp]) (by simp [wkO, St.lp, zaa, getK, Ob.under, D.under, zad, zaf, hsn]) (by simp [wkU, St.lp, zap, zaa, getK, D.under, hsn]) (by simp [wkE, St.lp, zap, zaa, getK, hsn] <;> (try (intros; simp_all; done)) <;> (try (intros; omega)) <;> (try grind)))
   ·(refine Fun.of_body Tryd.func113 rfl (by simp) fun Γ hn => ?_); simp only [entry, List.zipIdx_cons, List.zipIdx_nil, List.map_cons, List.map_nil, Nat.zero_add, Tryd.ntmps113]
    repeat' (first
  | (refine zah ?_; simp [h1', h3', h48])
  | (refine zak ?_; simp [h1', h3', h48])
  | (refine ⟨by omega, ?_⟩)
  | (refine zai ?_; simp [h1', h3', h48])
  | (refine zag ?_; simp [h1', h3', h48])
  | (refine zam ?_; simp [h1', h3', h48])
  | (refine zaq ?_; simp only [zal])
  | (intro hc <;> (try (exfalso; omega)))
  | (refine CallP.fun_ (hsp) (by first | rfl | fail) (by first | assumption | (simp; done) | fail) (by first | (simp [h1', h3', h48]; done) | (simp [h1', h3', h48]; rfl) | fail) (by first | (simp; done) | fail) (fun d hd => ?_); subst hd; (try simp [h1', h3', h48]))
  | fail)
    refine zbG (α := { i : Nat // i ≤ (c :: s).length }) [0, 30] (fun i => [(4, .u (.int .i64 (zbi ((c :: s).take i.1)))), (31, .u (.int .i64 i.1))]) (fun i => (c :: s).length - i.1) ⟨0, by omega⟩ ?_ ?_
    ·exact (Wk.cut rfl (by simp [hn, St.lp]) (by simp [wkO, St.lp, zaa, getK, Ob.under, D.under, zad, zaf, zbi]) (by simp [wkU, St.lp, zap, zaa, getK, D.under, zbi]) (by simp [wkE, St.lp, zap, zaa, getK, zbi] <;> (try (intros; simp_all; done)) <;> (try (intros; omega)) <;> (try grind)))
    rintro ⟨i, hi⟩
    simp [St.lp, St.only, zap, zaa, getK]
    rcases hx : (c :: s)[i]? with _ | a
    ·have hge : (c :: s).length ≤ i := by simpa using hx
     obtain rfl : i = (c :: s).length := by omega
     rw [List.take_length]
     have hge2 : ¬ ((c :: s).length : Int) < s.length + 1 := by simp
     by_cases hb : 1099511627776 < zbi (c :: s)
     ·repeat' (first
  | (refine zah ?_; simp [hb, hge2])
  | (refine zak ?_; simp [hb, hge2])
  | (refine zai ?_; simp [hb, hge2])
  | (refine zag ?_; simp [hb, hge2])
  | (refine zar ?_; simp only [zal])
  | (refine zba ?_; simp [zal])
  | fail)
      (refine EndOK.val (.inr rfl) ?_; simp [zay, zae, zau, Tryd.results113])
      try simp [hb]
     ·repeat' (first
  | (refine zah ?_; simp [hb, hge2])
  | (refine zak ?_; simp [hb, hge2])
  | (refine zai ?_; simp [hb, hge2])
  | (refine zag ?_; simp [hb, hge2])
  | (refine zar ?_; simp only [zal])
  | (refine zaq ?_; simp only [zal])
  | (refine zba ?_; simp [zal])
  | fail)
      (refine EndOK.val (.inr rfl) ?_; simp [zay, zae, zau, Tryd.results113])
      try simp [hb]
    ·have hlt : i < (c :: s).length := (List.getElem?_eq_some_iff.1 hx).1
     have hlt2 : (i : Int) < s.length + 1 := by simp at hlt; omega
     have hd := hall a (List.mem_of_getElem? hx)
     simp only [za9, Bool.and_eq_true, decide_eq_true_eq] at hd
     have hv := hval i hi
     have hv2 := hval (i + 1) hlt
     have hsn : zbi ((c :: s).take (i + 1)) = 10 * zbi ((c :: s).take i) + ((a.toNat : Int) - 48) := by
      rw [List.take_succ, hx]; exact zeh _ _
     generalize zbi ((c :: s).take i) = dv at hv hsn
     have hsn2 := hsn.symm
     repeat' (first
  | (refine zah ?_; simp [hx, hlt2, hsn2])
  | (refine zak ?_; simp [hx, hlt2, hsn2])
  | (refine ⟨by omega, ?_⟩)
  | (refine zai ?_; simp [hx, hlt2, hsn2])
  | (refine zas ?_; simp [hx, hlt2, hsn2])
  | (refine zaq ?_; simp only [zal])
  | fail)
     refine LoopW.next ⟨i + 1, hlt⟩ (by simp at hlt; simp; omega) ?_
     exact (Wk.cut rfl (by simp [hn, St.lp]) (by simp [wkO, St.lp, zaa, getK, Ob.under, D.under, zad, zaf, hsn]) (by simp [wkU, St.lp, zap, zaa, getK, D.under, hsn]) (by simp [wkE, St.lp, zap, zaa, getK, hsn] <;> (try (intros; simp_all; done)) <;> (try (intros; omega)) <;> (try grind)))
  exact hloop h2'
def signsL : List (List UInt8) := [[61, 61], [59], [44], [61], [60], [43], [45], [42], [47], [40], [41]]
def zhL (s : List UInt8) : Except Int Tok := match s with
 | [] => .error 0
 | c :: r => if zb4 c = true then
   if zeO ((c :: r).take (zcs zcZ (c :: r))) = true then .ok ⟨1, (c :: r).take (zcs zcZ (c :: r)), 0, 0⟩ else .error 13
  else if za9 c = true then
   match zgb ((c :: r).take (zcs za9 (c :: r))) with | some n => .ok ⟨2, (c :: r).take (zcs za9 (c :: r)), n, 0⟩ | none => .error 3
  else match signsL.find? fun x => x.isPrefixOf (c :: r) with | some x => .ok ⟨3, x, 0, 0⟩ | none => .error 11
def nextD (s : List UInt8) : D := match zhL s with | .ok t => .tup [.u (.agg [.int .i64 t.kind, .str t.text, .int .i64 t.n, .int .i64 t.pos]), .u (.int .i64 0)] | .error e => .tup [.u (.agg [.int .i64 0, .str [], .int .i64 0, .int .i64 0]), .u (.int .i64 e)]
theorem zjy (s p : List UInt8) : Fun Tryd.prog 116 [.u (.str s), .u (.str p)] (· = .u (.bool (p.isPrefixOf s))) := by
 by_cases hl : p.length ≤ s.length
 ·have hl2 : (p.length : Int) ≤ s.length := by omega
  by_cases he : s.take p.length = p
  ·have hp : p.isPrefixOf s = true := List.isPrefixOf_iff_prefix.2 (List.prefix_iff_eq_take.2 he.symm)
   (refine Fun.of_body Tryd.func116 rfl (by simp) fun Γ hn => ?_); simp only [entry, List.zipIdx_cons, List.zipIdx_nil, List.map_cons, List.map_nil, Nat.zero_add, Tryd.ntmps116]
   repeat' (first
  | (refine zah ?_; simp [hl, hl2, he])
  | (refine zak ?_; simp [hl, hl2, he])
  | (refine zai ?_; simp [hl, hl2, he])
  | (refine zar ?_; simp only [zal])
  | fail)
   all_goals
    (refine EndOK.val (.inr rfl) ?_; simp [zay, zae, zau, Tryd.results116])
   all_goals first | (rw [hp]; done) | exact List.isPrefixOf_iff_prefix.1 hp | (simp [hp]; done) | rfl
  ·have hp : p.isPrefixOf s = false := by
    cases h : p.isPrefixOf s with
    | false => rfl
    | true => exact absurd (List.prefix_iff_eq_take.1 (List.isPrefixOf_iff_prefix.1 h)).symm he
   (refine Fun.of_body Tryd.func116 rfl (by simp) fun Γ hn => ?_); simp only [entry, List.zipIdx_cons, List.zipIdx_nil, List.map_cons, List.map_nil, Nat.zero_add, Tryd.ntmps116]
   repeat' (first
  | (refine zah ?_; simp [hl, hl2, he])
  | (refine zak ?_; simp [hl, hl2, he])
  | (refine zai ?_; simp [hl, hl2, he])
  | (refine zar ?_; simp only [zal])
  | fail)
   all_goals
    (refine EndOK.val (.inr rfl) ?_; simp [zay, zae, zau, Tryd.results116])
   all_goals first | (rw [hp]; done) | exact List.isPrefixOf_iff_prefix.1 hp | (simp [hp]; done) | rfl
 ·have hl2 : ¬ (p.length : Int) ≤ s.length := by omega
  have hp : p.isPrefixOf s = false := by
   cases h : p.isPrefixOf s with
   | false => rfl
   | true => exact absurd (List.isPrefixOf_iff_prefix.1 h).length_le hl
  (refine Fun.of_body Tryd.func116 rfl (by simp) fun Γ hn => ?_); simp only [entry, List.zipIdx_cons, List.zipIdx_nil, List.map_cons, List.map_nil, Nat.zero_add, Tryd.ntmps116]
  repeat' (first
  | (refine zah ?_; simp [hl, hl2])
  | (refine zak ?_; simp [hl, hl2])
  | (refine zai ?_; simp [hl, hl2])
  | (refine zar ?_; simp only [zal])
  | fail)
  all_goals
   (refine EndOK.val (.inr rfl) ?_; simp [zay, zae, zau, Tryd.results116])
  all_goals first | (rw [hp]; done) | exact List.isPrefixOf_iff_prefix.1 hp | (simp [hp]; done) | rfl
theorem zkP (s p : List UInt8) : Fun Tryd.prog 114 [.u (.str s), .u (.str p)] (· = .u (.bool (p.isPrefixOf s))) := by
 have h := zjy s p
 (refine Fun.of_body Tryd.func114 rfl (by simp) fun Γ hn => ?_); simp only [entry, List.zipIdx_cons, List.zipIdx_nil, List.map_cons, List.map_nil, Nat.zero_add, Tryd.ntmps114]
 repeat' (first
  | (refine zah ?_; simp)
  | (refine zak ?_; simp)
  | (refine zai ?_; simp)
  | (refine zar ?_; simp only [zal])
  | (refine CallP.fun_ (h) (by first | rfl | fail) (by first | assumption | (simp; done) | fail) (by first | (simp; done) | (simp; rfl) | fail) (by first | (simp; done) | fail) (fun d hd => ?_); subst hd; (try simp))
  | fail)
 (refine EndOK.val (.inr rfl) ?_; simp [zay, zae, zau, Tryd.results114])
@[local simp] theorem zpa : zmt 0 = .u (.row (signsL.map .str) 0) := by
 simp [zmt, globs, signsL, uOf]
theorem hsl : signsL.length = 11 := rfl
theorem zni (s : List UInt8) (hs : s ≠ []) (hl : s.length ≤ 1000000) : Fun Tryd.prog 95 [.u (.str s)] (· = nextD s) := by
 obtain ⟨c, r, rfl⟩ : ∃ c r, s = c :: r := by cases s with | nil => exact absurd rfl hs | cons c r => exact ⟨c, r, rfl⟩
 have h1 := zdN c
 have h2 := zei c
 have h3 := zeV (c :: r) hl 112 zcZ (fun c _ => zl1 c) (by simp)
 have h4 := zeV (c :: r) hl 104 za9 (fun c _ => zei c) (by simp)
 have h5 := zjT ((c :: r).take (zcs zcZ (c :: r)))
 have h6 := zkT ((c :: r).take (zcs za9 (c :: r))) (by have := zdv za9 (c :: r); rw [List.length_take]; omega)
 have l1 : (zcs zcZ (c :: r) : Int) ≤ r.length + 1 := by have := zdv zcZ (c :: r); simp at this; omega
 have l2 : (zcs za9 (c :: r) : Int) ≤ r.length + 1 := by have := zdv za9 (c :: r); simp at this; omega
 have l1' : zcs zcZ (c :: r) ≤ r.length + 1 := by omega
 have l2' : zcs za9 (c :: r) ≤ r.length + 1 := by omega
 unfold nextD zhL
 cases c1 : zb4 c with
 | true =>
  rw [c1] at h1
  cases c3 : zeO ((c :: r).take (zcs zcZ (c :: r))) with
  | true =>
   rw [c3] at h5
   (refine Fun.of_body Tryd.func95 rfl (by simp) fun Γ hn => ?_); simp only [entry, List.zipIdx_cons, List.zipIdx_nil, List.map_cons, List.map_nil, Nat.zero_add, Tryd.ntmps95]
   repeat' (first
  | (refine zah ?_; simp [l1, l1'])
  | (refine zak ?_; simp [l1, l1'])
  | (refine zai ?_; simp [l1, l1'])
  | (refine zag ?_; simp [l1, l1'])
  | (refine zar ?_; simp only [zal])
  | (refine zaq ?_; simp only [zal])
  | (refine CallP.fun_ (h1) (by first | rfl | fail) (by first | assumption | (simp; done) | fail) (by first | (simp [l1, l1']; done) | (simp [l1, l1']; rfl) | fail) (by first | (simp; done) | fail) (fun d hd => ?_); subst hd; (try simp [l1, l1']))
  | (refine CallP.fun_ (h3) (by first | rfl | fail) (by first | assumption | (simp; done) | fail) (by first | (simp [l1, l1']; done) | (simp [l1, l1']; rfl) | fail) (by first | (simp; done) | fail) (fun d hd => ?_); subst hd; (try simp [l1, l1']))
  | (refine CallP.fun_ (h5) (by first | rfl | fail) (by first | assumption | (simp; done) | fail) (by first | (simp [l1, l1']; done) | (simp [l1, l1']; rfl) | fail) (by first | (simp; done) | fail) (fun d hd => ?_); subst hd; (try simp [l1, l1']))
  | fail)
   (refine EndOK.val (.inr rfl) ?_; simp [zay, zae, zau, Tryd.results95])
   simp [c1, c3]
  | false =>
   rw [c3] at h5
   (refine Fun.of_body Tryd.func95 rfl (by simp) fun Γ hn => ?_); simp only [entry, List.zipIdx_cons, List.zipIdx_nil, List.map_cons, List.map_nil, Nat.zero_add, Tryd.ntmps95]
   repeat' (first
  | (refine zah ?_; simp [l1, l1'])
  | (refine zak ?_; simp [l1, l1'])
  | (refine zai ?_; simp [l1, l1'])
  | (refine zag ?_; simp [l1, l1'])
  | (refine zar ?_; simp only [zal])
  | (refine CallP.fun_ (h1) (by first | rfl | fail) (by first | assumption | (simp; done) | fail) (by first | (simp [l1, l1']; done) | (simp [l1, l1']; rfl) | fail) (by first | (simp; done) | fail) (fun d hd => ?_); subst hd; (try simp [l1, l1']))
  | (refine CallP.fun_ (h3) (by first | rfl | fail) (by first | assumption | (simp; done) | fail) (by first | (simp [l1, l1']; done) | (simp [l1, l1']; rfl) | fail) (by first | (simp; done) | fail) (fun d hd => ?_); subst hd; (try simp [l1, l1']))
  | (refine CallP.fun_ (h5) (by first | rfl | fail) (by first | assumption | (simp; done) | fail) (by first | (simp [l1, l1']; done) | (simp [l1, l1']; rfl) | fail) (by first | (simp; done) | fail) (fun d hd => ?_); subst hd; (try simp [l1, l1']))
  | fail)
   (refine EndOK.val (.inr rfl) ?_; simp [zay, zae, zau, Tryd.results95])
   simp [c1, c3]
 | false =>
  rw [c1] at h1
  cases c2 : za9 c with
  | true =>
   rw [c2] at h2
   cases c3 : zgb ((c :: r).take (zcs za9 (c :: r))) with
   | none =>
    rw [c3] at h6
    (refine Fun.of_body Tryd.func95 rfl (by simp) fun Γ hn => ?_); simp only [entry, List.zipIdx_cons, List.zipIdx_nil, List.map_cons, List.map_nil, Nat.zero_add, Tryd.ntmps95]
    repeat' (first
  | (refine zah ?_; simp [l2, l2'])
  | (refine zak ?_; simp [l2, l2'])
  | (refine zai ?_; simp [l2, l2'])
  | (refine zag ?_; simp [l2, l2'])
  | (refine zar ?_; simp only [zal])
  | (refine CallP.fun_ (h1) (by first | rfl | fail) (by first | assumption | (simp; done) | fail) (by first | (simp [l2, l2']; done) | (simp [l2, l2']; rfl) | fail) (by first | (simp; done) | fail) (fun d hd => ?_); subst hd; (try simp [l2, l2']))
  | (refine CallP.fun_ (h2) (by first | rfl | fail) (by first | assumption | (simp; done) | fail) (by first | (simp [l2, l2']; done) | (simp [l2, l2']; rfl) | fail) (by first | (simp; done) | fail) (fun d hd => ?_); subst hd; (try simp [l2, l2']))
  | (refine CallP.fun_ (h4) (by first | rfl | fail) (by first | assumption | (simp; done) | fail) (by first | (simp [l2, l2']; done) | (simp [l2, l2']; rfl) | fail) (by first | (simp; done) | fail) (fun d hd => ?_); subst hd; (try simp [l2, l2']))
  | (refine CallP.fun_ (h6) (by first | rfl | fail) (by first | assumption | (simp; done) | fail) (by first | (simp [l2, l2']; done) | (simp [l2, l2']; rfl) | fail) (by first | (simp; done) | fail) (fun d hd => ?_); subst hd; (try simp [l2, l2']))
  | fail)
    (refine EndOK.val (.inr rfl) ?_; simp [zay, zae, zau, Tryd.results95])
    simp [c1, c2, c3]
   | some n =>
    rw [c3] at h6
    (refine Fun.of_body Tryd.func95 rfl (by simp) fun Γ hn => ?_); simp only [entry, List.zipIdx_cons, List.zipIdx_nil, List.map_cons, List.map_nil, Nat.zero_add, Tryd.ntmps95]
    repeat' (first
  | (refine zah ?_; simp [l2, l2'])
  | (refine zak ?_; simp [l2, l2'])
  | (refine zai ?_; simp [l2, l2'])
  | (refine zag ?_; simp [l2, l2'])
  | (refine zar ?_; simp only [zal])
  | (refine zaq ?_; simp only [zal])
  | (refine CallP.fun_ (h1) (by first | rfl | fail) (by first | assumption | (simp; done) | fail) (by first | (simp [l2, l2']; done) | (simp [l2, l2']; rfl) | fail) (by first | (simp; done) | fail) (fun d hd => ?_); subst hd; (try simp [l2, l2']))
  | (refine CallP.fun_ (h2) (by first | rfl | fail) (by first | assumption | (simp; done) | fail) (by first | (simp [l2, l2']; done) | (simp [l2, l2']; rfl) | fail) (by first | (simp; done) | fail) (fun d hd => ?_); subst hd; (try simp [l2, l2']))
  | (refine CallP.fun_ (h4) (by first | rfl | fail) (by first | assumption | (simp; done) | fail) (by first | (simp [l2, l2']; done) | (simp [l2, l2']; rfl) | fail) (by first | (simp; done) | fail) (fun d hd => ?_); subst hd; (try simp [l2, l2']))
  | (refine CallP.fun_ (h6) (by first | rfl | fail) (by first | assumption | (simp; done) | fail) (by first | (simp [l2, l2']; done) | (simp [l2, l2']; rfl) | fail) (by first | (simp; done) | fail) (fun d hd => ?_); subst hd; (try simp [l2, l2']))
  | fail)
    (refine EndOK.val (.inr rfl) ?_; simp [zay, zae, zau, Tryd.results95])
    simp [c1, c2, c3]
  | false =>
   rw [c2] at h2
   (refine Fun.of_body Tryd.func95 rfl (by simp) fun Γ hn => ?_); simp only [entry, List.zipIdx_cons, List.zipIdx_nil, List.map_cons, List.map_nil, Nat.zero_add, Tryd.ntmps95]
   repeat' (first
  | (refine zah ?_; simp [hsl, List.take_of_length_le])
  | (refine zak ?_; simp [hsl, List.take_of_length_le])
  | (refine zai ?_; simp [hsl, List.take_of_length_le])
  | (refine zag ?_; simp [hsl, List.take_of_length_le])
  | (refine zam ?_; simp [hsl, List.take_of_length_le])
  | (refine zaq ?_; simp only [zal])
  | (refine CallP.fun_ (h1) (by first | rfl | fail) (by first | assumption | (simp; done) | fail) (by first | (simp [hsl, List.take_of_length_le]; done) | (simp [hsl, List.take_of_length_le]; rfl) | fail) (by first | (simp; done) | fail) (fun d hd => ?_); subst hd; (try simp [hsl, List.take_of_length_le]))
  | (refine CallP.fun_ (h2) (by first | rfl | fail) (by first | assumption | (simp; done) | fail) (by first | (simp [hsl, List.take_of_length_le]; done) | (simp [hsl, List.take_of_length_le]; rfl) | fail) (by first | (simp; done) | fail) (fun d hd => ?_); subst hd; (try simp [hsl, List.take_of_length_le]))
  | fail)
   refine zbG (α := { i : Nat // i ≤ 11 ∧ ∀ x ∈ signsL.take i, x.isPrefixOf (c :: r) = false }) [0, 2, 3, 43] (fun i => [(44, .u (.int .i64 i.1))]) (fun i => 11 - i.1) ⟨0, by omega, by simp⟩ ?_ ?_
   ·exact (Wk.cut rfl (by simp [hn, St.lp]) (by simp [wkO, St.lp, zaa, getK, Ob.under, D.under, zad, zaf]) (by simp [wkU, St.lp, zap, zaa, getK, D.under]) (by simp [wkE, St.lp, zap, zaa, getK] <;> (try (intros; simp_all; done)) <;> (try (intros; omega)) <;> (try grind)))
   rintro ⟨i, hi, hb⟩
   simp [St.lp, St.only, zap, zaa, getK]
   rcases hx : signsL[i]? with _ | x
   ·have hge : signsL.length ≤ i := by simpa using hx
    obtain rfl : i = 11 := by rw [hsl] at hge; omega
    have hnone : signsL.find? (fun x => x.isPrefixOf (c :: r)) = none := List.find?_eq_none.2 fun x hx => by
     rw [hb x (by rw [List.take_of_length_le (by rw [hsl]; omega)]; exact hx)]; simp
    repeat' (first
  | (refine zah ?_; simp)
  | (refine zak ?_; simp)
  | (refine zai ?_; simp)
  | (refine zar ?_; simp only [zal])
  | (refine zba ?_; simp [zal])
  | fail)
    (refine EndOK.val (.inr rfl) ?_; simp [zay, zae, zau, Tryd.results95])
    simp [c1, c2, hnone]
   ·have hlt : i < 11 := by have := (List.getElem?_eq_some_iff.1 hx).1; rw [hsl] at this; exact this
    have hlt2 : (i : Int) < 11 := by omega
    have hp := zkP (c :: r) x
    by_cases hpx : x.isPrefixOf (c :: r) = true
    ·have hfind : signsL.find? (fun x => x.isPrefixOf (c :: r)) = some x := by
      have e : signsL = signsL.take i ++ x :: signsL.drop (i + 1) := by
       obtain ⟨h5, h6⟩ := List.getElem?_eq_some_iff.1 hx
       rw [← h6, List.getElem_cons_drop, List.take_append_drop]
      rw [e, List.find?_append, List.find?_eq_none.2 (fun y hy => by rw [hb y hy]; simp), List.find?_cons, hpx]
      rfl
     rw [hpx] at hp
     repeat' (first
  | (refine zah ?_; simp [hx, hsl, hlt2])
  | (refine zak ?_; simp [hx, hsl, hlt2])
  | (refine zai ?_; simp [hx, hsl, hlt2])
  | (refine zag ?_; simp [hx, hsl, hlt2])
  | (refine zar ?_; simp only [zal])
  | (refine zaq ?_; simp only [zal])
  | (refine CallP.fun_ (hp) (by first | rfl | fail) (by first | assumption | (simp; done) | fail) (by first | (simp [hx, hsl, hlt2]; done) | (simp [hx, hsl, hlt2]; rfl) | fail) (by first | (simp; done) | fail) (fun d hd => ?_); subst hd; (try simp [hx, hsl, hlt2]))
  | fail)
     (refine EndOK.val (.inr rfl) ?_; simp [zay, zae, zau, Tryd.results95])
     simp [c1, c2, hfind]
    ·rw [Bool.eq_false_iff.2 hpx] at hp
     repeat' (first
  | (refine zah ?_; simp [hx, hsl, hlt2])
  | (refine zak ?_; simp [hx, hsl, hlt2])
  | (refine ⟨by omega, ?_⟩)
  | (refine zai ?_; simp [hx, hsl, hlt2])
  | (refine zag ?_; simp [hx, hsl, hlt2])
  | (refine zas ?_; simp [hx, hsl, hlt2])
  | (refine zaq ?_; simp only [zal])
  | (refine CallP.fun_ (hp) (by first | rfl | fail) (by first | assumption | (simp; done) | fail) (by first | (simp [hx, hsl, hlt2]; done) | (simp [hx, hsl, hlt2]; rfl) | fail) (by first | (simp; done) | fail) (fun d hd => ?_); subst hd; (try simp [hx, hsl, hlt2]))
  | fail)
     refine LoopW.next ⟨i + 1, by omega, fun y hy => ?_⟩ (by simp; omega) ?_
     ·rw [List.take_succ, hx] at hy
      rcases List.mem_append.1 hy with h | h
      ·exact hb y h
      ·simp at h; subst h; exact Bool.eq_false_iff.2 hpx
     ·exact (Wk.cut rfl (by simp [hn, St.lp]) (by simp [wkO, St.lp, zaa, getK, Ob.under, D.under, zad, zaf]) (by simp [wkU, St.lp, zap, zaa, getK, D.under]) (by simp [wkE, St.lp, zap, zaa, getK] <;> (try (intros; simp_all; done)) <;> (try (intros; omega)) <;> (try grind)))
end Go.Proofs.YtfcopibncpkdoaaDoor
namespace Go.Proofs.YtfcopibncpkdoaaDoor
open Go Go.VL
/-- The tokens of a string from a place on. -/
def zma : Nat → List UInt8 → Nat → Except (Nat × Int) (List Tok)
 | 0, _, _ => .ok []
 | f + 1, s, p =>
  match (s.drop (p + zcs zcQ (s.drop p))) with
  | [] => .ok [⟨0, [], 0, ((p + zcs zcQ (s.drop p) : Nat) : Int)⟩]
  | c :: r => match zhL (c :: r) with
   | .error e => .error (p + zcs zcQ (s.drop p), e)
   | .ok t => match zma f s (p + zcs zcQ (s.drop p) + t.text.length) with
    | .error x => .error x
    | .ok l => .ok ({ t with pos := ((p + zcs zcQ (s.drop p) : Nat) : Int) } :: l)
def zl8 (s : List UInt8) : Except (Nat × Int) (List Tok) := if 2000 < s.length then .error (0, 6) else zma (s.length + 1) s 0
def zg6 : Except (Nat × Int) (List Tok) → D
 | .ok l => .tup [.u (.sl (l.map fun t => [.int .i64 t.kind, .str t.text, .int .i64 t.n, .int .i64 t.pos])), .u (.int .i64 0), .u (.int .i64 0)]
 | .error (p, e) => .tup [.u (.sl []), .u (.int .i64 p), .u (.int .i64 e)]
def zkO (acc : List Tok) : Except (Nat × Int) (List Tok) → Except (Nat × Int) (List Tok)
 | .ok l => .ok (acc ++ l)
 | .error x => .error x
theorem zlP (x) : zkO [] x = x := by cases x <;> simp [zkO]
theorem zii {p : UInt8 → Bool} {c : UInt8} {r : List UInt8} (h : p c = true) : 0 < zcs p (c :: r) := by
 unfold zcs; rw [List.takeWhile_cons, if_pos h]; simp
theorem zfl {s : List UInt8} {t : Tok} (h : zhL s = .ok t) : 0 < t.text.length ∧ t.text.length ≤ s.length := by
 unfold zhL at h
 split at h
 ·cases h
 ·rename_i c r
  by_cases c1 : zb4 c = true
  ·rw [if_pos c1] at h
   split at h
   ·cases h
    have h1 := zii (p := zcZ) (c := c) (r := r) (by simp [zcZ, c1])
    have h2 := zdv zcZ (c :: r)
    simp only [List.length_take]
    omega
   ·cases h
  ·rw [if_neg c1] at h
   by_cases c2 : za9 c = true
   ·rw [if_pos c2] at h
    split at h
    ·cases h
     have h1 := zii (p := za9) (c := c) (r := r) c2
     have h2 := zdv za9 (c :: r)
     simp only [List.length_take]
     omega
    ·cases h
   ·rw [if_neg c2] at h
    split at h
    ·rename_i x hx
     cases h
     have h1 := List.find?_some hx
     have h2 := List.mem_of_find?_eq_some hx
     refine ⟨?_, (List.isPrefixOf_iff_prefix.1 h1).length_le⟩
     simp only [signsL, List.mem_cons, List.not_mem_nil, or_false] at h2
     rcases h2 with h | h | h | h | h | h | h | h | h | h | h <;> subst h <;> simp
    ·cases h
def zhw (l : List Tok) : List (List D) := l.map fun t => [.u (.int .i64 t.kind), .u (.str t.text), .u (.int .i64 t.n), .u (.int .i64 t.pos)]
theorem zbr (l : List Tok) : (zhw l).length = l.length := by simp [zhw]
theorem zif (l : List Tok) : rowsD (l.map fun t => [U.int .i64 t.kind, .str t.text, .int .i64 t.n, .int .i64 t.pos]) = zhw l := by simp [rowsD, zhw, Function.comp_def]
theorem zj6 (l : List Tok) : zch (zhw l) = some (l.map fun t => [U.int .i64 t.kind, .str t.text, .int .i64 t.n, .int .i64 t.pos]) := by rw [← zif]; simp
theorem zf9 (l) : zbU (zhw l) = True := by rw [← zif]; simp
theorem zfg (n : Nat) (l) : (∀ x ∈ zhw l, ∀ y ∈ x, D.under n y = true) ↔ True := by
 refine ⟨fun _ => trivial, fun _ x hx y hy => ?_⟩
 obtain ⟨b, _, rfl⟩ := List.mem_map.1 hx
 simp at hy
 rcases hy with rfl | rfl | rfl | rfl <;> simp [D.under]
attribute [local simp] zcp zbN evPure opd uOf zaB St.put St.at getK binD binI binS binB nilD aggD zeJ ze8 lookD lookR zbT Go.VL.nextD zbY zfe zfd zev zbM mkV zaW zaP zaO zaN zcm zaM za1 zbc mapEff zcS zek Key.kk shiftI arith unD convD zcP loadD cellsAt fieldAddrD fieldD indexAddrD indexD sliceD cutD lenD minmaxD nilCheckD buildD fillD zbt zcq zdR setAll zcg zdy zbQ zeN zbO St.add zaC zbj rowsOf zcM zce zaj zac zaa za5 zcl zaH entry za4 za6 valD zbS zb7 zez zct zcu zbx zbs zav zaT za7 delAll effD St.effS zb9 zaQ zaI zca zaR zaK zby zaJ zaD zbz zb8 zbb zbw zaZ zbu zbv zat mkD zbk zbd zbB zav zbP D.ids Op.operands Call.operands za8 makeIfD typeAssertD ze6 zcH zcI zeR zbV IntKind.bits zch List.take_of_length_le List.range_succ
attribute [local irreducible] V G H HD HD2 zal Eff CallP CallV EndOK Fun Ret FinOK LoopI LoopW EndW
theorem zl7 (s : List UInt8) : Fun Tryd.prog 66 [.u (.str s)] (· = zg6 (zl8 s)) := by
 unfold zl8
 by_cases hlong : 2000 < s.length
 ·have hlong2 : 2000 < (s.length : Int) := by omega
  rw [if_pos hlong]
  (refine Fun.of_bodyW Tryd.func66 rfl (by simp) fun Γ hn => ?_); simp only [entry, List.zipIdx_cons, List.zipIdx_nil, List.map_cons, List.map_nil, Nat.zero_add, Tryd.ntmps66]
  repeat' (first
  | (refine zah ?_; simp [hlong, hlong2])
  | (refine zak ?_; simp [hlong, hlong2])
  | (refine zai ?_; simp [hlong, hlong2])
  | (refine zag ?_; simp [hlong, hlong2])
  | (refine zar ?_; simp only [zal])
  | fail)
  refine EndW.norm (EndW.here ?_)
  (refine EndOK.val (.inr rfl) ?_; simp [zay, zae, zau, Tryd.results66, zaU, zaV, zdf, zdg, frz, zb2, frzS, fv, zbH, zbJ, zbK, zaY, zaF, zaA, zcf, zcy, zcz, zbq])
  simp [zg6]
 rw [if_neg hlong]
 have hlong2 : ¬ 2000 < (s.length : Int) := by omega
 obtain ⟨R, hR⟩ : ∃ R, R = zma (s.length + 1) s 0 := ⟨_, rfl⟩
 rw [← hR]
 (refine Fun.of_bodyW Tryd.func66 rfl (by simp) fun Γ hn => ?_); simp only [entry, List.zipIdx_cons, List.zipIdx_nil, List.map_cons, List.map_nil, Nat.zero_add, Tryd.ntmps66]
 repeat' (first
  | (refine zah ?_; simp [hlong, hlong2])
  | (refine zak ?_; simp [hlong, hlong2])
  | (refine zai ?_; simp [hlong, hlong2])
  | (refine zag ?_; simp [hlong, hlong2])
  | (refine zam ?_; simp [hlong, hlong2])
  | (refine zaq ?_; simp only [zal])
  | fail)
 refine zpS _ (Wk.own 5 90 4 (by decide) rfl) ?_
 simp [St.own]
 refine zcR (α := { x : List Tok × Nat × Nat // x.2.1 ≤ s.length ∧ s.length < x.2.1 + x.2.2 ∧ x.1.length ≤ x.2.1 ∧ R = zkO x.1 (zma x.2.2 s x.2.1) }) [0] (fun x => [(5, .vec 0 x.1.1.length), (6, .u (.int .i64 x.1.2.1))]) (fun x => [(0, .vec 90 4 (zhw x.1.1))]) 1 (fun x => x.1.2.2) ⟨([], 0, s.length + 1), by simp, by simp, by simp, by rw [zlP, hR]⟩ ?_ ?_
 ·exact (Wk.cut rfl (by simp [hn, St.lp]) (by simp [wkO, St.lp, zaa, getK, Ob.under, D.under, zad, zaf, zhw]) (by simp [wkU, St.lp, zap, zaa, getK, D.under, zhw]) (by simp [wkE, St.lp, zap, zaa, getK, zhw] <;> (try (intros; simp_all; done)) <;> (try (intros; omega)) <;> (try grind)))
 rintro ⟨⟨acc, p, f⟩, h1, h2, h3, h4⟩
 simp only at h1 h2 h3 h4
 simp [St.lp, St.only, zap, zaa, getK]
 obtain ⟨f', rfl⟩ : ∃ f', f = f' + 1 := ⟨f - 1, by omega⟩
 rw [zma] at h4
 have hsp := zeV (s.drop p) (by rw [List.length_drop]; omega) 94 zcQ (fun c _ => zmH c) (by simp)
 have hle := zdv zcQ (s.drop p)
 rw [List.length_drop] at hle
 obtain ⟨b, hb⟩ : ∃ b, b = zcs zcQ (s.drop p) := ⟨_, rfl⟩
 rw [← hb] at hsp hle h4
 have hp1 : (p : Int) ≤ s.length := by omega
 have hpb : (p : Int) + b ≤ s.length := by omega
 rcases hd : s.drop (p + b) with _ | ⟨c, r⟩
 ·have hdl : (s.drop (p + b)).length = 0 := by rw [hd]; rfl
  rw [List.length_drop] at hdl
  have hpe : p + b = s.length := by omega
  have hpe2 : (p : Int) + b = s.length := by omega
  rw [hd] at h4
  simp only at h4
  have hap : zhw acc ++ [[D.u (.int .i64 0), D.u (.str []), D.u (.int .i64 0), D.u (.int .i64 (s.length : Int))]] = zhw (acc ++ [⟨0, [], 0, s.length⟩]) := by simp [zhw]
  have hlr : zll 4 (zhw acc) := fun r hr => by obtain ⟨t, _, rfl⟩ := List.mem_map.1 hr; rfl
  rw [hpe] at h4
  repeat' (first
  | (refine zah ?_; simp [h1, hp1, hpe2, zbr, hap, hlr])
  | (refine zak ?_; simp [h1, hp1, hpe2, zbr, hap, hlr])
  | (refine ⟨by omega, ?_⟩)
  | (refine zai ?_; simp [h1, hp1, hpe2, zbr, hap, hlr])
  | (refine zag ?_; simp [h1, hp1, hpe2, zbr, hap, hlr])
  | (refine zam ?_; simp [h1, hp1, hpe2, zbr, hap, hlr])
  | (refine zar ?_; simp only [zal])
  | (refine CallP.fun_ (hsp) (by first | rfl | fail) (by first | assumption | (simp; done) | fail) (by first | (simp [h1, hp1, hpe2, zbr, hap, hlr]; done) | (simp [h1, hp1, hpe2, zbr, hap, hlr]; rfl) | fail) (by first | (simp; done) | fail) (fun d hd => ?_); subst hd; (try simp [h1, hp1, hpe2, zbr, hap, hlr]))
  | fail)
  (refine EndW.frzN 3 ?_; simp [frzN, frz1, zaV, zaU, St.frz, St.frzS, frzS, fv, zbH, zbJ, zbK, zaY, zaF, zaA, del, frz, zb2, zj6, zbr, List.length_append])
  refine EndW.norm (EndW.here ?_)
  (refine EndOK.val (.inr rfl) ?_; simp [zay, zae, zau, Tryd.results66, zaU, zaV, zdf, zdg, frz, zb2, frzS, fv, zbH, zbJ, zbK, zaY, zaF, zaA, zcf, zcy, zcz, zbq, zj6, zbr, List.length_append])
  rw [h4]
  simp [zkO, zg6]
 ·have hdl : (s.drop (p + b)).length = r.length + 1 := by rw [hd]; rfl
  rw [List.length_drop] at hdl
  have hpe : ¬ p + b = s.length := by omega
  have hpe2 : ¬ (p : Int) + b = s.length := by omega
  have hnx := zni (s.drop (p + b)) (by rw [hd]; simp) (by rw [List.length_drop]; omega)
  unfold nextD at hnx
  rw [hd] at h4
  simp only at h4
  rw [hd] at hnx
  have hpb2 : ((p : Int) + b).toNat = p + b := by omega
  have hpb3 : p + b ≤ s.length := by omega
  cases hno : zhL (c :: r) with
  | error e =>
   rw [hno] at h4 hnx
   have he : e ≠ 0 := by
    unfold zhL at hno
    simp only at hno
    split at hno
    ·split at hno <;> cases hno
     omega
    ·split at hno
     ·split at hno <;> cases hno
      omega
     ·split at hno <;> cases hno
      omega
   repeat' (first
  | (refine zah ?_; simp [h1, hp1, hpe, hpe2, hd, he, hpb, hpb2, hpb3])
  | (refine zak ?_; simp [h1, hp1, hpe, hpe2, hd, he, hpb, hpb2, hpb3])
  | (refine ⟨by omega, ?_⟩)
  | (refine zai ?_; simp [h1, hp1, hpe, hpe2, hd, he, hpb, hpb2, hpb3])
  | (refine zag ?_; simp [h1, hp1, hpe, hpe2, hd, he, hpb, hpb2, hpb3])
  | (refine zam ?_; simp [h1, hp1, hpe, hpe2, hd, he, hpb, hpb2, hpb3])
  | (refine zar ?_; simp only [zal])
  | (refine zaq ?_; simp only [zal])
  | (refine CallP.fun_ (hsp) (by first | rfl | fail) (by first | assumption | (simp; done) | fail) (by first | (simp [h1, hp1, hpe, hpe2, hd, he, hpb, hpb2, hpb3]; done) | (simp [h1, hp1, hpe, hpe2, hd, he, hpb, hpb2, hpb3]; rfl) | fail) (by first | (simp; done) | fail) (fun d hd => ?_); subst hd; (try simp [h1, hp1, hpe, hpe2, hd, he, hpb, hpb2, hpb3]))
  | (refine CallP.fun_ (hnx) (by first | rfl | fail) (by first | assumption | (simp; done) | fail) (by first | (simp [h1, hp1, hpe, hpe2, hd, he, hpb, hpb2, hpb3]; done) | (simp [h1, hp1, hpe, hpe2, hd, he, hpb, hpb2, hpb3]; rfl) | fail) (by first | (simp; done) | fail) (fun d hd => ?_); subst hd; (try simp [h1, hp1, hpe, hpe2, hd, he, hpb, hpb2, hpb3]))
  | fail)
   refine EndW.norm (EndW.here ?_)
   (refine EndOK.val (.inr rfl) ?_; simp [zay, zae, zau, Tryd.results66, zaU, zaV, zdf, zdg, frz, zb2, frzS, fv, zbH, zbJ, zbK, zaY, zaF, zaA, zcf, zcy, zcz, zbq])
   rw [h4]
   simp [zkO, zg6]
  | ok t =>
   rw [hno] at h4 hnx
   obtain ⟨ht1, ht2⟩ := zfl hno
   simp only [List.length_cons] at ht2
   have hap : zhw acc ++ [[D.u (.int .i64 t.kind), D.u (.str t.text), D.u (.int .i64 t.n), D.u (.int .i64 ((p : Int) + b))]] = zhw (acc ++ [{ t with pos := ((p + b : Nat) : Int) }]) := by simp [zhw]
   have hlr : zll 4 (zhw acc) := fun r hr => by obtain ⟨t, _, rfl⟩ := List.mem_map.1 hr; rfl
   repeat' (first
  | (refine zah ?_; simp [h1, hp1, hpe, hpe2, hd, hpb, hpb2, hpb3, zbr, hap, hlr])
  | (refine zak ?_; simp [h1, hp1, hpe, hpe2, hd, hpb, hpb2, hpb3, zbr, hap, hlr])
  | (refine ⟨by omega, ?_⟩)
  | (refine zai ?_; simp [h1, hp1, hpe, hpe2, hd, hpb, hpb2, hpb3, zbr, hap, hlr])
  | (refine zag ?_; simp [h1, hp1, hpe, hpe2, hd, hpb, hpb2, hpb3, zbr, hap, hlr])
  | (refine zam ?_; simp [h1, hp1, hpe, hpe2, hd, hpb, hpb2, hpb3, zbr, hap, hlr])
  | (refine zas ?_; simp [h1, hp1, hpe, hpe2, hd, hpb, hpb2, hpb3, zbr, hap, hlr])
  | (refine zaq ?_; simp only [zal])
  | (refine CallP.fun_ (hsp) (by first | rfl | fail) (by first | assumption | (simp; done) | fail) (by first | (simp [h1, hp1, hpe, hpe2, hd, hpb, hpb2, hpb3, zbr, hap, hlr]; done) | (simp [h1, hp1, hpe, hpe2, hd, hpb, hpb2, hpb3, zbr, hap, hlr]; rfl) | fail) (by first | (simp; done) | fail) (fun d hd => ?_); subst hd; (try simp [h1, hp1, hpe, hpe2, hd, hpb, hpb2, hpb3, zbr, hap, hlr]))
  | (refine CallP.fun_ (hnx) (by first | rfl | fail) (by first | assumption | (simp; done) | fail) (by first | (simp [h1, hp1, hpe, hpe2, hd, hpb, hpb2, hpb3, zbr, hap, hlr]; done) | (simp [h1, hp1, hpe, hpe2, hd, hpb, hpb2, hpb3, zbr, hap, hlr]; rfl) | fail) (by first | (simp; done) | fail) (fun d hd => ?_); subst hd; (try simp [h1, hp1, hpe, hpe2, hd, hpb, hpb2, hpb3, zbr, hap, hlr]))
  | fail)
   refine LoopW.next ⟨(acc ++ [{ t with pos := ((p + b : Nat) : Int) }], p + b + t.text.length, f'), by simp; omega, by simp; omega, by simp; omega, ?_⟩ (by simp) ?_
   ·rw [h4]
    simp only
    cases zma f' s (p + b + t.text.length) <;> simp [zkO]
   ·skip
    exact (Wk.ren ((fun i => if i = 0 then 3 else i)) rfl (by first | (simp [hn]; done) | (intro i hi; rw [hn] at hi; constructor <;> (try simp) <;> (try (intro _)) <;> omega)) (by simp [zoh, St.lp, zap, zaa, getK, zac, zaj, D.under, D.le, D.ren, zf9, zfg] <;> (try (intros; simp_all; done)) <;> (try omega)) (by simp [wkR, St.lp, zaa, getK, zac, zaj, obR, leU, zdp, zbU, Ob.under, D.under, D.le, D.ren, zf9, zfg] <;> (try (intros; simp_all; done)) <;> (try omega)) (by simp [zf9, zfg]))
end Go.Proofs.YtfcopibncpkdoaaDoor
namespace Go.Proofs.YtfcopibncpkdoaaDoor
open Go Go.VL
abbrev zlB (l : List Tok) : U := .sl (l.map fun t => [.int .i64 t.kind, .str t.text, .int .i64 t.n, .int .i64 t.pos])
abbrev pOb (l : List Tok) (p : Nat) : Ob := .box [.u (zlB l), .u (.int .i64 p)]
abbrev znY (l : List Tok) (p : Nat) : U := .row [zlB l, .int .i64 p] 0
/-- Tokens as Lex makes them: the end comes last, and nowhere else. -/
structure TokOK (l : List Tok) : Prop where
 fin : ∀ (i : Nat) (t : Tok), l[i]? = some t → t.kind ≠ 0 → i + 1 < l.length
 len : l.length ≤ 1000000
def isB (l : List Tok) (p : Nat) (w : List UInt8) : Bool := match l[p]? with | some t => decide (t.kind ≠ 0) && decide (t.text = w) | none => false
theorem zcB {l : List Tok} {p : Nat} {w : List UInt8} (hl : TokOK l) (h : isB l p w = true) : p + 1 < l.length := by
 unfold isB at h
 split at h
 ·rename_i t ht
  simp only [Bool.and_eq_true, decide_eq_true_eq] at h
  exact hl.fin p t ht h.1
 ·cases h
attribute [local simp] HS zcp zbN evPure opd uOf zaB St.put St.at getK binD binI binS binB nilD aggD zeJ ze8 lookD lookR zbT Go.VL.nextD zbY zfe zfd zev zbM mkV zaW zaP zaO zaN zcm zaM za1 zbc mapEff zcS zek Key.kk shiftI arith unD convD zcP loadD cellsAt fieldAddrD fieldD indexAddrD indexD sliceD cutD lenD minmaxD nilCheckD buildD fillD zbt zcq zdR setAll zcg zdy zbQ zeN zbO St.add zaC zbj rowsOf zcM zce zaj zac zaa za5 zcl zaH entry za4 za6 valD zbS zb7 zez zct zcu zbx zbs zav zaT za7 delAll effD St.effS zb9 zaQ zaI zca zaR zaK zby zaJ zaD zbz zb8 zbb zbw zaZ zbu zbv zat mkD zbk zbd zbB zav zbP D.ids Op.operands Call.operands za8 makeIfD typeAssertD ze6 zcH zcI zeR zbV IntKind.bits zch List.take_of_length_le List.range_succ
attribute [local irreducible] V G H HD HD2 HD4 zhn RetX zal Eff CallP CallV EndOK Fun Ret FinOK LoopI LoopW EndW
theorem zcw (l : List Tok) (p : Nat) (t : Tok) (hp : l[p]? = some t) (hl : l.length ≤ 1000000) : Fun Tryd.prog 43 [.u (znY l p)] (· = .u (.agg [.int .i64 t.kind, .str t.text, .int .i64 t.n, .int .i64 t.pos])) := by
 have hlt := (List.getElem?_eq_some_iff.1 hp).1
 unfold znY zlB
 (refine Fun.of_body Tryd.func43 rfl (by simp) fun Γ hn => ?_); simp only [entry, List.zipIdx_cons, List.zipIdx_nil, List.map_cons, List.map_nil, Nat.zero_add, Tryd.ntmps43]
 repeat' (first
  | (refine zah ?_; simp [hp])
  | (refine zbo rfl ?_; simp [hp])
  | (refine zd7 rfl ?_; simp [hp])
  | (refine zak ?_; simp [hp])
  | (refine zai ?_; simp [hp])
  | (refine zb1 (hC _ (by kernel_rfl)) (hk _ ?_); clear hC hk C k; simp only [zal])
  | (refine zbm rfl (by kernel_rfl) (by first | (simp [hn]; done) | (simp [hn]; omega) | fail) fun C k hC hk => ?_; simp [hp])
  | (refine zar ?_; simp only [zal])
  | fail)
 (refine EndOK.val (.inr rfl) ?_; simp [zay, zae, zau, Tryd.results43])
theorem zey (l : List Tok) (p : Nat) (w : List UInt8) (hp : p < l.length) (hl : l.length ≤ 1000000) : Fun Tryd.prog 71 [.u (znY l p), .u (.str w)] (· = .u (.bool (isB l p w))) := by
 obtain ⟨t, ht⟩ : ∃ t, l[p]? = some t := ⟨_, List.getElem?_eq_getElem hp⟩
 have hnx := zcw l p t ht hl
 unfold isB
 rw [ht]
 unfold znY zlB at *
 by_cases h1 : t.kind = 0
 ·(refine Fun.of_body Tryd.func71 rfl (by simp) fun Γ hn => ?_); simp only [entry, List.zipIdx_cons, List.zipIdx_nil, List.map_cons, List.map_nil, Nat.zero_add, Tryd.ntmps71]
  repeat' (first
  | (refine zah ?_; simp [h1])
  | (refine zak ?_; simp [h1])
  | (refine zai ?_; simp [h1])
  | (refine zar ?_; simp only [zal])
  | (refine CallP.fun_ (hnx) (by first | rfl | fail) (by first | assumption | (simp; done) | fail) (by first | (simp [h1]; done) | (simp [h1]; rfl) | fail) (by first | (simp; done) | fail) (fun d hd => ?_); subst hd; (try simp [h1]))
  | fail)
  all_goals
    (refine EndOK.val (.inr rfl) ?_; simp [zay, zae, zau, Tryd.results71])
  all_goals simp [h1]
 ·(refine Fun.of_body Tryd.func71 rfl (by simp) fun Γ hn => ?_); simp only [entry, List.zipIdx_cons, List.zipIdx_nil, List.map_cons, List.map_nil, Nat.zero_add, Tryd.ntmps71]
  repeat' (first
  | (refine zah ?_; simp [h1])
  | (refine zak ?_; simp [h1])
  | (refine zai ?_; simp [h1])
  | (refine zar ?_; simp only [zal])
  | (refine CallP.fun_ (hnx) (by first | rfl | fail) (by first | assumption | (simp; done) | fail) (by first | (simp [h1]; done) | (simp [h1]; rfl) | fail) (by first | (simp; done) | fail) (fun d hd => ?_); subst hd; (try simp [h1]))
  | fail)
  all_goals
    (refine EndOK.val (.inr rfl) ?_; simp [zay, zae, zau, Tryd.results71])
  all_goals simp [h1]
theorem zbE (l : List Tok) (p : Nat) (w : List UInt8) (i nx : Nat) (hi : i < nx) (hp : p < l.length) (hl : l.length ≤ 1000000) :
  RetX Tryd.prog 96 [.ptr i 0, .u (.str w)] [(i, pOb l p)] nx (fun r o n => r = .val (.u (.bool (isB l p w))) ∧ o = [(i, pOb l (if isB l p w = true then p + 1 else p))] ∧ n = nx) := by
 have h1 := zey l p w hp hl
 unfold pOb znY zlB at *
 cases hb : isB l p w with
 | false =>
  rw [hb] at h1
  (refine RetX.of_bodyW Tryd.func96 rfl (by simp) fun Γ hn hpan => ?_); simp only [entry, List.zipIdx_cons, List.zipIdx_nil, List.map_cons, List.map_nil, Nat.zero_add, Tryd.ntmps96]
  repeat' (first
  | (refine zah ?_; simp)
  | (refine zak ?_; simp)
  | (refine zai ?_; simp)
  | (refine zag ?_; simp)
  | (refine zar ?_; simp only [zal])
  | (refine CallP.fun_ (h1) (by first | rfl | fail) (by first | assumption | (simp; done) | fail) (by first | (simp; done) | (simp; rfl) | fail) (by first | (simp; done) | fail) (fun d hd => ?_); subst hd; (try simp))
  | fail)
  (refine EndW.here ?_; (first | (refine EndOK.fin (.inr rfl) ?_) | (refine EndOK.fin (.inl rfl) ?_)); simp [zay, zae, Tryd.results96]; refine FinOK.here (by simp) ?_; try simp)
 | true =>
  rw [hb] at h1
  (refine RetX.of_bodyW Tryd.func96 rfl (by simp) fun Γ hn hpan => ?_); simp only [entry, List.zipIdx_cons, List.zipIdx_nil, List.map_cons, List.map_nil, Nat.zero_add, Tryd.ntmps96]
  repeat' (first
  | (refine zah ?_; simp)
  | (refine zak ?_; simp)
  | (refine ⟨by omega, ?_⟩)
  | (refine zai ?_; simp)
  | (refine zag ?_; simp)
  | (refine zar ?_; simp only [zal])
  | (refine zaq ?_; simp only [zal])
  | (refine CallP.fun_ (h1) (by first | rfl | fail) (by first | assumption | (simp; done) | fail) (by first | (simp; done) | (simp; rfl) | fail) (by first | (simp; done) | fail) (fun d hd => ?_); subst hd; (try simp))
  | fail)
  (refine EndW.here ?_; (first | (refine EndOK.fin (.inr rfl) ?_) | (refine EndOK.fin (.inl rfl) ?_)); simp [zay, zae, Tryd.results96]; refine FinOK.here (by simp) ?_; try simp)
/-- The panic of a stop. -/
def chP (pos e : Int) : List PanicEntry := [{ v := .iface 119 (.agg #[.int .i64 pos, .int .i64 e]), recovered := false }]
def isP (l : List Tok) (ob : Ob) : Prop := ∃ q : Nat, ob = pOb l q
theorem zfT (l : List Tok) (p : Nat) (e : Int) (i nx : Nat) (hi : i < nx) :
  RetX Tryd.prog 42 [.ptr i 0, .u (.bool true), .u (.int .i64 e)] [(i, pOb l p)] nx (fun r o n => r = .val (.tup []) ∧ o = [(i, pOb l p)] ∧ n = nx) := by
 (refine RetX.of_bodyW Tryd.func42 rfl (by simp) fun Γ hn hpan => ?_); simp only [entry, List.zipIdx_cons, List.zipIdx_nil, List.map_cons, List.map_nil, Nat.zero_add, Tryd.ntmps42]
 repeat' (first
  | (refine zah ?_; simp)
  | (refine zak ?_; simp)
  | (refine zai ?_; simp)
  | (refine zag ?_; simp)
  | (refine zaq ?_; simp only [zal])
  | fail)
 (refine EndW.here ?_; (first | (refine EndOK.fin (.inr rfl) ?_) | (refine EndOK.fin (.inl rfl) ?_)); simp [zay, zae, Tryd.results42]; refine FinOK.here (by simp) ?_; try simp)
theorem ze9 (l : List Tok) (p : Nat) (t : Tok) (e : Int) (i nx : Nat) (hi : i < nx) (hp : l[p]? = some t) (hl : l.length ≤ 1000000) :
  RetX Tryd.prog 42 [.ptr i 0, .u (.bool false), .u (.int .i64 e)] [(i, pOb l p)] nx (fun r o n => r = .pan (chP t.pos e) ∧ (∃ ob', isP l ob' ∧ o = [(i, ob')]) ∧ n = nx) := by
 have h1 := zcw l p t hp hl
 (refine RetX.of_bodyW Tryd.func42 rfl (by simp) fun Γ hn hpan => ?_); simp only [entry, List.zipIdx_cons, List.zipIdx_nil, List.map_cons, List.map_nil, Nat.zero_add, Tryd.ntmps42]
 repeat' (first
  | (refine zah ?_; simp)
  | (refine zak ?_; simp)
  | (refine zai ?_; simp)
  | (refine zag ?_; simp)
  | (refine zas ?_; simp)
  | (refine CallP.fun_ (h1) (by first | rfl | fail) (by first | assumption | (simp; done) | fail) (by first | (simp; done) | (simp; rfl) | fail) (by first | (simp; done) | fail) (fun d hd => ?_); subst hd; (try simp))
  | fail)
 all_goals
  (refine hpan _ _ ⟨{ n := _, env := [], obs := [(i, pOb l p)], next := nx }, (Wk.cut rfl (by simp [hn]) (by simp [wkO, zaa, getK, zab, zac, Ob.under, D.under, zad, zaf, hi]) (by simp [wkU, zap, zaa, getK, D.under, hi]) (by simp [wkE, zap, zaa, getK, hi])), by simp [hn], ?_⟩; try simp)
  all_goals exact ⟨rfl, p, rfl⟩
inductive PR (α : Type) where
 | ok (a : α) (p : Nat)
 | stop (pos e : Int)
def ziy (l : List Tok) (p : Nat) : Int := match l[p]? with | some t => t.pos | none => 0
def zcW (l : List Tok) : Nat → List (List UInt8) → PR Unit
 | p, [] => .ok () p
 | p, w :: ws => if isB l p w = true then zcW l (p + 1) ws else .stop (ziy l p) 12
def PPost {α : Type} (l : List Tok) (i nx : Nat) (val : α → D) : PR α → Out → List (Nat × Ob) → Nat → Prop
 | .ok a q, o, obs, n => o = .val (val a) ∧ obs = [(i, pOb l q)] ∧ n = nx
 | .stop pos e, o, obs, n => o = .pan (chP pos e) ∧ (∃ ob', isP l ob' ∧ obs = [(i, ob')]) ∧ n = nx
theorem zjU (l : List Tok) (p : Nat) (ws : List (List UInt8)) (i nx : Nat) (hi : i < nx) (hp : p < l.length) (hl : TokOK l) (hw : ws.length ≤ 100) :
  RetX Tryd.prog 97 [.ptr i 0, .u (.sl (ws.map fun w => [.str w]))] [(i, pOb l p)] nx (PPost l i nx (fun _ => .tup []) (zcW l p ws)) := by
 (refine RetX.of_bodyW Tryd.func97 rfl (by simp) fun Γ hn hpan => ?_); simp only [entry, List.zipIdx_cons, List.zipIdx_nil, List.map_cons, List.map_nil, Nat.zero_add, Tryd.ntmps97]
 repeat' (first
  | (refine zah ?_; simp)
  | (refine zak ?_; simp)
  | (refine zai ?_; simp)
  | (refine zam ?_; simp)
  | fail)
 refine zcR (α := { x : Nat × Nat // x.1 ≤ ws.length ∧ x.2 < l.length ∧ zcW l p ws = zcW l x.2 (ws.drop x.1) }) [0, 6, 7] (fun x => [(8, .u (.int .i64 x.1.1))]) (fun x => [(i, pOb l x.1.2)]) nx (fun x => ws.length - x.1.1) ⟨(0, p), by simp, hp, by simp⟩ ?_ ?_
 ·exact (Wk.cut rfl (by simp [hn, St.lp]) (by simp [wkO, St.lp, zaa, getK, Ob.under, D.under, zad, zaf, hi]) (by simp [wkU, St.lp, zap, zaa, getK, D.under, hi]) (by simp [wkE, St.lp, zap, zaa, getK, hi] <;> (try (intros; simp_all; done)) <;> (try (intros; omega)) <;> (try grind)))
 rintro ⟨⟨k, q⟩, h1, h2, h3⟩
 simp only at h1 h2 h3
 simp [St.lp, St.only, zap, zaa, getK]
 rcases hx : ws[k]? with _ | w
 ·have hge : ws.length ≤ k := by simpa using hx
  obtain rfl : k = ws.length := by omega
  rw [List.drop_length, zcW] at h3
  repeat' (first
  | (refine zah ?_; simp [hx])
  | (refine zak ?_; simp [hx])
  | (refine zai ?_; simp [hx])
  | (refine zba ?_; simp [zal])
  | fail)
  rw [h3]
  (refine EndW.here ?_; (first | (refine EndOK.fin (.inr rfl) ?_) | (refine EndOK.fin (.inl rfl) ?_)); simp [zay, zae, Tryd.results97]; refine FinOK.here (by simp) ?_; try simp)
  simp [PPost]
 ·have hlt : k < ws.length := (List.getElem?_eq_some_iff.1 hx).1
  have hd : ws.drop k = w :: ws.drop (k + 1) := by
   obtain ⟨h5, h6⟩ := List.getElem?_eq_some_iff.1 hx
   rw [← h6, List.getElem_cons_drop]
  rw [hd, zcW] at h3
  have hh := zbE l q w i nx hi h2 hl.len
  by_cases hb : isB l q w = true
  ·rw [if_pos hb] at h3
   rw [hb, if_pos rfl] at hh
   have hq := zcB hl hb
   have hck := zfT l (q + 1) 12 i nx hi
   repeat' (first
  | (refine zah ?_; simp [hx])
  | (refine zak ?_; simp [hx])
  | (refine ⟨by omega, ?_⟩)
  | (refine zai ?_; simp [hx])
  | (refine zas ?_; simp [hx])
  | (refine zaq ?_; simp only [zal])
  | (refine ⟨?_, by omega⟩)
  | (intro hc <;> (try (exfalso; omega)))
  | (refine CallP.ok1 (hh) (by first | (simp [hx, zaa, getK, zab, zac]; done) | fail) (by rfl) (by first | assumption | (simp; done) | fail) (by rfl) (by simp) ?_; (try simp [hx]))
  | (refine CallP.ok1 (hck) (by first | (simp [hx, zaa, getK, zab, zac]; done) | fail) (by rfl) (by first | assumption | (simp; done) | fail) (by rfl) (by simp) ?_; (try simp [hx]))
  | fail)
   refine LoopW.next ⟨(k + 1, q + 1), by omega, hq, h3⟩ (by simp; omega) ?_
   exact (Wk.cut rfl (by simp [hn, St.lp]) (by simp [wkO, St.lp, zaa, getK, Ob.under, D.under, zad, zaf, hi, zab, zac, zaa, getK]) (by simp [wkU, St.lp, zap, zaa, getK, D.under, hi, zab, zac, zaa, getK]) (by simp [wkE, St.lp, zap, zaa, getK, hi, zab, zac, zaa, getK] <;> (try (intros; simp_all; done)) <;> (try (intros; omega)) <;> (try grind)))
  ·have hb2 : isB l q w = false := by simpa using hb
   rw [if_neg hb] at h3
   rw [hb2, if_neg (by simp)] at hh
   obtain ⟨t, ht⟩ : ∃ t, l[q]? = some t := ⟨_, List.getElem?_eq_getElem h2⟩
   have hck := ze9 l q t 12 i nx hi ht hl.len
   repeat' (first
  | (refine zah ?_; simp [hx])
  | (refine zak ?_; simp [hx])
  | (refine zai ?_; simp [hx])
  | (refine zas ?_; simp [hx])
  | (refine zaq ?_; simp only [zal])
  | (refine ⟨?_, by omega⟩)
  | (intro hc <;> (try (exfalso; omega)))
  | (refine CallP.ok1 (hh) (by first | (simp [hx, zaa, getK, zab, zac]; done) | fail) (by rfl) (by first | assumption | (simp; done) | fail) (by rfl) (by simp) ?_; (try simp [hx]))
  | (refine CallP.zfc (hck) (by first | (simp [hx, zaa, getK, zab, zac]; done) | fail) (by rfl) (by first | assumption | (simp; done) | fail) (by rfl) (by simp) ?_; rintro ob' ⟨q', rfl⟩; refine ⟨_, Wk.refl _, ?_⟩)
  | fail)
   rw [h3] at hpan
   (refine hpan _ _ ⟨{ n := _, env := [], obs := [(i, pOb l q')], next := nx }, (Wk.cut rfl (by simp [hn]) (by simp [wkO, zaa, getK, zab, zac, Ob.under, D.under, zad, zaf, hi, zab, zac, zaa, getK]) (by simp [wkU, zap, zaa, getK, D.under, hi, zab, zac, zaa, getK]) (by simp [wkE, zap, zaa, getK, hi, zab, zac, zaa, getK])), by simp [hn], ?_⟩; try simp)
   all_goals exact ⟨by simp [ziy, ht], ⟨_, ⟨q', rfl⟩, rfl⟩, rfl⟩
end Go.Proofs.YtfcopibncpkdoaaDoor
namespace Go.Proofs.YtfcopibncpkdoaaDoor
open Go Go.VL
def PR.bind {α β : Type} : PR α → (α → Nat → PR β) → PR β
 | .ok a p, f => f a p
 | .stop pos e, _ => .stop pos e
theorem PR.bind_ok {α β : Type} {a : α} {p : Nat} {f : α → Nat → PR β} : (PR.ok a p).bind f = f a p := rfl
theorem PR.zaX {α β : Type} {r : PR α} {f : α → Nat → PR β} {b : β} {q : Nat} (h : r.bind f = .ok b q) : ∃ a p, r = .ok a p ∧ f a p = .ok b q := by
 cases r with
 | ok a p => exact ⟨a, p, rfl, h⟩
 | stop => cases h
theorem PPost.zdF {α : Type} {l i nx} {val : α → D} {r : PR α} {a : α} {q : Nat} (h : r = .ok a q) {d : D} (hd : d = val a) {o : List (Nat × Ob)} (ho : o = [(i, pOb l q)]) : PPost l i nx val r (.val d) o nx := by
 subst h; subst hd; subst ho; exact ⟨rfl, rfl, rfl⟩
theorem PPost.zbn {α : Type} {l i nx} {val : α → D} {r : PR α} {pos e : Int} {q : Nat} (h : r = .stop pos e) : PPost l i nx val r (.pan (chP pos e)) [(i, pOb l q)] nx := by
 subst h; exact ⟨rfl, ⟨_, ⟨q, rfl⟩, rfl⟩, rfl⟩
structure Opr where
 text : List UInt8
 op : Int
 form : Int
def oprs : List Opr := [⟨[111, 114], 11, 1⟩, ⟨[97, 110, 100], 10, 2⟩, ⟨[61, 61], 9, 4⟩, ⟨[60], 8, 4⟩, ⟨[43], 2, 5⟩, ⟨[45], 3, 5⟩, ⟨[42], 4, 6⟩, ⟨[47], 5, 6⟩]
def zpk (l : List Tok) (p : Nat) : Option Opr := oprs.find? fun o => isB l p o.text
def zkH (l : List Tok) (p : Nat) : PR Int :=
 if isB l p [99, 111, 105, 110, 115] = true then .ok 3 (p + 1)
 else if isB l p [100, 97, 121, 115] = true then .ok 2 (p + 1)
 else if isB l p [112, 101, 114] = true then (zcW l (p + 1) [[109, 105, 108, 108, 101]]).bind fun _ q => .ok 4 q
 else .ok 1 p
mutual
def zeM (l : List Tok) : Nat → Nat → Int → PR Exp
 | 0, _, _ => .stop 0 0
 | f + 1, p, form => (zbZ l f p form).bind fun e q => zfG l f form e.1 e.2 q
def zfG (l : List Tok) : Nat → Int → Exp → Int → Nat → PR Exp
 | 0, _, _, _, _ => .stop 0 0
 | f + 1, form, e, own, q => match zpk l q with
  | none => .ok e q
  | some x => if x.form < form ∨ own < x.form ∨ (own = 4 ∧ x.form = 4) then .ok e q
   else (zeM l f (q + 1) (x.form + 1)).bind fun e2 r => zfG l f form (.mk x.op 0 0 [] [e, e2]) x.form r
def zbZ (l : List Tok) : Nat → Nat → Int → PR (Exp × Int)
 | 0, _, _ => .stop 0 0
 | f + 1, p, form =>
  if form = 0 ∧ isB l p [105, 102] = true then
   (zeM l f (p + 1) 0).bind fun a q1 => (zcW l q1 [[116, 104, 101, 110]]).bind fun _ q2 => (zeM l f q2 0).bind fun b q3 =>
   (zcW l q3 [[101, 108, 115, 101]]).bind fun _ q4 => (zeM l f q4 0).bind fun c q5 => .ok (.mk 13 0 0 [] [a, b, c], 0) q5
  else if form ≤ 3 ∧ isB l p [110, 111, 116] = true then (zeM l f (p + 1) 3).bind fun a q => .ok (.mk 12 0 0 [] [a], 3) q
  else (zbf l f p).bind fun e q => .ok (e, 7) q
def zbf (l : List Tok) : Nat → Nat → PR Exp
 | 0, _ => .stop 0 0
 | f + 1, p => match l[p]? with
  | none => .stop 0 0
  | some t =>
   if t.kind = 2 then (zkH l (p + 1)).bind fun u q => .ok (.mk 0 t.n u [] []) q
   else if isB l p [116, 114, 117, 101] = true then .ok (.mk 0 1 0 [] []) (p + 1)
   else if isB l p [102, 97, 108, 115, 101] = true then .ok (.mk 0 0 0 [] []) (p + 1)
   else if isB l p [109, 105, 110] = true ∨ isB l p [109, 97, 120] = true then
    (zcW l (p + 1) [[40]]).bind fun _ q1 => (zeM l f q1 0).bind fun a q2 => (zcW l q2 [[44]]).bind fun _ q3 => (zeM l f q3 0).bind fun b q4 =>
    (zcW l q4 [[41]]).bind fun _ q5 => .ok (.mk (if isB l p [109, 97, 120] = true then 7 else 6) 0 0 [] [a, b]) q5
   else if isB l p [40] = true then (zeM l f (p + 1) 0).bind fun e q1 => (zcW l q1 [[41]]).bind fun _ q2 => .ok e q2
   else if t.kind = 1 ∧ zeW t.text = true then .ok (.mk 1 0 0 t.text []) (p + 1)
   else .stop t.pos 12
end
theorem zb3 {l : List Tok} (hl : TokOK l) : ∀ (ws : List (List UInt8)) {p q : Nat}, zcW l p ws = .ok () q → p < l.length → p ≤ q ∧ q < l.length
 | [], p, q, h, hp => by rw [zcW] at h; cases h; exact ⟨Nat.le_refl _, hp⟩
 | w :: ws, p, q, h, hp => by
  rw [zcW] at h
  split at h
  ·rename_i hb
   have := zb3 hl ws h (zcB hl hb)
   exact ⟨by omega, this.2⟩
  ·cases h
theorem zm4 {l : List Tok} (hl : TokOK l) {p q : Nat} {u : Int} (h : zkH l p = .ok u q) (hp : p < l.length) : p ≤ q ∧ q < l.length := by
 unfold zkH at h
 split at h
 ·rename_i hb; cases h; exact ⟨by omega, zcB hl hb⟩
 ·split at h
  ·rename_i hb; cases h; exact ⟨by omega, zcB hl hb⟩
  ·split at h
   ·rename_i hb
    obtain ⟨a, r, h1, h2⟩ := PR.zaX h
    cases h2
    have := zb3 hl _ h1 (zcB hl hb)
    exact ⟨by omega, this.2⟩
   ·cases h; exact ⟨by omega, hp⟩
theorem zcD {l : List Tok} (hl : TokOK l) : ∀ (f : Nat),
  (∀ p form e q, zeM l f p form = .ok e q → p < l.length → p ≤ q ∧ q < l.length) ∧
  (∀ form e own p e' q, zfG l f form e own p = .ok e' q → p < l.length → p ≤ q ∧ q < l.length) ∧
  (∀ p form e q, zbZ l f p form = .ok e q → p < l.length → p ≤ q ∧ q < l.length) ∧
  (∀ p e q, zbf l f p = .ok e q → p < l.length → p ≤ q ∧ q < l.length)
 | 0 => ⟨fun _ _ _ _ h => by simp [zeM] at h, fun _ _ _ _ _ _ h => by simp [zfG] at h, fun _ _ _ _ h => by simp [zbZ] at h, fun _ _ _ h => by simp [zbf] at h⟩
 | f + 1 => by
  obtain ⟨he, hlo, hpr, hpm⟩ := zcD hl f
  refine ⟨fun p form e q h hp => ?_, fun form e own p e' q h hp => ?_, fun p form e q h hp => ?_, fun p e q h hp => ?_⟩
  ·rw [zeM] at h
   obtain ⟨a, r, h1, h2⟩ := PR.zaX h
   have g1 := hpr _ _ _ _ h1 hp
   have g2 := hlo _ _ _ _ _ _ h2 g1.2
   exact ⟨by omega, g2.2⟩
  ·rw [zfG] at h
   split at h
   ·cases h; exact ⟨by omega, hp⟩
   ·rename_i x hx
    have hb := List.find?_some hx
    have hp2 := zcB hl hb
    split at h
    ·cases h; exact ⟨by omega, hp⟩
    ·obtain ⟨a, r, h1, h2⟩ := PR.zaX h
     have g1 := he _ _ _ _ h1 hp2
     have g2 := hlo _ _ _ _ _ _ h2 g1.2
     exact ⟨by omega, g2.2⟩
  ·rw [zbZ] at h
   split at h
   ·rename_i hb
    have hp2 := zcB hl hb.2
    obtain ⟨a, r, h1, h⟩ := PR.zaX h
    have g1 := he _ _ _ _ h1 hp2
    obtain ⟨_, r2, h2, h⟩ := PR.zaX h
    have g2 := zb3 hl _ h2 g1.2
    obtain ⟨a, r3, h3, h⟩ := PR.zaX h
    have g3 := he _ _ _ _ h3 g2.2
    obtain ⟨_, r4, h4, h⟩ := PR.zaX h
    have g4 := zb3 hl _ h4 g3.2
    obtain ⟨a, r5, h5, h⟩ := PR.zaX h
    have g5 := he _ _ _ _ h5 g4.2
    cases h
    exact ⟨by omega, g5.2⟩
   ·split at h
    ·rename_i hb
     have hp2 := zcB hl hb.2
     obtain ⟨a, r, h1, h⟩ := PR.zaX h
     have g1 := he _ _ _ _ h1 hp2
     cases h
     exact ⟨by omega, g1.2⟩
    ·obtain ⟨a, r, h1, h⟩ := PR.zaX h
     have g1 := hpm _ _ _ h1 hp
     cases h
     exact g1
  ·rw [zbf] at h
   split at h
   ·cases h
   ·rename_i t ht
    split at h
    ·rename_i hk
     have hp2 := hl.fin p t ht (by omega)
     obtain ⟨a, r, h1, h⟩ := PR.zaX h
     have g1 := zm4 hl h1 hp2
     cases h
     exact ⟨by omega, g1.2⟩
    split at h
    ·rename_i hb; cases h; exact ⟨by omega, zcB hl hb⟩
    split at h
    ·rename_i hb; cases h; exact ⟨by omega, zcB hl hb⟩
    split at h
    ·rename_i hb
     have hp2 : p + 1 < l.length := hb.elim (zcB hl) (zcB hl)
     obtain ⟨_, r2, h2, h⟩ := PR.zaX h
     have g2 := zb3 hl _ h2 hp2
     obtain ⟨a, r3, h3, h⟩ := PR.zaX h
     have g3 := he _ _ _ _ h3 g2.2
     obtain ⟨_, r4, h4, h⟩ := PR.zaX h
     have g4 := zb3 hl _ h4 g3.2
     obtain ⟨a, r5, h5, h⟩ := PR.zaX h
     have g5 := he _ _ _ _ h5 g4.2
     obtain ⟨_, r6, h6, h⟩ := PR.zaX h
     have g6 := zb3 hl _ h6 g5.2
     cases h
     exact ⟨by omega, g6.2⟩
    split at h
    ·rename_i hb
     have hp2 := zcB hl hb
     obtain ⟨a, r3, h3, h⟩ := PR.zaX h
     have g3 := he _ _ _ _ h3 hp2
     obtain ⟨_, r4, h4, h⟩ := PR.zaX h
     have g4 := zb3 hl _ h4 g3.2
     cases h
     exact ⟨by omega, g4.2⟩
    split at h
    ·rename_i hk
     cases h
     exact ⟨by omega, hl.fin p t ht (by omega)⟩
    ·cases h
end Go.Proofs.YtfcopibncpkdoaaDoor
namespace Go.Proofs.YtfcopibncpkdoaaDoor
open Go Go.VL
attribute [local simp] HS zcp zbN evPure opd uOf zaB St.put St.at getK binD binI binS binB nilD aggD zeJ ze8 lookD lookR zbT Go.VL.nextD zbY zfe zfd zev zbM mkV zaW zaP zaO zaN zcm zaM za1 zbc mapEff zcS zek Key.kk shiftI arith unD convD zcP loadD cellsAt fieldAddrD fieldD indexAddrD indexD sliceD cutD lenD minmaxD nilCheckD buildD fillD zbt zcq zdR setAll zcg zdy zbQ zeN zbO St.add zaC zbj rowsOf zcM zce zaj zac zaa za5 zcl zaH entry za4 za6 valD zbS zb7 zez zct zcu zbx zbs zav zaT za7 delAll effD St.effS zb9 zaQ zaI zca zaR zaK zby zaJ zaD zbz zb8 zbb zbw zaZ zbu zbv zat mkD zbk zbd zbB zav zbP D.ids Op.operands Call.operands za8 makeIfD typeAssertD ze6 zcH zcI zeR zbV IntKind.bits zch List.take_of_length_le List.range_succ
attribute [local irreducible] V G H HD HD2 HD4 zhn RetX zal Eff CallP CallV EndOK Fun Ret FinOK LoopI LoopW EndW
abbrev zmY (e : Exp) : D := .u (.agg e.row)
abbrev zmX (n : Int) : D := .u (.int .i64 n)
theorem zbh {i nx : Nat} (h : i < nx) : ¬ i = nx ∧ ¬ nx = i ∧ (∀ k, ¬ i = nx + k) ∧ ∀ k, ¬ nx + k = i := ⟨by omega, by omega, fun k => by omega, fun k => by omega⟩
theorem zm3 (l : List Tok) (p : Nat) (i nx : Nat) (hi : i < nx) (hp : p < l.length) (hl : TokOK l) :
  RetX Tryd.prog 115 [.ptr i 0] [(i, pOb l p)] nx (PPost l i nx zmX (zkH l p)) := by
 have hne := zbh hi
 have hh1 := fun nx' (h : nx ≤ nx') => zbE l p [99, 111, 105, 110, 115] i nx' (by omega) hp hl.len
 have hh2 := fun nx' (h : nx ≤ nx') => zbE l p [100, 97, 121, 115] i nx' (by omega) hp hl.len
 have hh3 := fun nx' (h : nx ≤ nx') => zbE l p [112, 101, 114] i nx' (by omega) hp hl.len
 unfold zkH
 by_cases h1 : isB l p [99, 111, 105, 110, 115] = true
 ·simp only [h1, if_true] at hh1 ⊢
  (refine RetX.of_bodyW Tryd.func115 rfl (by simp) fun Γ hn hpan => ?_); simp only [entry, List.zipIdx_cons, List.zipIdx_nil, List.map_cons, List.map_nil, Nat.zero_add, Tryd.ntmps115]
  repeat' (first
  | (refine zah ?_; simp [hne])
  | (refine zak ?_; simp [hne])
  | (refine zai ?_; simp [hne])
  | (refine zag ?_; simp [hne])
  | (refine zar ?_; simp only [zal])
  | (refine CallP.ok1 (hh1 _ (by first | omega | (simp; done) | (simp; omega) | fail)) (by first | (simp [hne, zaa, getK, zab, zac]; done) | fail) (by rfl) (by first | assumption | (simp; done) | fail) (by rfl) (by simp) ?_; (try simp [hne]))
  | fail)
  (refine EndW.here ?_; (first | (refine EndOK.fin (.inr rfl) ?_) | (refine EndOK.fin (.inl rfl) ?_)); simp [zay, zae, Tryd.results115]; refine FinOK.here (by simp) ?_; try simp)
  exact PPost.zdF rfl rfl (by first | rfl | simp [del])
 ·simp only [h1, Bool.false_eq_true, if_false] at hh1 ⊢
  by_cases h2 : isB l p [100, 97, 121, 115] = true
  ·simp only [h2, if_true] at hh2 ⊢
   (refine RetX.of_bodyW Tryd.func115 rfl (by simp) fun Γ hn hpan => ?_); simp only [entry, List.zipIdx_cons, List.zipIdx_nil, List.map_cons, List.map_nil, Nat.zero_add, Tryd.ntmps115]
   repeat' (first
  | (refine zah ?_; simp [hne])
  | (refine zak ?_; simp [hne])
  | (refine zai ?_; simp [hne])
  | (refine zag ?_; simp [hne])
  | (refine zar ?_; simp only [zal])
  | (refine CallP.ok1 (hh1 _ (by first | omega | (simp; done) | (simp; omega) | fail)) (by first | (simp [hne, zaa, getK, zab, zac]; done) | fail) (by rfl) (by first | assumption | (simp; done) | fail) (by rfl) (by simp) ?_; (try simp [hne]))
  | (refine CallP.ok1 (hh2 _ (by first | omega | (simp; done) | (simp; omega) | fail)) (by first | (simp [hne, zaa, getK, zab, zac]; done) | fail) (by rfl) (by first | assumption | (simp; done) | fail) (by rfl) (by simp) ?_; (try simp [hne]))
  | fail)
   (refine EndW.here ?_; (first | (refine EndOK.fin (.inr rfl) ?_) | (refine EndOK.fin (.inl rfl) ?_)); simp [zay, zae, Tryd.results115]; refine FinOK.here (by simp) ?_; try simp)
   exact PPost.zdF rfl rfl (by first | rfl | simp [del])
  ·simp only [h2, Bool.false_eq_true, if_false] at hh2 ⊢
   by_cases h3 : isB l p [112, 101, 114] = true
   ·simp only [h3, if_true] at hh3 ⊢
    have hw := fun nx' (h : nx ≤ nx') => zjU l (p + 1) [[109, 105, 108, 108, 101]] i nx' (by omega) (zcB hl h3) hl (by simp)
    cases hr : zcW l (p + 1) [[109, 105, 108, 108, 101]] with
    | ok a q =>
     simp only [hr, List.map_cons, List.map_nil] at hw
     (refine RetX.of_bodyW Tryd.func115 rfl (by simp) fun Γ hn hpan => ?_); simp only [entry, List.zipIdx_cons, List.zipIdx_nil, List.map_cons, List.map_nil, Nat.zero_add, Tryd.ntmps115]
     repeat' (first
  | (refine zah ?_; simp [hne])
  | (refine zak ?_; simp [hne])
  | (refine zai ?_; simp [hne])
  | (refine zag ?_; simp [hne])
  | (refine zar ?_; simp only [zal])
  | (refine CallP.ok1 (hh1 _ (by first | omega | (simp; done) | (simp; omega) | fail)) (by first | (simp [hne, zaa, getK, zab, zac]; done) | fail) (by rfl) (by first | assumption | (simp; done) | fail) (by rfl) (by simp) ?_; (try simp [hne]))
  | (refine CallP.ok1 (hh2 _ (by first | omega | (simp; done) | (simp; omega) | fail)) (by first | (simp [hne, zaa, getK, zab, zac]; done) | fail) (by rfl) (by first | assumption | (simp; done) | fail) (by rfl) (by simp) ?_; (try simp [hne]))
  | (refine CallP.ok1 (hh3 _ (by first | omega | (simp; done) | (simp; omega) | fail)) (by first | (simp [hne, zaa, getK, zab, zac]; done) | fail) (by rfl) (by first | assumption | (simp; done) | fail) (by rfl) (by simp) ?_; (try simp [hne]))
  | (refine CallP.ok1 (hw _ (by first | omega | (simp; done) | (simp; omega) | fail)) (by first | (simp [hne, zaa, getK, zab, zac]; done) | fail) (by rfl) (by first | assumption | (simp; done) | fail) (by rfl) (by simp) ?_; (try simp [hne]))
  | (refine za2 (by first | rfl | fail) ?_; simp [hne, frzN, frz1, zaV, zaU, St.frz, St.frzS, frzS, fv, zbH, zbJ, zbK, zaY, zaF, zaA, del, frz, zb2])
  | fail)
     (refine EndW.wk { n := _, env := [(2, zmX 4)], obs := [(i, pOb l q)], next := nx } (Wk.cut rfl (by simp [hn]) (by simp [wkO, zaa, getK, zab, zac, Ob.under, D.under, zad, zaf, hne, hi]) (by simp [wkU, zap, zaa, getK, D.under, hne, hi]) (by simp [wkE, zap, zaa, getK, hne, hi])) (EndW.here ?_); (first | (refine EndOK.fin (.inr rfl) ?_) | (refine EndOK.fin (.inl rfl) ?_)); simp [zay, zae, Tryd.results115]; refine FinOK.here (by simp) ?_; try simp)
     exact PPost.zdF rfl rfl (by first | rfl | simp [del])
    | stop pos e =>
     simp only [hr, List.map_cons, List.map_nil] at hw
     (refine RetX.of_bodyW Tryd.func115 rfl (by simp) fun Γ hn hpan => ?_); simp only [entry, List.zipIdx_cons, List.zipIdx_nil, List.map_cons, List.map_nil, Nat.zero_add, Tryd.ntmps115]
     repeat' (first
  | (refine zah ?_; simp [hne])
  | (refine zak ?_; simp [hne])
  | (refine zai ?_; simp [hne])
  | (refine zag ?_; simp [hne])
  | (refine CallP.ok1 (hh1 _ (by first | omega | (simp; done) | (simp; omega) | fail)) (by first | (simp [hne, zaa, getK, zab, zac]; done) | fail) (by rfl) (by first | assumption | (simp; done) | fail) (by rfl) (by simp) ?_; (try simp [hne]))
  | (refine CallP.ok1 (hh2 _ (by first | omega | (simp; done) | (simp; omega) | fail)) (by first | (simp [hne, zaa, getK, zab, zac]; done) | fail) (by rfl) (by first | assumption | (simp; done) | fail) (by rfl) (by simp) ?_; (try simp [hne]))
  | (refine CallP.ok1 (hh3 _ (by first | omega | (simp; done) | (simp; omega) | fail)) (by first | (simp [hne, zaa, getK, zab, zac]; done) | fail) (by rfl) (by first | assumption | (simp; done) | fail) (by rfl) (by simp) ?_; (try simp [hne]))
  | (refine CallP.zfc (hw _ (by first | omega | (simp; done) | (simp; omega) | fail)) (by first | (simp [hne, zaa, getK, zab, zac]; done) | fail) (by rfl) (by first | assumption | (simp; done) | fail) (by rfl) (by simp) ?_; rintro ob' ⟨q', rfl⟩; refine ⟨_, Wk.refl _, ?_⟩)
  | (refine za2 (by first | rfl | fail) ?_; simp [hne, frzN, frz1, zaV, zaU, St.frz, St.frzS, frzS, fv, zbH, zbJ, zbK, zaY, zaF, zaA, del, frz, zb2])
  | fail)
     (refine hpan _ _ ⟨{ n := _, env := [], obs := [(i, pOb l q')], next := nx }, (Wk.cut rfl (by simp [hn]) (by simp [wkO, zaa, getK, zab, zac, Ob.under, D.under, zad, zaf, hi, zab, zac, zaa, getK]) (by simp [wkU, zap, zaa, getK, D.under, hi, zab, zac, zaa, getK]) (by simp [wkE, zap, zaa, getK, hi, zab, zac, zaa, getK])), by simp [hn], ?_⟩; try simp)
     exact PPost.zbn rfl
   ·simp only [h3, Bool.false_eq_true, if_false] at hh3 ⊢
    (refine RetX.of_bodyW Tryd.func115 rfl (by simp) fun Γ hn hpan => ?_); simp only [entry, List.zipIdx_cons, List.zipIdx_nil, List.map_cons, List.map_nil, Nat.zero_add, Tryd.ntmps115]
    repeat' (first
  | (refine zah ?_; simp [hne])
  | (refine zak ?_; simp [hne])
  | (refine zai ?_; simp [hne])
  | (refine zag ?_; simp [hne])
  | (refine zar ?_; simp only [zal])
  | (refine zaq ?_; simp only [zal])
  | (refine CallP.ok1 (hh1 _ (by first | omega | (simp; done) | (simp; omega) | fail)) (by first | (simp [hne, zaa, getK, zab, zac]; done) | fail) (by rfl) (by first | assumption | (simp; done) | fail) (by rfl) (by simp) ?_; (try simp [hne]))
  | (refine CallP.ok1 (hh2 _ (by first | omega | (simp; done) | (simp; omega) | fail)) (by first | (simp [hne, zaa, getK, zab, zac]; done) | fail) (by rfl) (by first | assumption | (simp; done) | fail) (by rfl) (by simp) ?_; (try simp [hne]))
  | (refine CallP.ok1 (hh3 _ (by first | omega | (simp; done) | (simp; omega) | fail)) (by first | (simp [hne, zaa, getK, zab, zac]; done) | fail) (by rfl) (by first | assumption | (simp; done) | fail) (by rfl) (by simp) ?_; (try simp [hne]))
  | fail)
    (refine EndW.here ?_; (first | (refine EndOK.fin (.inr rfl) ?_) | (refine EndOK.fin (.inl rfl) ?_)); simp [zay, zae, Tryd.results115]; refine FinOK.here (by simp) ?_; try simp)
    exact PPost.zdF rfl rfl (by first | rfl | simp [del])
abbrev ziD (e : Exp × Int) : D := .tup [.u (.agg e.1.row), .u (.int .i64 e.2)]
def zgB (l : List Tok) (f : Nat) : Prop := ∀ (p : Nat) (form : Int) (i nx : Nat), i < nx → p < l.length → 4 * (l.length - p) + 3 ≤ f → 0 ≤ form → form ≤ 7 →
 RetX Tryd.prog 41 [.ptr i 0, zmX form] [(i, pOb l p)] nx (PPost l i nx zmY (zeM l f p form))
def zoY (l : List Tok) (f : Nat) : Prop := ∀ (p : Nat) (form : Int) (i nx : Nat), i < nx → p < l.length → 4 * (l.length - p) + 2 ≤ f → 0 ≤ form → form ≤ 7 →
 RetX Tryd.prog 67 [.ptr i 0, zmX form] [(i, pOb l p)] nx (PPost l i nx ziD (zbZ l f p form))
def zhm (l : List Tok) (f : Nat) : Prop := ∀ (p : Nat) (i nx : Nat), i < nx → p < l.length → 4 * (l.length - p) + 1 ≤ f →
 RetX Tryd.prog 98 [.ptr i 0] [(i, pOb l p)] nx (PPost l i nx zmY (zbf l f p))
theorem zhp {l : List Tok} (hl : TokOK l) (w : List UInt8) {q i nx : Nat} (hi : i < nx) (hq : q < l.length) :
  RetX Tryd.prog 97 [.ptr i 0, .u (.sl [[.str w]])] [(i, pOb l q)] nx (PPost l i nx (fun _ => .tup []) (zcW l q [w])) := zjU l q [w] i nx hi hq hl (by simp)
theorem zjs {l : List Tok} (hl : TokOK l) {f p : Nat} {t : Tok} (ht : l[p]? = some t) (hk : t.kind = 2) {i nx : Nat} (hi : i < nx) :
  RetX Tryd.prog 98 [.ptr i 0] [(i, pOb l p)] nx (PPost l i nx zmY (zbf l (f + 1) p)) := by
 have hne := zbh hi
 have hp := (List.getElem?_eq_some_iff.1 ht).1
 have hnx := zcw l p t ht hl.len
 have hp2 := hl.fin p t ht (by omega)
 have hll := hl.len
 rw [zbf, ht]
 simp only [hk, if_true] at hnx ⊢
 have hu := fun nx' (h : nx ≤ nx') => zm3 l (p + 1) i nx' (by omega) hp2 hl
 cases hr : zkH l (p + 1) with
 | ok a q =>
  simp only [hr] at hu
  (refine RetX.of_bodyW Tryd.func98 rfl (by simp) fun Γ hn hpan => ?_); simp only [entry, List.zipIdx_cons, List.zipIdx_nil, List.map_cons, List.map_nil, Nat.zero_add, Tryd.ntmps98]
  repeat' (first
  | (refine zh3 (fun nx' h' => hu nx' (by simp at h'; omega)) (by first | (simp [hne, zaa, getK, zab, zac, zaj, zat]; done) | fail) (by rfl) (by first | assumption | simp) (by rfl) (by simp [D.under, Ob.under]) (by simp) ?_; (try simp [hne]))
  | (refine zah ?_; simp [hne])
  | (refine zbo rfl ?_; simp [hne])
  | (refine zd7 rfl ?_; simp [hne])
  | (refine zak ?_; simp [hne])
  | (refine ⟨by omega, ?_⟩)
  | (refine zai ?_; simp [hne])
  | (refine zag ?_; simp [hne])
  | (refine zb1 (hC _ (zbg [i] nx (by simp <;> omega) (by simp <;> omega) (by apply Exists.intro; apply And.intro; (focus (repeat' (first | exact KF.nil | exact KL.nil | apply KF.cons | apply KL.cons 0 rfl | apply KL.cons 1 rfl | apply KL.cons 2 rfl | apply KL.cons 3 rfl | apply KL.cons 4 rfl | apply KL.cons 5 rfl | apply KL.cons 6 rfl | apply KL.cons 7 rfl | apply KL.cons 8 rfl | apply KL.cons 9 rfl))); kernel_rfl))) (hk _ ?_); clear hC hk C k; simp only [zal])
  | (refine zbm rfl (by kernel_rfl) (by first | (simp [hn]; done) | (simp [hn]; omega) | fail) fun C k hC hk => ?_; simp [hne])
  | (refine zar ?_; simp only [zal])
  | (refine CallP.fun_ (hnx) (by first | rfl | fail) (by first | assumption | (simp; done) | fail) (by first | (simp [hne]; done) | (simp [hne]; rfl) | fail) (by first | (simp; done) | fail) (fun d hd => ?_); subst hd; (try simp [hne]))
  | fail)
  refine EndW.norm ?_
  simp [St.norm, zbq, zcf, zcy, zcz, hne]
  (refine EndW.here ?_; (first | (refine EndOK.fin (.inr rfl) ?_) | (refine EndOK.fin (.inl rfl) ?_)); simp [zay, zae, Tryd.results98, hne, hi]; refine FinOK.cut [(i, pOb l q)] (nx) (by simp [zaa, getK, zab, zac, Ob.under, D.under, zad, zaf, hne, hi] <;> omega) (by simp [D.under]) (by simp [hn]) ?_; try simp)
  exact PPost.zdF rfl (by simp [Exp.row]) rfl
 | stop pos e =>
  simp only [hr] at hu
  (refine RetX.of_bodyW Tryd.func98 rfl (by simp) fun Γ hn hpan => ?_); simp only [entry, List.zipIdx_cons, List.zipIdx_nil, List.map_cons, List.map_nil, Nat.zero_add, Tryd.ntmps98]
  repeat' (first
  | (refine zfX (fun nx' h' => hu nx' (by simp at h'; omega)) (by first | (simp [hne, zaa, getK, zab, zac, zaj, zat]; done) | fail) (by rfl) (by first | assumption | simp) (by rfl) (by simp) ?_ ?_; rintro env' ob' n' hn' ⟨q', rfl⟩; refine ⟨_, Wk.refl _, ?_⟩)
  | (refine zfb rfl (by simp) ?_; simp)
  | (refine zah ?_; simp [hne])
  | (refine zbo rfl ?_; simp [hne])
  | (refine zak ?_; simp [hne])
  | (refine ⟨by omega, ?_⟩)
  | (refine zai ?_; simp [hne])
  | (refine zag ?_; simp [hne])
  | (refine zdB (hC _ (zbg [i] nx (by simp <;> omega) (by simp <;> omega) (by apply Exists.intro; apply And.intro; (focus (repeat' (first | exact KF.nil | exact KL.nil | apply KF.cons | apply KL.cons 0 rfl | apply KL.cons 1 rfl | apply KL.cons 2 rfl | apply KL.cons 3 rfl | apply KL.cons 4 rfl | apply KL.cons 5 rfl | apply KL.cons 6 rfl | apply KL.cons 7 rfl | apply KL.cons 8 rfl | apply KL.cons 9 rfl))); kernel_rfl))) rfl; done)
  | (refine zbm rfl (by kernel_rfl) (by first | (simp [hn]; done) | (simp [hn]; omega) | fail) fun C k hC hk => ?_; simp [hne])
  | (refine CallP.fun_ (hnx) (by first | rfl | fail) (by first | assumption | (simp; done) | fail) (by first | (simp [hne]; done) | (simp [hne]; rfl) | fail) (by first | (simp; done) | fail) (fun d hd => ?_); subst hd; (try simp [hne]))
  | fail)
  (refine hpan _ _ ⟨{ n := _, env := [], obs := [(i, pOb l q')], next := nx }, (Wk.cut rfl (by simp [hn]) (by simp [wkO, zaa, getK, zab, zac, Ob.under, D.under, zad, zaf, hi, hne, zab, zac, zaa, getK]) (by simp [wkU, zap, zaa, getK, D.under, hi, hne, zab, zac, zaa, getK]) (by simp [wkE, zap, zaa, getK, hi, hne, zab, zac, zaa, getK])), by simp [hn], ?_⟩; try simp)
  exact PPost.zbn (by simp [PR.bind])
theorem zis {l : List Tok} (hl : TokOK l) {f p : Nat} {t : Tok} (ht : l[p]? = some t) (hk : ¬ t.kind = 2) (h1 : isB l p [116, 114, 117, 101] = true) {i nx : Nat} (hi : i < nx) :
  RetX Tryd.prog 98 [.ptr i 0] [(i, pOb l p)] nx (PPost l i nx zmY (zbf l (f + 1) p)) := by
 have hne := zbh hi
 have hp := (List.getElem?_eq_some_iff.1 ht).1
 have hnx := zcw l p t ht hl.len
 have hll := hl.len
 rw [zbf, ht]
 have hh1 := fun nx' (h : nx ≤ nx') => zbE l p [116, 114, 117, 101] i nx' (by omega) hp hl.len
 simp only [hk, h1, if_false, if_true] at hh1 ⊢
 (refine RetX.of_bodyW Tryd.func98 rfl (by simp) fun Γ hn hpan => ?_); simp only [entry, List.zipIdx_cons, List.zipIdx_nil, List.map_cons, List.map_nil, Nat.zero_add, Tryd.ntmps98]
 repeat' (first
  | (refine zah ?_; simp [hne, hk, del])
  | (refine zak ?_; simp [hne, hk, del])
  | (refine zai ?_; simp [hne, hk, del])
  | (refine zag ?_; simp [hne, hk, del])
  | (refine zar ?_; simp only [zal])
  | (refine CallP.fun_ (hnx) (by first | rfl | fail) (by first | assumption | (simp; done) | fail) (by first | (simp [hne, hk, del]; done) | (simp [hne, hk, del]; rfl) | fail) (by first | (simp; done) | fail) (fun d hd => ?_); subst hd; (try simp [hne, hk, del]))
  | (refine CallP.ok1 (hh1 _ (by first | omega | (simp; done) | (simp; omega) | fail)) (by first | (simp [hne, hk, del, zaa, getK, zab, zac]; done) | fail) (by rfl) (by first | assumption | (simp; done) | fail) (by rfl) (by simp) ?_; (try simp [hne, hk, del]))
  | fail)
 refine EndW.norm ?_
 simp [St.norm, zbq, zcf, zcy, zcz, hne]
 (refine EndW.here ?_; (first | (refine EndOK.fin (.inr rfl) ?_) | (refine EndOK.fin (.inl rfl) ?_)); simp [zay, zae, Tryd.results98, hne, hi]; refine FinOK.cut [(i, pOb l (p + 1))] (nx) (by simp [zaa, getK, zab, zac, Ob.under, D.under, zad, zaf, hne, hi] <;> omega) (by simp [D.under]) (by simp [hn]) ?_; try simp)
 exact PPost.zdF rfl (by simp [Exp.row]) rfl
theorem zhD {l : List Tok} (hl : TokOK l) {f p : Nat} {t : Tok} (ht : l[p]? = some t) (hk : ¬ t.kind = 2) (h1 : isB l p [116, 114, 117, 101] = false) (h2 : isB l p [102, 97, 108, 115, 101] = true) {i nx : Nat} (hi : i < nx) :
  RetX Tryd.prog 98 [.ptr i 0] [(i, pOb l p)] nx (PPost l i nx zmY (zbf l (f + 1) p)) := by
 have hne := zbh hi
 have hp := (List.getElem?_eq_some_iff.1 ht).1
 have hnx := zcw l p t ht hl.len
 have hll := hl.len
 rw [zbf, ht]
 have hh1 := fun nx' (h : nx ≤ nx') => zbE l p [116, 114, 117, 101] i nx' (by omega) hp hl.len
 have hh2 := fun nx' (h : nx ≤ nx') => zbE l p [102, 97, 108, 115, 101] i nx' (by omega) hp hl.len
 simp only [hk, h1, h2, if_false, if_true, Bool.false_eq_true] at hh1 hh2 ⊢
 (refine RetX.of_bodyW Tryd.func98 rfl (by simp) fun Γ hn hpan => ?_); simp only [entry, List.zipIdx_cons, List.zipIdx_nil, List.map_cons, List.map_nil, Nat.zero_add, Tryd.ntmps98]
 repeat' (first
  | (refine zah ?_; simp [hne, hk, del])
  | (refine zak ?_; simp [hne, hk, del])
  | (refine zai ?_; simp [hne, hk, del])
  | (refine zag ?_; simp [hne, hk, del])
  | (refine zar ?_; simp only [zal])
  | (refine CallP.fun_ (hnx) (by first | rfl | fail) (by first | assumption | (simp; done) | fail) (by first | (simp [hne, hk, del]; done) | (simp [hne, hk, del]; rfl) | fail) (by first | (simp; done) | fail) (fun d hd => ?_); subst hd; (try simp [hne, hk, del]))
  | (refine CallP.ok1 (hh1 _ (by first | omega | (simp; done) | (simp; omega) | fail)) (by first | (simp [hne, hk, del, zaa, getK, zab, zac]; done) | fail) (by rfl) (by first | assumption | (simp; done) | fail) (by rfl) (by simp) ?_; (try simp [hne, hk, del]))
  | (refine CallP.ok1 (hh2 _ (by first | omega | (simp; done) | (simp; omega) | fail)) (by first | (simp [hne, hk, del, zaa, getK, zab, zac]; done) | fail) (by rfl) (by first | assumption | (simp; done) | fail) (by rfl) (by simp) ?_; (try simp [hne, hk, del]))
  | fail)
 refine EndW.norm ?_
 simp [St.norm, zbq, zcf, zcy, zcz, hne]
 (refine EndW.here ?_; (first | (refine EndOK.fin (.inr rfl) ?_) | (refine EndOK.fin (.inl rfl) ?_)); simp [zay, zae, Tryd.results98, hne, hi]; refine FinOK.cut [(i, pOb l (p + 1))] (nx) (by simp [zaa, getK, zab, zac, Ob.under, D.under, zad, zaf, hne, hi] <;> omega) (by simp [D.under]) (by simp [hn]) ?_; try simp)
 exact PPost.zdF rfl (by simp [Exp.row]) rfl
theorem zdr {l : List Tok} {F : FuncId} {r : PR Exp} {e : Exp} {q i nx : Nat} {ds : List D} {obs : List (Nat × Ob)} (h : RetX Tryd.prog F ds obs nx (PPost l i nx zmY r)) (hr : r = .ok e q) :
  RetX Tryd.prog F ds obs nx fun r o n => r = .val (.u (.agg [.int .i64 e.op, .int .i64 e.n, .int .i64 e.unit, .str e.s, .sl (e.args.map Exp.row)])) ∧ o = [(i, pOb l q)] ∧ n = nx := by
 subst hr
 rw [← Exp.row_eq]
 exact h
theorem zhC {l : List Tok} (hl : TokOK l) {f p : Nat} (hE : zgB l f) (hf : 4 * (l.length - p) ≤ f) {t : Tok} (ht : l[p]? = some t) (hk : ¬ t.kind = 2) (h1 : isB l p [116, 114, 117, 101] = false) (h2 : isB l p [102, 97, 108, 115, 101] = false)
  (h3 : isB l p [109, 105, 110] = false) (h4 : isB l p [109, 97, 120] = false) (h5 : isB l p [40] = true) {i nx : Nat} (hi : i < nx) :
  RetX Tryd.prog 98 [.ptr i 0] [(i, pOb l p)] nx (PPost l i nx zmY (zbf l (f + 1) p)) := by
 have hne := zbh hi
 have hp := (List.getElem?_eq_some_iff.1 ht).1
 have hnx := zcw l p t ht hl.len
 have hll := hl.len
 have hp2 := zcB hl h5
 rw [zbf, ht]
 have hh1 := fun nx' (h : nx ≤ nx') => zbE l p [116, 114, 117, 101] i nx' (by omega) hp hl.len
 have hh2 := fun nx' (h : nx ≤ nx') => zbE l p [102, 97, 108, 115, 101] i nx' (by omega) hp hl.len
 have hm1 := zey l p [109, 105, 110] hp hl.len
 have hm2 := zey l p [109, 97, 120] hp hl.len
 have hh3 := fun nx' (h : nx ≤ nx') => zbE l p [40] i nx' (by omega) hp hl.len
 simp only [hk, h1, h2, h3, h4, h5, if_false, if_true, Bool.false_eq_true, or_self] at hh1 hh2 hm1 hm2 hh3 ⊢
 have he := fun nx' (h : nx ≤ nx') => hE (p + 1) 0 i nx' (by omega) hp2 (by omega) (by omega) (by omega)
 cases hr : zeM l f (p + 1) 0 with
 | stop pos e =>
  simp only [hr] at he
  (refine RetX.of_bodyW Tryd.func98 rfl (by simp) fun Γ hn hpan => ?_); simp only [entry, List.zipIdx_cons, List.zipIdx_nil, List.map_cons, List.map_nil, Nat.zero_add, Tryd.ntmps98]
  repeat' (first
  | (refine zah ?_; simp [hne, hk, del, Nat.add_assoc])
  | (refine zak ?_; simp [hne, hk, del, Nat.add_assoc])
  | (refine zai ?_; simp [hne, hk, del, Nat.add_assoc])
  | (refine zag ?_; simp [hne, hk, del, Nat.add_assoc])
  | (refine CallP.fun_ (hnx) (by first | rfl | fail) (by first | assumption | (simp; done) | fail) (by first | (simp [hne, hk, del, Nat.add_assoc]; done) | (simp [hne, hk, del, Nat.add_assoc]; rfl) | fail) (by first | (simp; done) | fail) (fun d hd => ?_); subst hd; (try simp [hne, hk, del, Nat.add_assoc]))
  | (refine CallP.fun_ (hm1) (by first | rfl | fail) (by first | assumption | (simp; done) | fail) (by first | (simp [hne, hk, del, Nat.add_assoc]; done) | (simp [hne, hk, del, Nat.add_assoc]; rfl) | fail) (by first | (simp; done) | fail) (fun d hd => ?_); subst hd; (try simp [hne, hk, del, Nat.add_assoc]))
  | (refine CallP.fun_ (hm2) (by first | rfl | fail) (by first | assumption | (simp; done) | fail) (by first | (simp [hne, hk, del, Nat.add_assoc]; done) | (simp [hne, hk, del, Nat.add_assoc]; rfl) | fail) (by first | (simp; done) | fail) (fun d hd => ?_); subst hd; (try simp [hne, hk, del, Nat.add_assoc]))
  | (refine CallP.ok1 (hh1 _ (by first | omega | (simp; done) | (simp; omega) | fail)) (by first | (simp [hne, hk, del, Nat.add_assoc, zaa, getK, zab, zac]; done) | fail) (by rfl) (by first | assumption | (simp; done) | fail) (by rfl) (by simp) ?_; (try simp [hne, hk, del, Nat.add_assoc]))
  | (refine CallP.ok1 (hh2 _ (by first | omega | (simp; done) | (simp; omega) | fail)) (by first | (simp [hne, hk, del, Nat.add_assoc, zaa, getK, zab, zac]; done) | fail) (by rfl) (by first | assumption | (simp; done) | fail) (by rfl) (by simp) ?_; (try simp [hne, hk, del, Nat.add_assoc]))
  | (refine CallP.ok1 (hh3 _ (by first | omega | (simp; done) | (simp; omega) | fail)) (by first | (simp [hne, hk, del, Nat.add_assoc, zaa, getK, zab, zac]; done) | fail) (by rfl) (by first | assumption | (simp; done) | fail) (by rfl) (by simp) ?_; (try simp [hne, hk, del, Nat.add_assoc]))
  | (refine CallP.zfc (he _ (by first | omega | (simp; done) | (simp; omega) | fail)) (by first | (simp [hne, hk, del, Nat.add_assoc, zaa, getK, zab, zac]; done) | fail) (by rfl) (by first | assumption | (simp; done) | fail) (by rfl) (by simp) ?_; rintro ob' ⟨q', rfl⟩; refine ⟨_, Wk.refl _, ?_⟩)
  | fail)
  (refine hpan _ _ ⟨{ n := _, env := [], obs := [(i, pOb l q')], next := nx }, (Wk.cut rfl (by simp [hn]) (by simp [wkO, zaa, getK, zab, zac, Ob.under, D.under, zad, zaf, hi, hne, zab, zac, zaa, getK]) (by simp [wkU, zap, zaa, getK, D.under, hi, hne, zab, zac, zaa, getK]) (by simp [wkE, zap, zaa, getK, hi, hne, zab, zac, zaa, getK])), by simp [hn], ?_⟩; try simp)
  exact PPost.zbn (by simp [PR.bind, *])
 | ok e1 q1 =>
  have he := fun nx' h => zdr (he nx' h) hr
  obtain ⟨g1, g2⟩ := (zcD hl f).1 _ _ _ _ hr hp2
  have hw := fun nx' (h : nx ≤ nx') => zhp hl [41] (q := q1) (i := i) (nx := nx') (by omega) g2
  cases hr2 : zcW l q1 [[41]] with
  | stop pos e =>
   simp only [hr2] at hw
   (refine RetX.of_bodyW Tryd.func98 rfl (by simp) fun Γ hn hpan => ?_); simp only [entry, List.zipIdx_cons, List.zipIdx_nil, List.map_cons, List.map_nil, Nat.zero_add, Tryd.ntmps98]
   repeat' (first
  | (refine zah ?_; simp [hne, hk, del, Nat.add_assoc])
  | (refine zak ?_; simp [hne, hk, del, Nat.add_assoc])
  | (refine zai ?_; simp [hne, hk, del, Nat.add_assoc])
  | (refine zag ?_; simp [hne, hk, del, Nat.add_assoc])
  | (refine CallP.fun_ (hnx) (by first | rfl | fail) (by first | assumption | (simp; done) | fail) (by first | (simp [hne, hk, del, Nat.add_assoc]; done) | (simp [hne, hk, del, Nat.add_assoc]; rfl) | fail) (by first | (simp; done) | fail) (fun d hd => ?_); subst hd; (try simp [hne, hk, del, Nat.add_assoc]))
  | (refine CallP.fun_ (hm1) (by first | rfl | fail) (by first | assumption | (simp; done) | fail) (by first | (simp [hne, hk, del, Nat.add_assoc]; done) | (simp [hne, hk, del, Nat.add_assoc]; rfl) | fail) (by first | (simp; done) | fail) (fun d hd => ?_); subst hd; (try simp [hne, hk, del, Nat.add_assoc]))
  | (refine CallP.fun_ (hm2) (by first | rfl | fail) (by first | assumption | (simp; done) | fail) (by first | (simp [hne, hk, del, Nat.add_assoc]; done) | (simp [hne, hk, del, Nat.add_assoc]; rfl) | fail) (by first | (simp; done) | fail) (fun d hd => ?_); subst hd; (try simp [hne, hk, del, Nat.add_assoc]))
  | (refine CallP.ok1 (hh1 _ (by first | omega | (simp; done) | (simp; omega) | fail)) (by first | (simp [hne, hk, del, Nat.add_assoc, zaa, getK, zab, zac]; done) | fail) (by rfl) (by first | assumption | (simp; done) | fail) (by rfl) (by simp) ?_; (try simp [hne, hk, del, Nat.add_assoc]))
  | (refine CallP.ok1 (hh2 _ (by first | omega | (simp; done) | (simp; omega) | fail)) (by first | (simp [hne, hk, del, Nat.add_assoc, zaa, getK, zab, zac]; done) | fail) (by rfl) (by first | assumption | (simp; done) | fail) (by rfl) (by simp) ?_; (try simp [hne, hk, del, Nat.add_assoc]))
  | (refine CallP.ok1 (hh3 _ (by first | omega | (simp; done) | (simp; omega) | fail)) (by first | (simp [hne, hk, del, Nat.add_assoc, zaa, getK, zab, zac]; done) | fail) (by rfl) (by first | assumption | (simp; done) | fail) (by rfl) (by simp) ?_; (try simp [hne, hk, del, Nat.add_assoc]))
  | (refine CallP.ok1 (he _ (by first | omega | (simp; done) | (simp; omega) | fail)) (by first | (simp [hne, hk, del, Nat.add_assoc, zaa, getK, zab, zac]; done) | fail) (by rfl) (by first | assumption | (simp; done) | fail) (by rfl) (by simp) ?_; (try simp [hne, hk, del, Nat.add_assoc]))
  | (refine CallP.zfc (hw _ (by first | omega | (simp; done) | (simp; omega) | fail)) (by first | (simp [hne, hk, del, Nat.add_assoc, zaa, getK, zab, zac]; done) | fail) (by rfl) (by first | assumption | (simp; done) | fail) (by rfl) (by simp) ?_; rintro ob' ⟨q', rfl⟩; refine ⟨_, Wk.refl _, ?_⟩)
  | (refine za2 (by first | rfl | fail) ?_; simp [hne, hk, del, Nat.add_assoc, frzN, frz1, zaV, zaU, St.frz, St.frzS, frzS, fv, zbH, zbJ, zbK, zaY, zaF, zaA, del, frz, zb2])
  | fail)
   (refine hpan _ _ ⟨{ n := _, env := [], obs := [(i, pOb l q')], next := nx }, (Wk.cut rfl (by simp [hn]) (by simp [wkO, zaa, getK, zab, zac, Ob.under, D.under, zad, zaf, hi, hne, zab, zac, zaa, getK]) (by simp [wkU, zap, zaa, getK, D.under, hi, hne, zab, zac, zaa, getK]) (by simp [wkE, zap, zaa, getK, hi, hne, zab, zac, zaa, getK])), by simp [hn], ?_⟩; try simp)
   exact PPost.zbn (by simp [PR.bind, *])
  | ok u2 q =>
   simp only [hr2] at hw
   (refine RetX.of_bodyW Tryd.func98 rfl (by simp) fun Γ hn hpan => ?_); simp only [entry, List.zipIdx_cons, List.zipIdx_nil, List.map_cons, List.map_nil, Nat.zero_add, Tryd.ntmps98]
   repeat' (first
  | (refine zah ?_; simp [hne, hk, del, Nat.add_assoc])
  | (refine zak ?_; simp [hne, hk, del, Nat.add_assoc])
  | (refine zai ?_; simp [hne, hk, del, Nat.add_assoc])
  | (refine zag ?_; simp [hne, hk, del, Nat.add_assoc])
  | (refine zar ?_; simp only [zal])
  | (refine CallP.fun_ (hnx) (by first | rfl | fail) (by first | assumption | (simp; done) | fail) (by first | (simp [hne, hk, del, Nat.add_assoc]; done) | (simp [hne, hk, del, Nat.add_assoc]; rfl) | fail) (by first | (simp; done) | fail) (fun d hd => ?_); subst hd; (try simp [hne, hk, del, Nat.add_assoc]))
  | (refine CallP.fun_ (hm1) (by first | rfl | fail) (by first | assumption | (simp; done) | fail) (by first | (simp [hne, hk, del, Nat.add_assoc]; done) | (simp [hne, hk, del, Nat.add_assoc]; rfl) | fail) (by first | (simp; done) | fail) (fun d hd => ?_); subst hd; (try simp [hne, hk, del, Nat.add_assoc]))
  | (refine CallP.fun_ (hm2) (by first | rfl | fail) (by first | assumption | (simp; done) | fail) (by first | (simp [hne, hk, del, Nat.add_assoc]; done) | (simp [hne, hk, del, Nat.add_assoc]; rfl) | fail) (by first | (simp; done) | fail) (fun d hd => ?_); subst hd; (try simp [hne, hk, del, Nat.add_assoc]))
  | (refine CallP.ok1 (hh1 _ (by first | omega | (simp; done) | (simp; omega) | fail)) (by first | (simp [hne, hk, del, Nat.add_assoc, zaa, getK, zab, zac]; done) | fail) (by rfl) (by first | assumption | (simp; done) | fail) (by rfl) (by simp) ?_; (try simp [hne, hk, del, Nat.add_assoc]))
  | (refine CallP.ok1 (hh2 _ (by first | omega | (simp; done) | (simp; omega) | fail)) (by first | (simp [hne, hk, del, Nat.add_assoc, zaa, getK, zab, zac]; done) | fail) (by rfl) (by first | assumption | (simp; done) | fail) (by rfl) (by simp) ?_; (try simp [hne, hk, del, Nat.add_assoc]))
  | (refine CallP.ok1 (hh3 _ (by first | omega | (simp; done) | (simp; omega) | fail)) (by first | (simp [hne, hk, del, Nat.add_assoc, zaa, getK, zab, zac]; done) | fail) (by rfl) (by first | assumption | (simp; done) | fail) (by rfl) (by simp) ?_; (try simp [hne, hk, del, Nat.add_assoc]))
  | (refine CallP.ok1 (he _ (by first | omega | (simp; done) | (simp; omega) | fail)) (by first | (simp [hne, hk, del, Nat.add_assoc, zaa, getK, zab, zac]; done) | fail) (by rfl) (by first | assumption | (simp; done) | fail) (by rfl) (by simp) ?_; (try simp [hne, hk, del, Nat.add_assoc]))
  | (refine CallP.ok1 (hw _ (by first | omega | (simp; done) | (simp; omega) | fail)) (by first | (simp [hne, hk, del, Nat.add_assoc, zaa, getK, zab, zac]; done) | fail) (by rfl) (by first | assumption | (simp; done) | fail) (by rfl) (by simp) ?_; (try simp [hne, hk, del, Nat.add_assoc]))
  | (refine za2 (by first | rfl | fail) ?_; simp [hne, hk, del, Nat.add_assoc, frzN, frz1, zaV, zaU, St.frz, St.frzS, frzS, fv, zbH, zbJ, zbK, zaY, zaF, zaA, del, frz, zb2])
  | fail)
   refine EndW.norm ?_
   simp [St.norm, zbq, zcf, zcy, zcz, hne]
   (refine EndW.here ?_; (first | (refine EndOK.fin (.inr rfl) ?_) | (refine EndOK.fin (.inl rfl) ?_)); simp [zay, zae, Tryd.results98, hne, hi]; refine FinOK.cut [(i, pOb l q)] (nx) (by simp [zaa, getK, zab, zac, Ob.under, D.under, zad, zaf, hne, hi] <;> omega) (by simp [D.under]) (by simp [hn]) ?_; try simp)
   exact PPost.zdF (by simp [PR.bind, *]; rfl) (by simp [Exp.row_eq]) rfl
theorem zju {l : List Tok} (hl : TokOK l) {f p : Nat} (hE : zgB l f) (hf : 4 * (l.length - p) ≤ f) {t : Tok} (ht : l[p]? = some t) (hk : ¬ t.kind = 2) (h1 : isB l p [116, 114, 117, 101] = false) (h2 : isB l p [102, 97, 108, 115, 101] = false)
  (h3 : isB l p [109, 105, 110] = false) (h4 : isB l p [109, 97, 120] = true) {i nx : Nat} (hi : i < nx) :
  RetX Tryd.prog 98 [.ptr i 0] [(i, pOb l p)] nx (PPost l i nx zmY (zbf l (f + 1) p)) := by
 have hne := zbh hi
 have hp := (List.getElem?_eq_some_iff.1 ht).1
 have hnx := zcw l p t ht hl.len
 have hll := hl.len
 have hp2 := zcB hl h4
 rw [zbf, ht]
 have hh1 := fun nx' (h : nx ≤ nx') => zbE l p [116, 114, 117, 101] i nx' (by omega) hp hl.len
 have hh2 := fun nx' (h : nx ≤ nx') => zbE l p [102, 97, 108, 115, 101] i nx' (by omega) hp hl.len
 have hm1 := zey l p [109, 105, 110] hp hl.len
 have hm2 := zey l p [109, 97, 120] hp hl.len
 simp only [hk, h1, h2, h3, h4, if_false, if_true, Bool.false_eq_true, or_true, true_or] at hh1 hh2 hm1 hm2 ⊢
 have hw1 := fun nx' (h : nx ≤ nx') => zhp hl [40] (q := (p + 1)) (i := i) (nx := nx') (by omega) hp2
 cases hr0 : zcW l (p + 1) [[40]] with
 | stop pos e =>
  simp only [hr0] at hw1
  (refine RetX.of_bodyW Tryd.func98 rfl (by simp) fun Γ hn hpan => ?_); simp only [entry, List.zipIdx_cons, List.zipIdx_nil, List.map_cons, List.map_nil, Nat.zero_add, Tryd.ntmps98]
  repeat' (first
  | (refine zah ?_; simp [hne, hk, del, Nat.add_assoc])
  | (refine zak ?_; simp [hne, hk, del, Nat.add_assoc])
  | (refine ⟨by omega, ?_⟩)
  | (refine zai ?_; simp [hne, hk, del, Nat.add_assoc])
  | (refine zag ?_; simp [hne, hk, del, Nat.add_assoc])
  | (refine zas ?_; simp [hne, hk, del, Nat.add_assoc])
  | (refine CallP.fun_ (hnx) (by first | rfl | fail) (by first | assumption | (simp; done) | fail) (by first | (simp [hne, hk, del, Nat.add_assoc]; done) | (simp [hne, hk, del, Nat.add_assoc]; rfl) | fail) (by first | (simp; done) | fail) (fun d hd => ?_); subst hd; (try simp [hne, hk, del, Nat.add_assoc]))
  | (refine CallP.fun_ (hm1) (by first | rfl | fail) (by first | assumption | (simp; done) | fail) (by first | (simp [hne, hk, del, Nat.add_assoc]; done) | (simp [hne, hk, del, Nat.add_assoc]; rfl) | fail) (by first | (simp; done) | fail) (fun d hd => ?_); subst hd; (try simp [hne, hk, del, Nat.add_assoc]))
  | (refine CallP.fun_ (hm2) (by first | rfl | fail) (by first | assumption | (simp; done) | fail) (by first | (simp [hne, hk, del, Nat.add_assoc]; done) | (simp [hne, hk, del, Nat.add_assoc]; rfl) | fail) (by first | (simp; done) | fail) (fun d hd => ?_); subst hd; (try simp [hne, hk, del, Nat.add_assoc]))
  | (refine CallP.ok1 (hh1 _ (by first | omega | (simp; done) | (simp; omega) | fail)) (by first | (simp [hne, hk, del, Nat.add_assoc, zaa, getK, zab, zac]; done) | fail) (by rfl) (by first | assumption | (simp; done) | fail) (by rfl) (by simp) ?_; (try simp [hne, hk, del, Nat.add_assoc]))
  | (refine CallP.ok1 (hh2 _ (by first | omega | (simp; done) | (simp; omega) | fail)) (by first | (simp [hne, hk, del, Nat.add_assoc, zaa, getK, zab, zac]; done) | fail) (by rfl) (by first | assumption | (simp; done) | fail) (by rfl) (by simp) ?_; (try simp [hne, hk, del, Nat.add_assoc]))
  | (refine CallP.zfc (hw1 _ (by first | omega | (simp; done) | (simp; omega) | fail)) (by first | (simp [hne, hk, del, Nat.add_assoc, zaa, getK, zab, zac]; done) | fail) (by rfl) (by first | assumption | (simp; done) | fail) (by rfl) (by simp) ?_; rintro ob' ⟨q', rfl⟩; refine ⟨_, Wk.refl _, ?_⟩)
  | (refine za2 (by first | rfl | fail) ?_; simp [hne, hk, del, Nat.add_assoc, frzN, frz1, zaV, zaU, St.frz, St.frzS, frzS, fv, zbH, zbJ, zbK, zaY, zaF, zaA, del, frz, zb2])
  | fail)
  (refine hpan _ _ ⟨{ n := _, env := [], obs := [(i, pOb l q')], next := nx }, (Wk.cut rfl (by simp [hn]) (by simp [wkO, zaa, getK, zab, zac, Ob.under, D.under, zad, zaf, hi, hne, zab, zac, zaa, getK]) (by simp [wkU, zap, zaa, getK, D.under, hi, hne, zab, zac, zaa, getK]) (by simp [wkE, zap, zaa, getK, hi, hne, zab, zac, zaa, getK])), by simp [hn], ?_⟩; try simp)
  exact PPost.zbn (by simp [PR.bind, *])
 | ok v0 q0 =>
  simp only [hr0] at hw1
  obtain ⟨g0a, g0b⟩ := zb3 hl _ hr0 hp2
  have ha := fun nx' (h : nx ≤ nx') => hE q0 0 i nx' (by omega) g0b (by omega) (by omega) (by omega)
  cases hr1 : zeM l f q0 0 with
  | stop pos e =>
   simp only [hr1] at ha
   (refine RetX.of_bodyW Tryd.func98 rfl (by simp) fun Γ hn hpan => ?_); simp only [entry, List.zipIdx_cons, List.zipIdx_nil, List.map_cons, List.map_nil, Nat.zero_add, Tryd.ntmps98]
   repeat' (first
  | (refine zah ?_; simp [hne, hk, del, Nat.add_assoc])
  | (refine zak ?_; simp [hne, hk, del, Nat.add_assoc])
  | (refine ⟨by omega, ?_⟩)
  | (refine zai ?_; simp [hne, hk, del, Nat.add_assoc])
  | (refine zag ?_; simp [hne, hk, del, Nat.add_assoc])
  | (refine zas ?_; simp [hne, hk, del, Nat.add_assoc])
  | (refine CallP.fun_ (hnx) (by first | rfl | fail) (by first | assumption | (simp; done) | fail) (by first | (simp [hne, hk, del, Nat.add_assoc]; done) | (simp [hne, hk, del, Nat.add_assoc]; rfl) | fail) (by first | (simp; done) | fail) (fun d hd => ?_); subst hd; (try simp [hne, hk, del, Nat.add_assoc]))
  | (refine CallP.fun_ (hm1) (by first | rfl | fail) (by first | assumption | (simp; done) | fail) (by first | (simp [hne, hk, del, Nat.add_assoc]; done) | (simp [hne, hk, del, Nat.add_assoc]; rfl) | fail) (by first | (simp; done) | fail) (fun d hd => ?_); subst hd; (try simp [hne, hk, del, Nat.add_assoc]))
  | (refine CallP.fun_ (hm2) (by first | rfl | fail) (by first | assumption | (simp; done) | fail) (by first | (simp [hne, hk, del, Nat.add_assoc]; done) | (simp [hne, hk, del, Nat.add_assoc]; rfl) | fail) (by first | (simp; done) | fail) (fun d hd => ?_); subst hd; (try simp [hne, hk, del, Nat.add_assoc]))
  | (refine CallP.ok1 (hh1 _ (by first | omega | (simp; done) | (simp; omega) | fail)) (by first | (simp [hne, hk, del, Nat.add_assoc, zaa, getK, zab, zac]; done) | fail) (by rfl) (by first | assumption | (simp; done) | fail) (by rfl) (by simp) ?_; (try simp [hne, hk, del, Nat.add_assoc]))
  | (refine CallP.ok1 (hh2 _ (by first | omega | (simp; done) | (simp; omega) | fail)) (by first | (simp [hne, hk, del, Nat.add_assoc, zaa, getK, zab, zac]; done) | fail) (by rfl) (by first | assumption | (simp; done) | fail) (by rfl) (by simp) ?_; (try simp [hne, hk, del, Nat.add_assoc]))
  | (refine CallP.ok1 (hw1 _ (by first | omega | (simp; done) | (simp; omega) | fail)) (by first | (simp [hne, hk, del, Nat.add_assoc, zaa, getK, zab, zac]; done) | fail) (by rfl) (by first | assumption | (simp; done) | fail) (by rfl) (by simp) ?_; (try simp [hne, hk, del, Nat.add_assoc]))
  | (refine CallP.zfc (ha _ (by first | omega | (simp; done) | (simp; omega) | fail)) (by first | (simp [hne, hk, del, Nat.add_assoc, zaa, getK, zab, zac]; done) | fail) (by rfl) (by first | assumption | (simp; done) | fail) (by rfl) (by simp) ?_; rintro ob' ⟨q', rfl⟩; refine ⟨_, Wk.refl _, ?_⟩)
  | (refine za2 (by first | rfl | fail) ?_; simp [hne, hk, del, Nat.add_assoc, frzN, frz1, zaV, zaU, St.frz, St.frzS, frzS, fv, zbH, zbJ, zbK, zaY, zaF, zaA, del, frz, zb2])
  | fail)
   (refine hpan _ _ ⟨{ n := _, env := [], obs := [(i, pOb l q')], next := nx }, (Wk.cut rfl (by simp [hn]) (by simp [wkO, zaa, getK, zab, zac, Ob.under, D.under, zad, zaf, hi, hne, zab, zac, zaa, getK]) (by simp [wkU, zap, zaa, getK, D.under, hi, hne, zab, zac, zaa, getK]) (by simp [wkE, zap, zaa, getK, hi, hne, zab, zac, zaa, getK])), by simp [hn], ?_⟩; try simp)
   exact PPost.zbn (by simp [PR.bind, *])
  | ok v1 q1 =>
   have ha := fun nx' h => zdr (ha nx' h) hr1
   obtain ⟨g1a, g1b⟩ := (zcD hl f).1 _ _ _ _ hr1 g0b
   have hw2 := fun nx' (h : nx ≤ nx') => zhp hl [44] (q := q1) (i := i) (nx := nx') (by omega) g1b
   cases hr2 : zcW l q1 [[44]] with
   | stop pos e =>
    simp only [hr2] at hw2
    (refine RetX.of_bodyW Tryd.func98 rfl (by simp) fun Γ hn hpan => ?_); simp only [entry, List.zipIdx_cons, List.zipIdx_nil, List.map_cons, List.map_nil, Nat.zero_add, Tryd.ntmps98]
    repeat' (first
  | (refine zah ?_; simp [hne, hk, del, Nat.add_assoc])
  | (refine zak ?_; simp [hne, hk, del, Nat.add_assoc])
  | (refine ⟨by omega, ?_⟩)
  | (refine zai ?_; simp [hne, hk, del, Nat.add_assoc])
  | (refine zag ?_; simp [hne, hk, del, Nat.add_assoc])
  | (refine zas ?_; simp [hne, hk, del, Nat.add_assoc])
  | (refine CallP.fun_ (hnx) (by first | rfl | fail) (by first | assumption | (simp; done) | fail) (by first | (simp [hne, hk, del, Nat.add_assoc]; done) | (simp [hne, hk, del, Nat.add_assoc]; rfl) | fail) (by first | (simp; done) | fail) (fun d hd => ?_); subst hd; (try simp [hne, hk, del, Nat.add_assoc]))
  | (refine CallP.fun_ (hm1) (by first | rfl | fail) (by first | assumption | (simp; done) | fail) (by first | (simp [hne, hk, del, Nat.add_assoc]; done) | (simp [hne, hk, del, Nat.add_assoc]; rfl) | fail) (by first | (simp; done) | fail) (fun d hd => ?_); subst hd; (try simp [hne, hk, del, Nat.add_assoc]))
  | (refine CallP.fun_ (hm2) (by first | rfl | fail) (by first | assumption | (simp; done) | fail) (by first | (simp [hne, hk, del, Nat.add_assoc]; done) | (simp [hne, hk, del, Nat.add_assoc]; rfl) | fail) (by first | (simp; done) | fail) (fun d hd => ?_); subst hd; (try simp [hne, hk, del, Nat.add_assoc]))
  | (refine CallP.ok1 (hh1 _ (by first | omega | (simp; done) | (simp; omega) | fail)) (by first | (simp [hne, hk, del, Nat.add_assoc, zaa, getK, zab, zac]; done) | fail) (by rfl) (by first | assumption | (simp; done) | fail) (by rfl) (by simp) ?_; (try simp [hne, hk, del, Nat.add_assoc]))
  | (refine CallP.ok1 (hh2 _ (by first | omega | (simp; done) | (simp; omega) | fail)) (by first | (simp [hne, hk, del, Nat.add_assoc, zaa, getK, zab, zac]; done) | fail) (by rfl) (by first | assumption | (simp; done) | fail) (by rfl) (by simp) ?_; (try simp [hne, hk, del, Nat.add_assoc]))
  | (refine CallP.ok1 (hw1 _ (by first | omega | (simp; done) | (simp; omega) | fail)) (by first | (simp [hne, hk, del, Nat.add_assoc, zaa, getK, zab, zac]; done) | fail) (by rfl) (by first | assumption | (simp; done) | fail) (by rfl) (by simp) ?_; (try simp [hne, hk, del, Nat.add_assoc]))
  | (refine CallP.ok1 (ha _ (by first | omega | (simp; done) | (simp; omega) | fail)) (by first | (simp [hne, hk, del, Nat.add_assoc, zaa, getK, zab, zac]; done) | fail) (by rfl) (by first | assumption | (simp; done) | fail) (by rfl) (by simp) ?_; (try simp [hne, hk, del, Nat.add_assoc]))
  | (refine CallP.zfc (hw2 _ (by first | omega | (simp; done) | (simp; omega) | fail)) (by first | (simp [hne, hk, del, Nat.add_assoc, zaa, getK, zab, zac]; done) | fail) (by rfl) (by first | assumption | (simp; done) | fail) (by rfl) (by simp) ?_; rintro ob' ⟨q', rfl⟩; refine ⟨_, Wk.refl _, ?_⟩)
  | (refine za2 (by first | rfl | fail) ?_; simp [hne, hk, del, Nat.add_assoc, frzN, frz1, zaV, zaU, St.frz, St.frzS, frzS, fv, zbH, zbJ, zbK, zaY, zaF, zaA, del, frz, zb2])
  | fail)
    (refine hpan _ _ ⟨{ n := _, env := [], obs := [(i, pOb l q')], next := nx }, (Wk.cut rfl (by simp [hn]) (by simp [wkO, zaa, getK, zab, zac, Ob.under, D.under, zad, zaf, hi, hne, zab, zac, zaa, getK]) (by simp [wkU, zap, zaa, getK, D.under, hi, hne, zab, zac, zaa, getK]) (by simp [wkE, zap, zaa, getK, hi, hne, zab, zac, zaa, getK])), by simp [hn], ?_⟩; try simp)
    exact PPost.zbn (by simp [PR.bind, *])
   | ok v2 q2 =>
    simp only [hr2] at hw2
    obtain ⟨g2a, g2b⟩ := zb3 hl _ hr2 g1b
    have hb := fun nx' (h : nx ≤ nx') => hE q2 0 i nx' (by omega) g2b (by omega) (by omega) (by omega)
    cases hr3 : zeM l f q2 0 with
    | stop pos e =>
     simp only [hr3] at hb
     (refine RetX.of_bodyW Tryd.func98 rfl (by simp) fun Γ hn hpan => ?_); simp only [entry, List.zipIdx_cons, List.zipIdx_nil, List.map_cons, List.map_nil, Nat.zero_add, Tryd.ntmps98]
     repeat' (first
  | (refine zah ?_; simp [hne, hk, del, Nat.add_assoc])
  | (refine zak ?_; simp [hne, hk, del, Nat.add_assoc])
  | (refine ⟨by omega, ?_⟩)
  | (refine zai ?_; simp [hne, hk, del, Nat.add_assoc])
  | (refine zag ?_; simp [hne, hk, del, Nat.add_assoc])
  | (refine zas ?_; simp [hne, hk, del, Nat.add_assoc])
  | (refine CallP.fun_ (hnx) (by first | rfl | fail) (by first | assumption | (simp; done) | fail) (by first | (simp [hne, hk, del, Nat.add_assoc]; done) | (simp [hne, hk, del, Nat.add_assoc]; rfl) | fail) (by first | (simp; done) | fail) (fun d hd => ?_); subst hd; (try simp [hne, hk, del, Nat.add_assoc]))
  | (refine CallP.fun_ (hm1) (by first | rfl | fail) (by first | assumption | (simp; done) | fail) (by first | (simp [hne, hk, del, Nat.add_assoc]; done) | (simp [hne, hk, del, Nat.add_assoc]; rfl) | fail) (by first | (simp; done) | fail) (fun d hd => ?_); subst hd; (try simp [hne, hk, del, Nat.add_assoc]))
  | (refine CallP.fun_ (hm2) (by first | rfl | fail) (by first | assumption | (simp; done) | fail) (by first | (simp [hne, hk, del, Nat.add_assoc]; done) | (simp [hne, hk, del, Nat.add_assoc]; rfl) | fail) (by first | (simp; done) | fail) (fun d hd => ?_); subst hd; (try simp [hne, hk, del, Nat.add_assoc]))
  | (refine CallP.ok1 (hh1 _ (by first | omega | (simp; done) | (simp; omega) | fail)) (by first | (simp [hne, hk, del, Nat.add_assoc, zaa, getK, zab, zac]; done) | fail) (by rfl) (by first | assumption | (simp; done) | fail) (by rfl) (by simp) ?_; (try simp [hne, hk, del, Nat.add_assoc]))
  | (refine CallP.ok1 (hh2 _ (by first | omega | (simp; done) | (simp; omega) | fail)) (by first | (simp [hne, hk, del, Nat.add_assoc, zaa, getK, zab, zac]; done) | fail) (by rfl) (by first | assumption | (simp; done) | fail) (by rfl) (by simp) ?_; (try simp [hne, hk, del, Nat.add_assoc]))
  | (refine CallP.ok1 (hw1 _ (by first | omega | (simp; done) | (simp; omega) | fail)) (by first | (simp [hne, hk, del, Nat.add_assoc, zaa, getK, zab, zac]; done) | fail) (by rfl) (by first | assumption | (simp; done) | fail) (by rfl) (by simp) ?_; (try simp [hne, hk, del, Nat.add_assoc]))
  | (refine CallP.ok1 (ha _ (by first | omega | (simp; done) | (simp; omega) | fail)) (by first | (simp [hne, hk, del, Nat.add_assoc, zaa, getK, zab, zac]; done) | fail) (by rfl) (by first | assumption | (simp; done) | fail) (by rfl) (by simp) ?_; (try simp [hne, hk, del, Nat.add_assoc]))
  | (refine CallP.ok1 (hw2 _ (by first | omega | (simp; done) | (simp; omega) | fail)) (by first | (simp [hne, hk, del, Nat.add_assoc, zaa, getK, zab, zac]; done) | fail) (by rfl) (by first | assumption | (simp; done) | fail) (by rfl) (by simp) ?_; (try simp [hne, hk, del, Nat.add_assoc]))
  | (refine CallP.zfc (hb _ (by first | omega | (simp; done) | (simp; omega) | fail)) (by first | (simp [hne, hk, del, Nat.add_assoc, zaa, getK, zab, zac]; done) | fail) (by rfl) (by first | assumption | (simp; done) | fail) (by rfl) (by simp) ?_; rintro ob' ⟨q', rfl⟩; refine ⟨_, Wk.refl _, ?_⟩)
  | (refine za2 (by first | rfl | fail) ?_; simp [hne, hk, del, Nat.add_assoc, frzN, frz1, zaV, zaU, St.frz, St.frzS, frzS, fv, zbH, zbJ, zbK, zaY, zaF, zaA, del, frz, zb2])
  | fail)
     (refine hpan _ _ ⟨{ n := _, env := [], obs := [(i, pOb l q')], next := nx }, (Wk.cut rfl (by simp [hn]) (by simp [wkO, zaa, getK, zab, zac, Ob.under, D.under, zad, zaf, hi, hne, zab, zac, zaa, getK]) (by simp [wkU, zap, zaa, getK, D.under, hi, hne, zab, zac, zaa, getK]) (by simp [wkE, zap, zaa, getK, hi, hne, zab, zac, zaa, getK])), by simp [hn], ?_⟩; try simp)
     exact PPost.zbn (by simp [PR.bind, *])
    | ok v3 q3 =>
     have hb := fun nx' h => zdr (hb nx' h) hr3
     obtain ⟨g3a, g3b⟩ := (zcD hl f).1 _ _ _ _ hr3 g2b
     have hw3 := fun nx' (h : nx ≤ nx') => zhp hl [41] (q := q3) (i := i) (nx := nx') (by omega) g3b
     cases hr4 : zcW l q3 [[41]] with
     | stop pos e =>
      simp only [hr4] at hw3
      (refine RetX.of_bodyW Tryd.func98 rfl (by simp) fun Γ hn hpan => ?_); simp only [entry, List.zipIdx_cons, List.zipIdx_nil, List.map_cons, List.map_nil, Nat.zero_add, Tryd.ntmps98]
      repeat' (first
  | (refine zah ?_; simp [hne, hk, del, Nat.add_assoc])
  | (refine zak ?_; simp [hne, hk, del, Nat.add_assoc])
  | (refine ⟨by omega, ?_⟩)
  | (refine zai ?_; simp [hne, hk, del, Nat.add_assoc])
  | (refine zag ?_; simp [hne, hk, del, Nat.add_assoc])
  | (refine zas ?_; simp [hne, hk, del, Nat.add_assoc])
  | (refine CallP.fun_ (hnx) (by first | rfl | fail) (by first | assumption | (simp; done) | fail) (by first | (simp [hne, hk, del, Nat.add_assoc]; done) | (simp [hne, hk, del, Nat.add_assoc]; rfl) | fail) (by first | (simp; done) | fail) (fun d hd => ?_); subst hd; (try simp [hne, hk, del, Nat.add_assoc]))
  | (refine CallP.fun_ (hm1) (by first | rfl | fail) (by first | assumption | (simp; done) | fail) (by first | (simp [hne, hk, del, Nat.add_assoc]; done) | (simp [hne, hk, del, Nat.add_assoc]; rfl) | fail) (by first | (simp; done) | fail) (fun d hd => ?_); subst hd; (try simp [hne, hk, del, Nat.add_assoc]))
  | (refine CallP.fun_ (hm2) (by first | rfl | fail) (by first | assumption | (simp; done) | fail) (by first | (simp [hne, hk, del, Nat.add_assoc]; done) | (simp [hne, hk, del, Nat.add_assoc]; rfl) | fail) (by first | (simp; done) | fail) (fun d hd => ?_); subst hd; (try simp [hne, hk, del, Nat.add_assoc]))
  | (refine CallP.ok1 (hh1 _ (by first | omega | (simp; done) | (simp; omega) | fail)) (by first | (simp [hne, hk, del, Nat.add_assoc, zaa, getK, zab, zac]; done) | fail) (by rfl) (by first | assumption | (simp; done) | fail) (by rfl) (by simp) ?_; (try simp [hne, hk, del, Nat.add_assoc]))
  | (refine CallP.ok1 (hh2 _ (by first | omega | (simp; done) | (simp; omega) | fail)) (by first | (simp [hne, hk, del, Nat.add_assoc, zaa, getK, zab, zac]; done) | fail) (by rfl) (by first | assumption | (simp; done) | fail) (by rfl) (by simp) ?_; (try simp [hne, hk, del, Nat.add_assoc]))
  | (refine CallP.ok1 (hw1 _ (by first | omega | (simp; done) | (simp; omega) | fail)) (by first | (simp [hne, hk, del, Nat.add_assoc, zaa, getK, zab, zac]; done) | fail) (by rfl) (by first | assumption | (simp; done) | fail) (by rfl) (by simp) ?_; (try simp [hne, hk, del, Nat.add_assoc]))
  | (refine CallP.ok1 (ha _ (by first | omega | (simp; done) | (simp; omega) | fail)) (by first | (simp [hne, hk, del, Nat.add_assoc, zaa, getK, zab, zac]; done) | fail) (by rfl) (by first | assumption | (simp; done) | fail) (by rfl) (by simp) ?_; (try simp [hne, hk, del, Nat.add_assoc]))
  | (refine CallP.ok1 (hw2 _ (by first | omega | (simp; done) | (simp; omega) | fail)) (by first | (simp [hne, hk, del, Nat.add_assoc, zaa, getK, zab, zac]; done) | fail) (by rfl) (by first | assumption | (simp; done) | fail) (by rfl) (by simp) ?_; (try simp [hne, hk, del, Nat.add_assoc]))
  | (refine CallP.ok1 (hb _ (by first | omega | (simp; done) | (simp; omega) | fail)) (by first | (simp [hne, hk, del, Nat.add_assoc, zaa, getK, zab, zac]; done) | fail) (by rfl) (by first | assumption | (simp; done) | fail) (by rfl) (by simp) ?_; (try simp [hne, hk, del, Nat.add_assoc]))
  | (refine CallP.zfc (hw3 _ (by first | omega | (simp; done) | (simp; omega) | fail)) (by first | (simp [hne, hk, del, Nat.add_assoc, zaa, getK, zab, zac]; done) | fail) (by rfl) (by first | assumption | (simp; done) | fail) (by rfl) (by simp) ?_; rintro ob' ⟨q', rfl⟩; refine ⟨_, Wk.refl _, ?_⟩)
  | (refine za2 (by first | rfl | fail) ?_; simp [hne, hk, del, Nat.add_assoc, frzN, frz1, zaV, zaU, St.frz, St.frzS, frzS, fv, zbH, zbJ, zbK, zaY, zaF, zaA, del, frz, zb2])
  | fail)
      (refine hpan _ _ ⟨{ n := _, env := [], obs := [(i, pOb l q')], next := nx }, (Wk.cut rfl (by simp [hn]) (by simp [wkO, zaa, getK, zab, zac, Ob.under, D.under, zad, zaf, hi, hne, zab, zac, zaa, getK]) (by simp [wkU, zap, zaa, getK, D.under, hi, hne, zab, zac, zaa, getK]) (by simp [wkE, zap, zaa, getK, hi, hne, zab, zac, zaa, getK])), by simp [hn], ?_⟩; try simp)
      exact PPost.zbn (by simp [PR.bind, *])
     | ok v4 q4 =>
      simp only [hr4] at hw3
      obtain ⟨g4a, g4b⟩ := zb3 hl _ hr4 g3b
      (refine RetX.of_bodyW Tryd.func98 rfl (by simp) fun Γ hn hpan => ?_); simp only [entry, List.zipIdx_cons, List.zipIdx_nil, List.map_cons, List.map_nil, Nat.zero_add, Tryd.ntmps98]
      repeat' (first
  | (refine zah ?_; simp [hne, hk, del, Nat.add_assoc])
  | (refine zak ?_; simp [hne, hk, del, Nat.add_assoc])
  | (refine ⟨by omega, ?_⟩)
  | (refine zai ?_; simp [hne, hk, del, Nat.add_assoc])
  | (refine zag ?_; simp [hne, hk, del, Nat.add_assoc])
  | (refine zas ?_; simp [hne, hk, del, Nat.add_assoc])
  | (refine zar ?_; simp only [zal])
  | (refine CallP.fun_ (hnx) (by first | rfl | fail) (by first | assumption | (simp; done) | fail) (by first | (simp [hne, hk, del, Nat.add_assoc]; done) | (simp [hne, hk, del, Nat.add_assoc]; rfl) | fail) (by first | (simp; done) | fail) (fun d hd => ?_); subst hd; (try simp [hne, hk, del, Nat.add_assoc]))
  | (refine CallP.fun_ (hm1) (by first | rfl | fail) (by first | assumption | (simp; done) | fail) (by first | (simp [hne, hk, del, Nat.add_assoc]; done) | (simp [hne, hk, del, Nat.add_assoc]; rfl) | fail) (by first | (simp; done) | fail) (fun d hd => ?_); subst hd; (try simp [hne, hk, del, Nat.add_assoc]))
  | (refine CallP.fun_ (hm2) (by first | rfl | fail) (by first | assumption | (simp; done) | fail) (by first | (simp [hne, hk, del, Nat.add_assoc]; done) | (simp [hne, hk, del, Nat.add_assoc]; rfl) | fail) (by first | (simp; done) | fail) (fun d hd => ?_); subst hd; (try simp [hne, hk, del, Nat.add_assoc]))
  | (refine CallP.ok1 (hh1 _ (by first | omega | (simp; done) | (simp; omega) | fail)) (by first | (simp [hne, hk, del, Nat.add_assoc, zaa, getK, zab, zac]; done) | fail) (by rfl) (by first | assumption | (simp; done) | fail) (by rfl) (by simp) ?_; (try simp [hne, hk, del, Nat.add_assoc]))
  | (refine CallP.ok1 (hh2 _ (by first | omega | (simp; done) | (simp; omega) | fail)) (by first | (simp [hne, hk, del, Nat.add_assoc, zaa, getK, zab, zac]; done) | fail) (by rfl) (by first | assumption | (simp; done) | fail) (by rfl) (by simp) ?_; (try simp [hne, hk, del, Nat.add_assoc]))
  | (refine CallP.ok1 (hw1 _ (by first | omega | (simp; done) | (simp; omega) | fail)) (by first | (simp [hne, hk, del, Nat.add_assoc, zaa, getK, zab, zac]; done) | fail) (by rfl) (by first | assumption | (simp; done) | fail) (by rfl) (by simp) ?_; (try simp [hne, hk, del, Nat.add_assoc]))
  | (refine CallP.ok1 (ha _ (by first | omega | (simp; done) | (simp; omega) | fail)) (by first | (simp [hne, hk, del, Nat.add_assoc, zaa, getK, zab, zac]; done) | fail) (by rfl) (by first | assumption | (simp; done) | fail) (by rfl) (by simp) ?_; (try simp [hne, hk, del, Nat.add_assoc]))
  | (refine CallP.ok1 (hw2 _ (by first | omega | (simp; done) | (simp; omega) | fail)) (by first | (simp [hne, hk, del, Nat.add_assoc, zaa, getK, zab, zac]; done) | fail) (by rfl) (by first | assumption | (simp; done) | fail) (by rfl) (by simp) ?_; (try simp [hne, hk, del, Nat.add_assoc]))
  | (refine CallP.ok1 (hb _ (by first | omega | (simp; done) | (simp; omega) | fail)) (by first | (simp [hne, hk, del, Nat.add_assoc, zaa, getK, zab, zac]; done) | fail) (by rfl) (by first | assumption | (simp; done) | fail) (by rfl) (by simp) ?_; (try simp [hne, hk, del, Nat.add_assoc]))
  | (refine CallP.ok1 (hw3 _ (by first | omega | (simp; done) | (simp; omega) | fail)) (by first | (simp [hne, hk, del, Nat.add_assoc, zaa, getK, zab, zac]; done) | fail) (by rfl) (by first | assumption | (simp; done) | fail) (by rfl) (by simp) ?_; (try simp [hne, hk, del, Nat.add_assoc]))
  | (refine za2 (by first | rfl | fail) ?_; simp [hne, hk, del, Nat.add_assoc, frzN, frz1, zaV, zaU, St.frz, St.frzS, frzS, fv, zbH, zbJ, zbK, zaY, zaF, zaA, del, frz, zb2])
  | fail)
      (refine EndW.frzN 1 ?_; simp [frzN, frz1, zaV, zaU, St.frz, St.frzS, frzS, fv, zbH, zbJ, zbK, zaY, zaF, zaA, del, frz, zb2, hne, Nat.add_assoc])
      refine EndW.norm ?_
      simp [St.norm, zbq, zcf, zcy, zcz, hne, Nat.add_assoc]
      (refine EndW.here ?_; (first | (refine EndOK.fin (.inr rfl) ?_) | (refine EndOK.fin (.inl rfl) ?_)); simp [zay, zae, Tryd.results98, hne, hi]; refine FinOK.cut [(i, pOb l q4)] (nx) (by simp [zaa, getK, zab, zac, Ob.under, D.under, zad, zaf, hne, hi] <;> omega) (by simp [D.under]) (by simp [hn]) ?_; try simp)
      exact PPost.zdF (by simp [PR.bind, *]; rfl) (by simp [Exp.row_eq, Exp.op, Exp.n, Exp.unit, Exp.s, Exp.args]) rfl
theorem zjt {l : List Tok} (hl : TokOK l) {f p : Nat} (hE : zgB l f) (hf : 4 * (l.length - p) ≤ f) {t : Tok} (ht : l[p]? = some t) (hk : ¬ t.kind = 2) (h1 : isB l p [116, 114, 117, 101] = false) (h2 : isB l p [102, 97, 108, 115, 101] = false)
  (h3 : isB l p [109, 105, 110] = true) (h4 : isB l p [109, 97, 120] = false) {i nx : Nat} (hi : i < nx) :
  RetX Tryd.prog 98 [.ptr i 0] [(i, pOb l p)] nx (PPost l i nx zmY (zbf l (f + 1) p)) := by
 have hne := zbh hi
 have hp := (List.getElem?_eq_some_iff.1 ht).1
 have hnx := zcw l p t ht hl.len
 have hll := hl.len
 have hp2 := zcB hl h3
 rw [zbf, ht]
 have hh1 := fun nx' (h : nx ≤ nx') => zbE l p [116, 114, 117, 101] i nx' (by omega) hp hl.len
 have hh2 := fun nx' (h : nx ≤ nx') => zbE l p [102, 97, 108, 115, 101] i nx' (by omega) hp hl.len
 have hm1 := zey l p [109, 105, 110] hp hl.len
 have hm2 := zey l p [109, 97, 120] hp hl.len
 simp only [hk, h1, h2, h3, h4, if_false, if_true, Bool.false_eq_true, or_true, true_or] at hh1 hh2 hm1 hm2 ⊢
 have hw1 := fun nx' (h : nx ≤ nx') => zhp hl [40] (q := (p + 1)) (i := i) (nx := nx') (by omega) hp2
 cases hr0 : zcW l (p + 1) [[40]] with
 | stop pos e =>
  simp only [hr0] at hw1
  (refine RetX.of_bodyW Tryd.func98 rfl (by simp) fun Γ hn hpan => ?_); simp only [entry, List.zipIdx_cons, List.zipIdx_nil, List.map_cons, List.map_nil, Nat.zero_add, Tryd.ntmps98]
  repeat' (first
  | (refine zah ?_; simp [hne, hk, del, Nat.add_assoc])
  | (refine zak ?_; simp [hne, hk, del, Nat.add_assoc])
  | (refine ⟨by omega, ?_⟩)
  | (refine zai ?_; simp [hne, hk, del, Nat.add_assoc])
  | (refine zag ?_; simp [hne, hk, del, Nat.add_assoc])
  | (refine zaq ?_; simp only [zal])
  | (refine CallP.fun_ (hnx) (by first | rfl | fail) (by first | assumption | (simp; done) | fail) (by first | (simp [hne, hk, del, Nat.add_assoc]; done) | (simp [hne, hk, del, Nat.add_assoc]; rfl) | fail) (by first | (simp; done) | fail) (fun d hd => ?_); subst hd; (try simp [hne, hk, del, Nat.add_assoc]))
  | (refine CallP.fun_ (hm1) (by first | rfl | fail) (by first | assumption | (simp; done) | fail) (by first | (simp [hne, hk, del, Nat.add_assoc]; done) | (simp [hne, hk, del, Nat.add_assoc]; rfl) | fail) (by first | (simp; done) | fail) (fun d hd => ?_); subst hd; (try simp [hne, hk, del, Nat.add_assoc]))
  | (refine CallP.fun_ (hm2) (by first | rfl | fail) (by first | assumption | (simp; done) | fail) (by first | (simp [hne, hk, del, Nat.add_assoc]; done) | (simp [hne, hk, del, Nat.add_assoc]; rfl) | fail) (by first | (simp; done) | fail) (fun d hd => ?_); subst hd; (try simp [hne, hk, del, Nat.add_assoc]))
  | (refine CallP.ok1 (hh1 _ (by first | omega | (simp; done) | (simp; omega) | fail)) (by first | (simp [hne, hk, del, Nat.add_assoc, zaa, getK, zab, zac]; done) | fail) (by rfl) (by first | assumption | (simp; done) | fail) (by rfl) (by simp) ?_; (try simp [hne, hk, del, Nat.add_assoc]))
  | (refine CallP.ok1 (hh2 _ (by first | omega | (simp; done) | (simp; omega) | fail)) (by first | (simp [hne, hk, del, Nat.add_assoc, zaa, getK, zab, zac]; done) | fail) (by rfl) (by first | assumption | (simp; done) | fail) (by rfl) (by simp) ?_; (try simp [hne, hk, del, Nat.add_assoc]))
  | (refine CallP.zfc (hw1 _ (by first | omega | (simp; done) | (simp; omega) | fail)) (by first | (simp [hne, hk, del, Nat.add_assoc, zaa, getK, zab, zac]; done) | fail) (by rfl) (by first | assumption | (simp; done) | fail) (by rfl) (by simp) ?_; rintro ob' ⟨q', rfl⟩; refine ⟨_, Wk.refl _, ?_⟩)
  | (refine za2 (by first | rfl | fail) ?_; simp [hne, hk, del, Nat.add_assoc, frzN, frz1, zaV, zaU, St.frz, St.frzS, frzS, fv, zbH, zbJ, zbK, zaY, zaF, zaA, del, frz, zb2])
  | fail)
  (refine hpan _ _ ⟨{ n := _, env := [], obs := [(i, pOb l q')], next := nx }, (Wk.cut rfl (by simp [hn]) (by simp [wkO, zaa, getK, zab, zac, Ob.under, D.under, zad, zaf, hi, hne, zab, zac, zaa, getK]) (by simp [wkU, zap, zaa, getK, D.under, hi, hne, zab, zac, zaa, getK]) (by simp [wkE, zap, zaa, getK, hi, hne, zab, zac, zaa, getK])), by simp [hn], ?_⟩; try simp)
  exact PPost.zbn (by simp [PR.bind, *])
 | ok v0 q0 =>
  simp only [hr0] at hw1
  obtain ⟨g0a, g0b⟩ := zb3 hl _ hr0 hp2
  have ha := fun nx' (h : nx ≤ nx') => hE q0 0 i nx' (by omega) g0b (by omega) (by omega) (by omega)
  cases hr1 : zeM l f q0 0 with
  | stop pos e =>
   simp only [hr1] at ha
   (refine RetX.of_bodyW Tryd.func98 rfl (by simp) fun Γ hn hpan => ?_); simp only [entry, List.zipIdx_cons, List.zipIdx_nil, List.map_cons, List.map_nil, Nat.zero_add, Tryd.ntmps98]
   repeat' (first
  | (refine zah ?_; simp [hne, hk, del, Nat.add_assoc])
  | (refine zak ?_; simp [hne, hk, del, Nat.add_assoc])
  | (refine ⟨by omega, ?_⟩)
  | (refine zai ?_; simp [hne, hk, del, Nat.add_assoc])
  | (refine zag ?_; simp [hne, hk, del, Nat.add_assoc])
  | (refine zaq ?_; simp only [zal])
  | (refine CallP.fun_ (hnx) (by first | rfl | fail) (by first | assumption | (simp; done) | fail) (by first | (simp [hne, hk, del, Nat.add_assoc]; done) | (simp [hne, hk, del, Nat.add_assoc]; rfl) | fail) (by first | (simp; done) | fail) (fun d hd => ?_); subst hd; (try simp [hne, hk, del, Nat.add_assoc]))
  | (refine CallP.fun_ (hm1) (by first | rfl | fail) (by first | assumption | (simp; done) | fail) (by first | (simp [hne, hk, del, Nat.add_assoc]; done) | (simp [hne, hk, del, Nat.add_assoc]; rfl) | fail) (by first | (simp; done) | fail) (fun d hd => ?_); subst hd; (try simp [hne, hk, del, Nat.add_assoc]))
  | (refine CallP.fun_ (hm2) (by first | rfl | fail) (by first | assumption | (simp; done) | fail) (by first | (simp [hne, hk, del, Nat.add_assoc]; done) | (simp [hne, hk, del, Nat.add_assoc]; rfl) | fail) (by first | (simp; done) | fail) (fun d hd => ?_); subst hd; (try simp [hne, hk, del, Nat.add_assoc]))
  | (refine CallP.ok1 (hh1 _ (by first | omega | (simp; done) | (simp; omega) | fail)) (by first | (simp [hne, hk, del, Nat.add_assoc, zaa, getK, zab, zac]; done) | fail) (by rfl) (by first | assumption | (simp; done) | fail) (by rfl) (by simp) ?_; (try simp [hne, hk, del, Nat.add_assoc]))
  | (refine CallP.ok1 (hh2 _ (by first | omega | (simp; done) | (simp; omega) | fail)) (by first | (simp [hne, hk, del, Nat.add_assoc, zaa, getK, zab, zac]; done) | fail) (by rfl) (by first | assumption | (simp; done) | fail) (by rfl) (by simp) ?_; (try simp [hne, hk, del, Nat.add_assoc]))
  | (refine CallP.ok1 (hw1 _ (by first | omega | (simp; done) | (simp; omega) | fail)) (by first | (simp [hne, hk, del, Nat.add_assoc, zaa, getK, zab, zac]; done) | fail) (by rfl) (by first | assumption | (simp; done) | fail) (by rfl) (by simp) ?_; (try simp [hne, hk, del, Nat.add_assoc]))
  | (refine CallP.zfc (ha _ (by first | omega | (simp; done) | (simp; omega) | fail)) (by first | (simp [hne, hk, del, Nat.add_assoc, zaa, getK, zab, zac]; done) | fail) (by rfl) (by first | assumption | (simp; done) | fail) (by rfl) (by simp) ?_; rintro ob' ⟨q', rfl⟩; refine ⟨_, Wk.refl _, ?_⟩)
  | (refine za2 (by first | rfl | fail) ?_; simp [hne, hk, del, Nat.add_assoc, frzN, frz1, zaV, zaU, St.frz, St.frzS, frzS, fv, zbH, zbJ, zbK, zaY, zaF, zaA, del, frz, zb2])
  | fail)
   (refine hpan _ _ ⟨{ n := _, env := [], obs := [(i, pOb l q')], next := nx }, (Wk.cut rfl (by simp [hn]) (by simp [wkO, zaa, getK, zab, zac, Ob.under, D.under, zad, zaf, hi, hne, zab, zac, zaa, getK]) (by simp [wkU, zap, zaa, getK, D.under, hi, hne, zab, zac, zaa, getK]) (by simp [wkE, zap, zaa, getK, hi, hne, zab, zac, zaa, getK])), by simp [hn], ?_⟩; try simp)
   exact PPost.zbn (by simp [PR.bind, *])
  | ok v1 q1 =>
   have ha := fun nx' h => zdr (ha nx' h) hr1
   obtain ⟨g1a, g1b⟩ := (zcD hl f).1 _ _ _ _ hr1 g0b
   have hw2 := fun nx' (h : nx ≤ nx') => zhp hl [44] (q := q1) (i := i) (nx := nx') (by omega) g1b
   cases hr2 : zcW l q1 [[44]] with
   | stop pos e =>
    simp only [hr2] at hw2
    (refine RetX.of_bodyW Tryd.func98 rfl (by simp) fun Γ hn hpan => ?_); simp only [entry, List.zipIdx_cons, List.zipIdx_nil, List.map_cons, List.map_nil, Nat.zero_add, Tryd.ntmps98]
    repeat' (first
  | (refine zah ?_; simp [hne, hk, del, Nat.add_assoc])
  | (refine zak ?_; simp [hne, hk, del, Nat.add_assoc])
  | (refine ⟨by omega, ?_⟩)
  | (refine zai ?_; simp [hne, hk, del, Nat.add_assoc])
  | (refine zag ?_; simp [hne, hk, del, Nat.add_assoc])
  | (refine zaq ?_; simp only [zal])
  | (refine CallP.fun_ (hnx) (by first | rfl | fail) (by first | assumption | (simp; done) | fail) (by first | (simp [hne, hk, del, Nat.add_assoc]; done) | (simp [hne, hk, del, Nat.add_assoc]; rfl) | fail) (by first | (simp; done) | fail) (fun d hd => ?_); subst hd; (try simp [hne, hk, del, Nat.add_assoc]))
  | (refine CallP.fun_ (hm1) (by first | rfl | fail) (by first | assumption | (simp; done) | fail) (by first | (simp [hne, hk, del, Nat.add_assoc]; done) | (simp [hne, hk, del, Nat.add_assoc]; rfl) | fail) (by first | (simp; done) | fail) (fun d hd => ?_); subst hd; (try simp [hne, hk, del, Nat.add_assoc]))
  | (refine CallP.fun_ (hm2) (by first | rfl | fail) (by first | assumption | (simp; done) | fail) (by first | (simp [hne, hk, del, Nat.add_assoc]; done) | (simp [hne, hk, del, Nat.add_assoc]; rfl) | fail) (by first | (simp; done) | fail) (fun d hd => ?_); subst hd; (try simp [hne, hk, del, Nat.add_assoc]))
  | (refine CallP.ok1 (hh1 _ (by first | omega | (simp; done) | (simp; omega) | fail)) (by first | (simp [hne, hk, del, Nat.add_assoc, zaa, getK, zab, zac]; done) | fail) (by rfl) (by first | assumption | (simp; done) | fail) (by rfl) (by simp) ?_; (try simp [hne, hk, del, Nat.add_assoc]))
  | (refine CallP.ok1 (hh2 _ (by first | omega | (simp; done) | (simp; omega) | fail)) (by first | (simp [hne, hk, del, Nat.add_assoc, zaa, getK, zab, zac]; done) | fail) (by rfl) (by first | assumption | (simp; done) | fail) (by rfl) (by simp) ?_; (try simp [hne, hk, del, Nat.add_assoc]))
  | (refine CallP.ok1 (hw1 _ (by first | omega | (simp; done) | (simp; omega) | fail)) (by first | (simp [hne, hk, del, Nat.add_assoc, zaa, getK, zab, zac]; done) | fail) (by rfl) (by first | assumption | (simp; done) | fail) (by rfl) (by simp) ?_; (try simp [hne, hk, del, Nat.add_assoc]))
  | (refine CallP.ok1 (ha _ (by first | omega | (simp; done) | (simp; omega) | fail)) (by first | (simp [hne, hk, del, Nat.add_assoc, zaa, getK, zab, zac]; done) | fail) (by rfl) (by first | assumption | (simp; done) | fail) (by rfl) (by simp) ?_; (try simp [hne, hk, del, Nat.add_assoc]))
  | (refine CallP.zfc (hw2 _ (by first | omega | (simp; done) | (simp; omega) | fail)) (by first | (simp [hne, hk, del, Nat.add_assoc, zaa, getK, zab, zac]; done) | fail) (by rfl) (by first | assumption | (simp; done) | fail) (by rfl) (by simp) ?_; rintro ob' ⟨q', rfl⟩; refine ⟨_, Wk.refl _, ?_⟩)
  | (refine za2 (by first | rfl | fail) ?_; simp [hne, hk, del, Nat.add_assoc, frzN, frz1, zaV, zaU, St.frz, St.frzS, frzS, fv, zbH, zbJ, zbK, zaY, zaF, zaA, del, frz, zb2])
  | fail)
    (refine hpan _ _ ⟨{ n := _, env := [], obs := [(i, pOb l q')], next := nx }, (Wk.cut rfl (by simp [hn]) (by simp [wkO, zaa, getK, zab, zac, Ob.under, D.under, zad, zaf, hi, hne, zab, zac, zaa, getK]) (by simp [wkU, zap, zaa, getK, D.under, hi, hne, zab, zac, zaa, getK]) (by simp [wkE, zap, zaa, getK, hi, hne, zab, zac, zaa, getK])), by simp [hn], ?_⟩; try simp)
    exact PPost.zbn (by simp [PR.bind, *])
   | ok v2 q2 =>
    simp only [hr2] at hw2
    obtain ⟨g2a, g2b⟩ := zb3 hl _ hr2 g1b
    have hb := fun nx' (h : nx ≤ nx') => hE q2 0 i nx' (by omega) g2b (by omega) (by omega) (by omega)
    cases hr3 : zeM l f q2 0 with
    | stop pos e =>
     simp only [hr3] at hb
     (refine RetX.of_bodyW Tryd.func98 rfl (by simp) fun Γ hn hpan => ?_); simp only [entry, List.zipIdx_cons, List.zipIdx_nil, List.map_cons, List.map_nil, Nat.zero_add, Tryd.ntmps98]
     repeat' (first
  | (refine zah ?_; simp [hne, hk, del, Nat.add_assoc])
  | (refine zak ?_; simp [hne, hk, del, Nat.add_assoc])
  | (refine ⟨by omega, ?_⟩)
  | (refine zai ?_; simp [hne, hk, del, Nat.add_assoc])
  | (refine zag ?_; simp [hne, hk, del, Nat.add_assoc])
  | (refine zaq ?_; simp only [zal])
  | (refine CallP.fun_ (hnx) (by first | rfl | fail) (by first | assumption | (simp; done) | fail) (by first | (simp [hne, hk, del, Nat.add_assoc]; done) | (simp [hne, hk, del, Nat.add_assoc]; rfl) | fail) (by first | (simp; done) | fail) (fun d hd => ?_); subst hd; (try simp [hne, hk, del, Nat.add_assoc]))
  | (refine CallP.fun_ (hm1) (by first | rfl | fail) (by first | assumption | (simp; done) | fail) (by first | (simp [hne, hk, del, Nat.add_assoc]; done) | (simp [hne, hk, del, Nat.add_assoc]; rfl) | fail) (by first | (simp; done) | fail) (fun d hd => ?_); subst hd; (try simp [hne, hk, del, Nat.add_assoc]))
  | (refine CallP.fun_ (hm2) (by first | rfl | fail) (by first | assumption | (simp; done) | fail) (by first | (simp [hne, hk, del, Nat.add_assoc]; done) | (simp [hne, hk, del, Nat.add_assoc]; rfl) | fail) (by first | (simp; done) | fail) (fun d hd => ?_); subst hd; (try simp [hne, hk, del, Nat.add_assoc]))
  | (refine CallP.ok1 (hh1 _ (by first | omega | (simp; done) | (simp; omega) | fail)) (by first | (simp [hne, hk, del, Nat.add_assoc, zaa, getK, zab, zac]; done) | fail) (by rfl) (by first | assumption | (simp; done) | fail) (by rfl) (by simp) ?_; (try simp [hne, hk, del, Nat.add_assoc]))
  | (refine CallP.ok1 (hh2 _ (by first | omega | (simp; done) | (simp; omega) | fail)) (by first | (simp [hne, hk, del, Nat.add_assoc, zaa, getK, zab, zac]; done) | fail) (by rfl) (by first | assumption | (simp; done) | fail) (by rfl) (by simp) ?_; (try simp [hne, hk, del, Nat.add_assoc]))
  | (refine CallP.ok1 (hw1 _ (by first | omega | (simp; done) | (simp; omega) | fail)) (by first | (simp [hne, hk, del, Nat.add_assoc, zaa, getK, zab, zac]; done) | fail) (by rfl) (by first | assumption | (simp; done) | fail) (by rfl) (by simp) ?_; (try simp [hne, hk, del, Nat.add_assoc]))
  | (refine CallP.ok1 (ha _ (by first | omega | (simp; done) | (simp; omega) | fail)) (by first | (simp [hne, hk, del, Nat.add_assoc, zaa, getK, zab, zac]; done) | fail) (by rfl) (by first | assumption | (simp; done) | fail) (by rfl) (by simp) ?_; (try simp [hne, hk, del, Nat.add_assoc]))
  | (refine CallP.ok1 (hw2 _ (by first | omega | (simp; done) | (simp; omega) | fail)) (by first | (simp [hne, hk, del, Nat.add_assoc, zaa, getK, zab, zac]; done) | fail) (by rfl) (by first | assumption | (simp; done) | fail) (by rfl) (by simp) ?_; (try simp [hne, hk, del, Nat.add_assoc]))
  | (refine CallP.zfc (hb _ (by first | omega | (simp; done) | (simp; omega) | fail)) (by first | (simp [hne, hk, del, Nat.add_assoc, zaa, getK, zab, zac]; done) | fail) (by rfl) (by first | assumption | (simp; done) | fail) (by rfl) (by simp) ?_; rintro ob' ⟨q', rfl⟩; refine ⟨_, Wk.refl _, ?_⟩)
  | (refine za2 (by first | rfl | fail) ?_; simp [hne, hk, del, Nat.add_assoc, frzN, frz1, zaV, zaU, St.frz, St.frzS, frzS, fv, zbH, zbJ, zbK, zaY, zaF, zaA, del, frz, zb2])
  | fail)
     (refine hpan _ _ ⟨{ n := _, env := [], obs := [(i, pOb l q')], next := nx }, (Wk.cut rfl (by simp [hn]) (by simp [wkO, zaa, getK, zab, zac, Ob.under, D.under, zad, zaf, hi, hne, zab, zac, zaa, getK]) (by simp [wkU, zap, zaa, getK, D.under, hi, hne, zab, zac, zaa, getK]) (by simp [wkE, zap, zaa, getK, hi, hne, zab, zac, zaa, getK])), by simp [hn], ?_⟩; try simp)
     exact PPost.zbn (by simp [PR.bind, *])
    | ok v3 q3 =>
     have hb := fun nx' h => zdr (hb nx' h) hr3
     obtain ⟨g3a, g3b⟩ := (zcD hl f).1 _ _ _ _ hr3 g2b
     have hw3 := fun nx' (h : nx ≤ nx') => zhp hl [41] (q := q3) (i := i) (nx := nx') (by omega) g3b
     cases hr4 : zcW l q3 [[41]] with
     | stop pos e =>
      simp only [hr4] at hw3
      (refine RetX.of_bodyW Tryd.func98 rfl (by simp) fun Γ hn hpan => ?_); simp only [entry, List.zipIdx_cons, List.zipIdx_nil, List.map_cons, List.map_nil, Nat.zero_add, Tryd.ntmps98]
      repeat' (first
  | (refine zah ?_; simp [hne, hk, del, Nat.add_assoc])
  | (refine zak ?_; simp [hne, hk, del, Nat.add_assoc])
  | (refine ⟨by omega, ?_⟩)
  | (refine zai ?_; simp [hne, hk, del, Nat.add_assoc])
  | (refine zag ?_; simp [hne, hk, del, Nat.add_assoc])
  | (refine zaq ?_; simp only [zal])
  | (refine CallP.fun_ (hnx) (by first | rfl | fail) (by first | assumption | (simp; done) | fail) (by first | (simp [hne, hk, del, Nat.add_assoc]; done) | (simp [hne, hk, del, Nat.add_assoc]; rfl) | fail) (by first | (simp; done) | fail) (fun d hd => ?_); subst hd; (try simp [hne, hk, del, Nat.add_assoc]))
  | (refine CallP.fun_ (hm1) (by first | rfl | fail) (by first | assumption | (simp; done) | fail) (by first | (simp [hne, hk, del, Nat.add_assoc]; done) | (simp [hne, hk, del, Nat.add_assoc]; rfl) | fail) (by first | (simp; done) | fail) (fun d hd => ?_); subst hd; (try simp [hne, hk, del, Nat.add_assoc]))
  | (refine CallP.fun_ (hm2) (by first | rfl | fail) (by first | assumption | (simp; done) | fail) (by first | (simp [hne, hk, del, Nat.add_assoc]; done) | (simp [hne, hk, del, Nat.add_assoc]; rfl) | fail) (by first | (simp; done) | fail) (fun d hd => ?_); subst hd; (try simp [hne, hk, del, Nat.add_assoc]))
  | (refine CallP.ok1 (hh1 _ (by first | omega | (simp; done) | (simp; omega) | fail)) (by first | (simp [hne, hk, del, Nat.add_assoc, zaa, getK, zab, zac]; done) | fail) (by rfl) (by first | assumption | (simp; done) | fail) (by rfl) (by simp) ?_; (try simp [hne, hk, del, Nat.add_assoc]))
  | (refine CallP.ok1 (hh2 _ (by first | omega | (simp; done) | (simp; omega) | fail)) (by first | (simp [hne, hk, del, Nat.add_assoc, zaa, getK, zab, zac]; done) | fail) (by rfl) (by first | assumption | (simp; done) | fail) (by rfl) (by simp) ?_; (try simp [hne, hk, del, Nat.add_assoc]))
  | (refine CallP.ok1 (hw1 _ (by first | omega | (simp; done) | (simp; omega) | fail)) (by first | (simp [hne, hk, del, Nat.add_assoc, zaa, getK, zab, zac]; done) | fail) (by rfl) (by first | assumption | (simp; done) | fail) (by rfl) (by simp) ?_; (try simp [hne, hk, del, Nat.add_assoc]))
  | (refine CallP.ok1 (ha _ (by first | omega | (simp; done) | (simp; omega) | fail)) (by first | (simp [hne, hk, del, Nat.add_assoc, zaa, getK, zab, zac]; done) | fail) (by rfl) (by first | assumption | (simp; done) | fail) (by rfl) (by simp) ?_; (try simp [hne, hk, del, Nat.add_assoc]))
  | (refine CallP.ok1 (hw2 _ (by first | omega | (simp; done) | (simp; omega) | fail)) (by first | (simp [hne, hk, del, Nat.add_assoc, zaa, getK, zab, zac]; done) | fail) (by rfl) (by first | assumption | (simp; done) | fail) (by rfl) (by simp) ?_; (try simp [hne, hk, del, Nat.add_assoc]))
  | (refine CallP.ok1 (hb _ (by first | omega | (simp; done) | (simp; omega) | fail)) (by first | (simp [hne, hk, del, Nat.add_assoc, zaa, getK, zab, zac]; done) | fail) (by rfl) (by first | assumption | (simp; done) | fail) (by rfl) (by simp) ?_; (try simp [hne, hk, del, Nat.add_assoc]))
  | (refine CallP.zfc (hw3 _ (by first | omega | (simp; done) | (simp; omega) | fail)) (by first | (simp [hne, hk, del, Nat.add_assoc, zaa, getK, zab, zac]; done) | fail) (by rfl) (by first | assumption | (simp; done) | fail) (by rfl) (by simp) ?_; rintro ob' ⟨q', rfl⟩; refine ⟨_, Wk.refl _, ?_⟩)
  | (refine za2 (by first | rfl | fail) ?_; simp [hne, hk, del, Nat.add_assoc, frzN, frz1, zaV, zaU, St.frz, St.frzS, frzS, fv, zbH, zbJ, zbK, zaY, zaF, zaA, del, frz, zb2])
  | fail)
      (refine hpan _ _ ⟨{ n := _, env := [], obs := [(i, pOb l q')], next := nx }, (Wk.cut rfl (by simp [hn]) (by simp [wkO, zaa, getK, zab, zac, Ob.under, D.under, zad, zaf, hi, hne, zab, zac, zaa, getK]) (by simp [wkU, zap, zaa, getK, D.under, hi, hne, zab, zac, zaa, getK]) (by simp [wkE, zap, zaa, getK, hi, hne, zab, zac, zaa, getK])), by simp [hn], ?_⟩; try simp)
      exact PPost.zbn (by simp [PR.bind, *])
     | ok v4 q4 =>
      simp only [hr4] at hw3
      obtain ⟨g4a, g4b⟩ := zb3 hl _ hr4 g3b
      (refine RetX.of_bodyW Tryd.func98 rfl (by simp) fun Γ hn hpan => ?_); simp only [entry, List.zipIdx_cons, List.zipIdx_nil, List.map_cons, List.map_nil, Nat.zero_add, Tryd.ntmps98]
      repeat' (first
  | (refine zah ?_; simp [hne, hk, del, Nat.add_assoc])
  | (refine zak ?_; simp [hne, hk, del, Nat.add_assoc])
  | (refine ⟨by omega, ?_⟩)
  | (refine zai ?_; simp [hne, hk, del, Nat.add_assoc])
  | (refine zag ?_; simp [hne, hk, del, Nat.add_assoc])
  | (refine zar ?_; simp only [zal])
  | (refine zaq ?_; simp only [zal])
  | (refine CallP.fun_ (hnx) (by first | rfl | fail) (by first | assumption | (simp; done) | fail) (by first | (simp [hne, hk, del, Nat.add_assoc]; done) | (simp [hne, hk, del, Nat.add_assoc]; rfl) | fail) (by first | (simp; done) | fail) (fun d hd => ?_); subst hd; (try simp [hne, hk, del, Nat.add_assoc]))
  | (refine CallP.fun_ (hm1) (by first | rfl | fail) (by first | assumption | (simp; done) | fail) (by first | (simp [hne, hk, del, Nat.add_assoc]; done) | (simp [hne, hk, del, Nat.add_assoc]; rfl) | fail) (by first | (simp; done) | fail) (fun d hd => ?_); subst hd; (try simp [hne, hk, del, Nat.add_assoc]))
  | (refine CallP.fun_ (hm2) (by first | rfl | fail) (by first | assumption | (simp; done) | fail) (by first | (simp [hne, hk, del, Nat.add_assoc]; done) | (simp [hne, hk, del, Nat.add_assoc]; rfl) | fail) (by first | (simp; done) | fail) (fun d hd => ?_); subst hd; (try simp [hne, hk, del, Nat.add_assoc]))
  | (refine CallP.ok1 (hh1 _ (by first | omega | (simp; done) | (simp; omega) | fail)) (by first | (simp [hne, hk, del, Nat.add_assoc, zaa, getK, zab, zac]; done) | fail) (by rfl) (by first | assumption | (simp; done) | fail) (by rfl) (by simp) ?_; (try simp [hne, hk, del, Nat.add_assoc]))
  | (refine CallP.ok1 (hh2 _ (by first | omega | (simp; done) | (simp; omega) | fail)) (by first | (simp [hne, hk, del, Nat.add_assoc, zaa, getK, zab, zac]; done) | fail) (by rfl) (by first | assumption | (simp; done) | fail) (by rfl) (by simp) ?_; (try simp [hne, hk, del, Nat.add_assoc]))
  | (refine CallP.ok1 (hw1 _ (by first | omega | (simp; done) | (simp; omega) | fail)) (by first | (simp [hne, hk, del, Nat.add_assoc, zaa, getK, zab, zac]; done) | fail) (by rfl) (by first | assumption | (simp; done) | fail) (by rfl) (by simp) ?_; (try simp [hne, hk, del, Nat.add_assoc]))
  | (refine CallP.ok1 (ha _ (by first | omega | (simp; done) | (simp; omega) | fail)) (by first | (simp [hne, hk, del, Nat.add_assoc, zaa, getK, zab, zac]; done) | fail) (by rfl) (by first | assumption | (simp; done) | fail) (by rfl) (by simp) ?_; (try simp [hne, hk, del, Nat.add_assoc]))
  | (refine CallP.ok1 (hw2 _ (by first | omega | (simp; done) | (simp; omega) | fail)) (by first | (simp [hne, hk, del, Nat.add_assoc, zaa, getK, zab, zac]; done) | fail) (by rfl) (by first | assumption | (simp; done) | fail) (by rfl) (by simp) ?_; (try simp [hne, hk, del, Nat.add_assoc]))
  | (refine CallP.ok1 (hb _ (by first | omega | (simp; done) | (simp; omega) | fail)) (by first | (simp [hne, hk, del, Nat.add_assoc, zaa, getK, zab, zac]; done) | fail) (by rfl) (by first | assumption | (simp; done) | fail) (by rfl) (by simp) ?_; (try simp [hne, hk, del, Nat.add_assoc]))
  | (refine CallP.ok1 (hw3 _ (by first | omega | (simp; done) | (simp; omega) | fail)) (by first | (simp [hne, hk, del, Nat.add_assoc, zaa, getK, zab, zac]; done) | fail) (by rfl) (by first | assumption | (simp; done) | fail) (by rfl) (by simp) ?_; (try simp [hne, hk, del, Nat.add_assoc]))
  | (refine za2 (by first | rfl | fail) ?_; simp [hne, hk, del, Nat.add_assoc, frzN, frz1, zaV, zaU, St.frz, St.frzS, frzS, fv, zbH, zbJ, zbK, zaY, zaF, zaA, del, frz, zb2])
  | fail)
      (refine EndW.frzN 1 ?_; simp [frzN, frz1, zaV, zaU, St.frz, St.frzS, frzS, fv, zbH, zbJ, zbK, zaY, zaF, zaA, del, frz, zb2, hne, Nat.add_assoc])
      refine EndW.norm ?_
      simp [St.norm, zbq, zcf, zcy, zcz, hne, Nat.add_assoc]
      (refine EndW.here ?_; (first | (refine EndOK.fin (.inr rfl) ?_) | (refine EndOK.fin (.inl rfl) ?_)); simp [zay, zae, Tryd.results98, hne, hi]; refine FinOK.cut [(i, pOb l q4)] (nx) (by simp [zaa, getK, zab, zac, Ob.under, D.under, zad, zaf, hne, hi] <;> omega) (by simp [D.under]) (by simp [hn]) ?_; try simp)
      exact PPost.zdF (by simp [PR.bind, *]; rfl) (by simp [Exp.row_eq, Exp.op, Exp.n, Exp.unit, Exp.s, Exp.args]) rfl
end Go.Proofs.YtfcopibncpkdoaaDoor
