/- Texts joined by a program of mine: Mg Mh Ef Eg Eh Ei El En Ep Ej Ek Eo Yk Zd#p Es Za. -/
import Derived.Test.YtepiegcjnaohjaaGreatDoorS4
set_option linter.all false
set_option maxRecDepth 100000
set_option maxHeartbeats 8000000
namespace Go.Proofs.YtepiegcjnaohjaaGreatDoor
open Go Go.VL
attribute [local simp] HS zcR zb9 evPure opd uOf zaI St.put St.at getK binD binI binS binB nilD aggD zg9 zit lookD lookR zcz rangeS Go.VL.nextD Go.VL.nextS zcB ziI ziG zga zb6 mkV zbi zbh zcK zbg zbs zbB mapEff zdf zf6 Key.kk shiftI arith unD convD zdK loadD cellsAt fieldAddrD fieldD indexAddrD indexSlD arrAddr indexD sliceD cutD lenD minmaxD nilCheckD buildD fillD zbQ zcV zex setAll zcF zer zcs zhq zcq St.add zaU zbO rowsOf zdE zco zax zac zaa zby zdg za8 entry zbq zbv valD zb7 zcp zgE zdc zdd zbU zbJ zaA zaY zbt delAll effD St.effS zc4 zbj zbb zc5 zbk zbd zcm zbc za0 zcn zcW zbP zch zbw zcf zcg zaP mkD zbR zbF zbI zaA zcr D.ids Op.operands Call.operands zbN makeIfD makeFuncD typeAssertD zis zdw zdx zhx zcA IntKind.bits zcC List.take_of_length_le List.range_succ
attribute [local irreducible] V G H HD HD2 HD4 zmv RetX zan Eff CallP CallV EndOK Fun Ret FinOK LoopI LoopW EndW
theorem zl2 : zi9 0 = .u (.row (usesL.map .str) 0) := by
 simp [zi9, globs, usesL, uOf]
theorem zhS (e : En) (h0 : 0 ≤ e.kind) (h1 : e.kind < 21) : Fun Tryz.prog 172 [.u (.agg (zav e))] (· = .u (.bool (ze8 e))) := by
 obtain ⟨R, hR⟩ : ∃ R, R = ze8 e := ⟨_, rfl⟩
 rw [← hR]
 have hgu := zl2
 have hul : usesL.length = 21 := rfl
 have hu : usesL[e.kind.toNat]? = some (usesL.getD e.kind.toNat []) := by
  rw [List.getD, List.getElem?_eq_getElem (by omega)]; rfl
 have hok : ∀ i, zmO e i = ((zjL e).getD i true || zg6 (usesL.getD e.kind.toNat []) (zS.getD i 0).toNat) := fun i => rfl
 have hno : ∀ i, i < 8 → zmO e i = false → R = false := fun i hi h => by rw [hR]; exact zlg hi h
 have hyes : (∀ j, j < 8 → zmO e j = true) → R = true := fun h => by rw [hR]; exact zkb h
 have hF : ∃ F, F = zjL e := ⟨_, rfl⟩
 obtain ⟨F, hF⟩ := hF
 have hFl : F.length = 8 := by rw [hF]; rfl
 have hFm : F.map (fun b => D.u (U.bool b)) = [.u (.bool (decide (e.circle = 0))), .u (.bool (decide (e.who = 0))), .u (.bool (decide (e.n = 0))), .u (.bool (decide (e.m = 0))), .u (.bool (decide (e.ref = -1))), .u (.bool (decide (e.keys = []))), .u (.bool (decide (e.spans = []))), .u (.bool (decide (e.text = [])))] := by
  rw [hF]; simp [zjL]
 rw [← hF] at hok
 have hzl : zS.length = 8 := rfl
 have hzz : ∀ i, i < 8 → (zS.getD i 0).toNat < 128 := by decide
 have hru := fun r h => zmK (usesL.getD e.kind.toNat []) r h
 generalize usesL.getD e.kind.toNat [] = us at *
 have hu' : ∀ h, usesL[e.kind.toNat]'h = us := fun h => (List.getElem?_eq_some_iff.1 hu).2
 clear hR hF
 have hkn : ((e.kind.toNat : Nat) : Int) = e.kind := by omega
 unfold zav
 (refine Fun.of_bodyW Tryz.func172 rfl (by simp) fun Γ hn => ?_); simp only [entry, List.zipIdx_cons, List.zipIdx_nil, List.map_cons, List.map_nil, Nat.zero_add, Tryz.ntmps172]
 repeat' (first
  | (refine zag ?_; simp [hgu, hul, hu, hu', h0, h1, hkn])
  | (refine zaj ?_; simp [hgu, hul, hu, hu', h0, h1, hkn])
  | (refine zah ?_; simp [hgu, hul, hu, hu', h0, h1, hkn])
  | (refine zau ?_; simp [hgu, hul, hu, hu', h0, h1, hkn])
  | fail)
 refine zde (α := { i : Nat // i ≤ 8 ∧ ∀ j, j < i → zmO e j = true }) [3, 4, 38] (fun i => []) (fun i => [(1, .box (F.map fun b => D.u (U.bool b))), (2, .sit zS i.1)]) 3 (fun i => 8 - i.1) ⟨0, by omega, by omega⟩ ?_ ?_
 ·exact (Wk.cut rfl (by simp [hn, St.lp]) (by simp [wkO, St.lp, zaa, getK, Ob.under, D.under, zad, zae, hFm, zS]) (by simp [wkU, St.lp, zak, zaa, getK, D.under, hFm, zS]) (by simp [wkE, St.lp, zak, zaa, getK, hFm, zS] <;> (try (intros; simp_all; done)) <;> (try (intros; omega)) <;> (try grind)))
 rintro ⟨i, hi, hb⟩
 simp [St.lp, St.only, zak, zaa, getK]
 by_cases h8 : i = 8
 ·subst h8
  rw [hyes hb]
  repeat' (first
  | (refine zag ?_; simp [hzl])
  | (refine zaj ?_; simp [hzl])
  | (refine zah ?_; simp [hzl])
  | (refine zas ?_; simp only [zan])
  | (refine zaZ ?_; simp [zan])
  | fail)
  refine EndW.here ?_
  (refine EndOK.val (.inr rfl) ?_; simp [zaC, zaf, zaw, Tryz.results172])
 ·have hi8 : i < 8 := by omega
  have hz := hzz i hi8
  have hrc := hru _ hz
  have hoi := hok i
  have hni := hno i hi8
  have hx : F[i]? = some (F.getD i true) := by rw [List.getD, List.getElem?_eq_getElem (by omega)]; rfl
  have hzi : zS[i]?.getD 0 = zS.getD i 0 := by simp [List.getD]
  have hzg : ∀ h, zS[i]'h = zS.getD i 0 := fun h => by simp [List.getD, h]
  generalize zS.getD i 0 = c at *
  generalize F.getD i true = b at *
  have hsucc : zmO e i = true → ∀ j, j < i + 1 → zmO e j = true := fun h j hj => by
   by_cases e1 : j < i
   ·exact hb j e1
   ·rw [show j = i by omega]; exact h
  cases b with
  | true =>
   repeat' (first
  | (refine zag ?_; simp [hzl, hi8, hz, hzi, hzg, hx])
  | (refine zaj ?_; simp [hzl, hi8, hz, hzi, hzg, hx])
  | (refine zah ?_; simp [hzl, hi8, hz, hzi, hzg, hx])
  | (refine zai ?_; simp [hzl, hi8, hz, hzi, hzg, hx])
  | (refine zau ?_; simp [hzl, hi8, hz, hzi, hzg, hx])
  | (refine zaq ?_; simp only [zan])
  | fail)
   refine LoopW.next ⟨i + 1, by omega, hsucc (by rw [hoi]; simp)⟩ (by simp; omega) ?_
   exact (Wk.cut rfl (by simp [hn, St.lp]) (by simp [wkO, St.lp, zaa, getK, Ob.under, D.under, zad, zae]) (by simp [wkU, St.lp, zak, zaa, getK, D.under]) (by simp [wkE, St.lp, zak, zaa, getK] <;> (try (intros; simp_all; done)) <;> (try (intros; omega)) <;> (try grind)))
  | false =>
   generalize zg6 us c.toNat = r at *
   cases r with
   | true =>
    repeat' (first
  | (refine zag ?_; simp [hzl, hi8, hz, hzi, hzg, hx])
  | (refine zaj ?_; simp [hzl, hi8, hz, hzi, hzg, hx])
  | (refine zah ?_; simp [hzl, hi8, hz, hzi, hzg, hx])
  | (refine zai ?_; simp [hzl, hi8, hz, hzi, hzg, hx])
  | (refine zau ?_; simp [hzl, hi8, hz, hzi, hzg, hx])
  | (refine zaq ?_; simp only [zan])
  | (refine CallP.fun_ (hrc) (by first | rfl | fail) (by first | assumption | (simp; done) | fail) (by first | (simp [hzl, hi8, hz, hzi, hzg, hx]; done) | (simp [hzl, hi8, hz, hzi, hzg, hx]; rfl) | fail) (by first | (simp; done) | fail) (fun d hd => ?_); subst hd; (try simp [hzl, hi8, hz, hzi, hzg, hx]))
  | fail)
    refine LoopW.next ⟨i + 1, by omega, hsucc (by rw [hoi]; simp)⟩ (by simp; omega) ?_
    exact (Wk.cut rfl (by simp [hn, St.lp]) (by simp [wkO, St.lp, zaa, getK, Ob.under, D.under, zad, zae]) (by simp [wkU, St.lp, zak, zaa, getK, D.under]) (by simp [wkE, St.lp, zak, zaa, getK] <;> (try (intros; simp_all; done)) <;> (try (intros; omega)) <;> (try grind)))
   | false =>
    rw [hni (by rw [hoi]; simp)]
    repeat' (first
  | (refine zag ?_; simp [hzl, hi8, hz, hzi, hzg, hx])
  | (refine zaj ?_; simp [hzl, hi8, hz, hzi, hzg, hx])
  | (refine zah ?_; simp [hzl, hi8, hz, hzi, hzg, hx])
  | (refine zai ?_; simp [hzl, hi8, hz, hzi, hzg, hx])
  | (refine zau ?_; simp [hzl, hi8, hz, hzi, hzg, hx])
  | (refine zas ?_; simp only [zan])
  | (refine zaq ?_; simp only [zan])
  | (refine CallP.fun_ (hrc) (by first | rfl | fail) (by first | assumption | (simp; done) | fail) (by first | (simp [hzl, hi8, hz, hzi, hzg, hx]; done) | (simp [hzl, hi8, hz, hzi, hzg, hx]; rfl) | fail) (by first | (simp; done) | fail) (fun d hd => ?_); subst hd; (try simp [hzl, hi8, hz, hzi, hzg, hx]))
  | fail)
    refine EndW.here ?_
    (refine EndOK.val (.inr rfl) ?_; simp [zaC, zaf, zaw, Tryz.results172])
theorem zob (l : List Int) (hl : l.length ≤ 1000000) : Fun Tryz.prog 176 [.u (zbV l)] (fun d => ∃ b : Bool, d = .u (.bool b)) := by
 have h1 := zji l hl
 have h2 := fun n => zeT n
 by_cases hn : l = []
 ·subst hn
  unfold zbV
  (refine Fun.of_body Tryz.func176 rfl (by simp) fun Γ hn => ?_); simp only [entry, List.zipIdx_cons, List.zipIdx_nil, List.map_cons, List.map_nil, Nat.zero_add, Tryz.ntmps176]
  repeat' (first
  | (refine zag ?_; simp)
  | (refine zaj ?_; simp)
  | (refine zah ?_; simp)
  | (refine zas ?_; simp only [zan])
  | fail)
  all_goals
   (refine EndOK.val (.inr rfl) ?_; simp [zaC, zaf, zaw, Tryz.results176])
 ·have hp : 0 < l.length := List.length_pos_iff.2 hn
  obtain ⟨a, h3⟩ : ∃ a, l[0]'hp = a := ⟨_, rfl⟩
  obtain ⟨z, h4⟩ : ∃ z, l[l.length - 1]? = some z := ⟨_, List.getElem?_eq_getElem (by omega)⟩
  have h4' : ∀ h, l[l.length - 1]'h = z := fun h => (List.getElem?_eq_some_iff.1 h4).2
  have h5 : ((l.length : Int) - 1).toNat = l.length - 1 := by omega
  have h2a := h2 a
  have h2b := h2 z
  clear h2
  generalize zoO l = b1 at *
  generalize zm7 a = b2 at *
  generalize zm7 z = b3 at *
  unfold zbV at *
  by_cases c1 : (l.length : Int) ≤ 60
  ·cases b1
   ·(refine Fun.of_body Tryz.func176 rfl (by simp) fun Γ hn => ?_); simp only [entry, List.zipIdx_cons, List.zipIdx_nil, List.map_cons, List.map_nil, Nat.zero_add, Tryz.ntmps176]
    repeat' (first
  | (refine zag ?_; simp [hp, h3, h4, h4', h5, c1])
  | (refine zaj ?_; simp [hp, h3, h4, h4', h5, c1])
  | (refine zah ?_; simp [hp, h3, h4, h4', h5, c1])
  | (refine zas ?_; simp only [zan])
  | (refine CallP.fun_ (h1) (by first | rfl | fail) (by first | assumption | (simp; done) | fail) (by first | (simp [hp, h3, h4, h4', h5, c1]; done) | (simp [hp, h3, h4, h4', h5, c1]; rfl) | fail) (by first | (simp; done) | fail) (fun d hd => ?_); subst hd; (try simp [hp, h3, h4, h4', h5, c1]))
  | fail)
    all_goals
      (refine EndOK.val (.inr rfl) ?_; simp [zaC, zaf, zaw, Tryz.results176])
   ·cases b2
    ·(refine Fun.of_body Tryz.func176 rfl (by simp) fun Γ hn => ?_); simp only [entry, List.zipIdx_cons, List.zipIdx_nil, List.map_cons, List.map_nil, Nat.zero_add, Tryz.ntmps176]
     repeat' (first
  | (refine zag ?_; simp [hp, h3, h4, h4', h5, c1])
  | (refine zaj ?_; simp [hp, h3, h4, h4', h5, c1])
  | (refine zah ?_; simp [hp, h3, h4, h4', h5, c1])
  | (refine zas ?_; simp only [zan])
  | (refine CallP.fun_ (h1) (by first | rfl | fail) (by first | assumption | (simp; done) | fail) (by first | (simp [hp, h3, h4, h4', h5, c1]; done) | (simp [hp, h3, h4, h4', h5, c1]; rfl) | fail) (by first | (simp; done) | fail) (fun d hd => ?_); subst hd; (try simp [hp, h3, h4, h4', h5, c1]))
  | (refine CallP.fun_ (h2a) (by first | rfl | fail) (by first | assumption | (simp; done) | fail) (by first | (simp [hp, h3, h4, h4', h5, c1]; done) | (simp [hp, h3, h4, h4', h5, c1]; rfl) | fail) (by first | (simp; done) | fail) (fun d hd => ?_); subst hd; (try simp [hp, h3, h4, h4', h5, c1]))
  | fail)
     all_goals
       (refine EndOK.val (.inr rfl) ?_; simp [zaC, zaf, zaw, Tryz.results176])
    ·(refine Fun.of_body Tryz.func176 rfl (by simp) fun Γ hn => ?_); simp only [entry, List.zipIdx_cons, List.zipIdx_nil, List.map_cons, List.map_nil, Nat.zero_add, Tryz.ntmps176]
     repeat' (first
  | (refine zag ?_; simp [hp, h3, h4, h4', h5, c1])
  | (refine zaj ?_; simp [hp, h3, h4, h4', h5, c1])
  | (refine ⟨by omega, ?_⟩)
  | (refine zah ?_; simp [hp, h3, h4, h4', h5, c1])
  | (refine zas ?_; simp only [zan])
  | (refine CallP.fun_ (h1) (by first | rfl | fail) (by first | assumption | (simp; done) | fail) (by first | (simp [hp, h3, h4, h4', h5, c1]; done) | (simp [hp, h3, h4, h4', h5, c1]; rfl) | fail) (by first | (simp; done) | fail) (fun d hd => ?_); subst hd; (try simp [hp, h3, h4, h4', h5, c1]))
  | (refine CallP.fun_ (h2a) (by first | rfl | fail) (by first | assumption | (simp; done) | fail) (by first | (simp [hp, h3, h4, h4', h5, c1]; done) | (simp [hp, h3, h4, h4', h5, c1]; rfl) | fail) (by first | (simp; done) | fail) (fun d hd => ?_); subst hd; (try simp [hp, h3, h4, h4', h5, c1]))
  | (refine CallP.fun_ (h2b) (by first | rfl | fail) (by first | assumption | (simp; done) | fail) (by first | (simp [hp, h3, h4, h4', h5, c1]; done) | (simp [hp, h3, h4, h4', h5, c1]; rfl) | fail) (by first | (simp; done) | fail) (fun d hd => ?_); subst hd; (try simp [hp, h3, h4, h4', h5, c1]))
  | fail)
     all_goals
       (refine EndOK.val (.inr rfl) ?_; simp [zaC, zaf, zaw, Tryz.results176])
  ·(refine Fun.of_body Tryz.func176 rfl (by simp) fun Γ hn => ?_); simp only [entry, List.zipIdx_cons, List.zipIdx_nil, List.map_cons, List.map_nil, Nat.zero_add, Tryz.ntmps176]
   repeat' (first
  | (refine zag ?_; simp [hp, c1])
  | (refine zaj ?_; simp [hp, c1])
  | (refine zah ?_; simp [hp, c1])
  | (refine zas ?_; simp only [zan])
  | fail)
   all_goals
     (refine EndOK.val (.inr rfl) ?_; simp [zaC, zaf, zaw, Tryz.results176])
theorem zls (l : List Sp) (hl : l.length ≤ 1000000) : Fun Tryz.prog 175 [.u (zpm l)] (fun d => ∃ b : Bool, d = .u (.bool b)) := by
 unfold zpm
 (refine Fun.of_bodyW Tryz.func175 rfl (by simp) fun Γ hn => ?_); simp only [entry, List.zipIdx_cons, List.zipIdx_nil, List.map_cons, List.map_nil, Nat.zero_add, Tryz.ntmps175]
 repeat' (first
  | (refine zag ?_; simp)
  | (refine zaj ?_; simp)
  | (refine zah ?_; simp)
  | (refine zau ?_; simp)
  | fail)
 refine zbr (α := { i : Nat // i ≤ l.length }) [0, 5, 6] (fun i => [(7, .u (.int .i64 i.1))]) (fun i => l.length - i.1) ⟨0, by omega⟩ ?_ ?_
 ·exact (Wk.cut rfl (by simp [hn, St.lp]) (by simp [wkO, St.lp, zaa, getK, Ob.under, D.under, zad, zae]) (by simp [wkU, St.lp, zak, zaa, getK, D.under]) (by simp [wkE, St.lp, zak, zaa, getK] <;> (try (intros; simp_all; done)) <;> (try (intros; omega)) <;> (try grind)))
 rintro ⟨i, hi⟩
 simp [St.lp, St.only, zak, zaa, getK]
 rcases hx : l[i]? with _ | x
 ·have hge : l.length ≤ i := by simpa using hx
  repeat' (first
  | (refine zag ?_; simp [hx])
  | (refine zaj ?_; simp [hx])
  | (refine ⟨by omega, ?_⟩)
  | (refine zah ?_; simp [hx])
  | (refine zas ?_; simp only [zan])
  | (refine zaZ ?_; simp [zan])
  | (intro hc <;> (try (exfalso; omega)))
  | fail)
  all_goals
   refine EndW.here ?_
   (refine EndOK.val (.inr rfl) ?_; simp [zaC, zaf, zaw, Tryz.results175])
 ·have hlt : i < l.length := (List.getElem?_eq_some_iff.1 hx).1
  have h1 := zoS x
  generalize svB x = b at *
  cases b with
  | false =>
   repeat' (first
  | (refine zag ?_; simp [hx])
  | (refine zaN rfl ?_; simp [hx])
  | (refine zaj ?_; simp [hx])
  | (refine zah ?_; simp [hx])
  | (refine zai ?_; simp [hx])
  | (refine zaS (hC _ (by kernel_rfl)) (hk _ ?_); clear hC hk C k; simp only [zan])
  | (refine zaM rfl (by kernel_rfl) (by first | (simp [hn]; done) | (simp [hn]; omega) | fail) fun C k hC hk => ?_; simp [hx])
  | (refine ze7 rfl (by simp [hx]) ?_; simp [hx])
  | (refine zbl rfl (by simp [hx]) (fun hc => ?_) (fun hc => ?_) <;> (try simp [hx] at hc) <;> (try (exfalso; omega)) <;> (try simp [hx]))
  | (refine zas ?_; simp only [zan])
  | (refine zaq ?_; simp only [zan])
  | (refine ⟨?_, by omega⟩)
  | (intro hc <;> (try (exfalso; omega)))
  | (refine CallV.fun_ (h1) (by first | rfl | fail) (by first | assumption | (simp; done) | fail) (by first | (simp [hx]; done) | (simp [hx]; rfl) | fail) (by first | (simp; done) | fail) ?_ <;> (try simp [hx]))
  | fail)
   refine EndW.here ?_
   (refine EndOK.val (.inr rfl) ?_; simp [zaC, zaf, zaw, Tryz.results175])
  | true =>
   by_cases c0 : i = 0
   ·subst c0
    have hx' : l[0]'hlt = x := (List.getElem?_eq_some_iff.1 hx).2
    clear hx
    repeat' (first
  | (refine zag ?_; simp [hlt, hx'])
  | (refine zaN rfl ?_; simp [hlt, hx'])
  | (refine zb0 rfl ?_; simp [hlt, hx'])
  | (refine zaj ?_; simp [hlt, hx'])
  | (refine zah ?_; simp [hlt, hx'])
  | (refine zai ?_; simp [hlt, hx'])
  | (refine zaS (hC _ (by kernel_rfl)) (hk _ ?_); clear hC hk C k; simp only [zan])
  | (refine zaM rfl (by kernel_rfl) (by first | (simp [hn]; done) | (simp [hn]; omega) | fail) fun C k hC hk => ?_; simp [hlt, hx'])
  | (refine ze7 rfl (by simp [hlt, hx']) ?_; simp [hlt, hx'])
  | (refine zbl rfl (by simp [hlt, hx']) (fun hc => ?_) (fun hc => ?_) <;> (try simp [hlt, hx'] at hc) <;> (try (exfalso; omega)) <;> (try simp [hlt, hx']))
  | (refine zap ?_; simp [hlt, hx'])
  | (refine zaq ?_; simp only [zan])
  | (refine CallV.fun_ (h1) (by first | rfl | fail) (by first | assumption | (simp; done) | fail) (by first | (simp [hlt, hx']; done) | (simp [hlt, hx']; rfl) | fail) (by first | (simp; done) | fail) ?_ <;> (try simp [hlt, hx']))
  | fail)
    refine LoopW.next ⟨1, by omega⟩ (by simp; omega) ?_
    exact (Wk.cut rfl (by simp [hn, St.lp]) (by simp [wkO, St.lp, zaa, getK, Ob.under, D.under, zad, zae]) (by simp [wkU, St.lp, zak, zaa, getK, D.under]) (by simp [wkE, St.lp, zak, zaa, getK] <;> (try (intros; simp_all; done)) <;> (try (intros; omega)) <;> (try grind)))
   ·have hpos : 0 < i := by omega
    obtain ⟨y, hy⟩ : ∃ y, l[i - 1]? = some y := ⟨_, List.getElem?_eq_getElem (by omega)⟩
    have h5 : ((i : Int) - 1).toNat = i - 1 := by omega
    by_cases c1 : x.mark < y.mark
    ·repeat' (first
  | (refine zag ?_; simp [hx, hy, h5, c0, hpos, c1])
  | (refine zaN rfl ?_; simp [hx, hy, h5, c0, hpos, c1])
  | (refine zb0 rfl ?_; simp [hx, hy, h5, c0, hpos, c1])
  | (refine zaj ?_; simp [hx, hy, h5, c0, hpos, c1])
  | (refine ⟨by omega, ?_⟩)
  | (refine zah ?_; simp [hx, hy, h5, c0, hpos, c1])
  | (refine zai ?_; simp [hx, hy, h5, c0, hpos, c1])
  | (refine zaS (hC _ (by kernel_rfl)) (hk _ ?_); clear hC hk C k; simp only [zan])
  | (refine zaM rfl (by kernel_rfl) (by first | (simp [hn]; done) | (simp [hn]; omega) | fail) fun C k hC hk => ?_; simp [hx, hy, h5, c0, hpos, c1])
  | (refine ze7 rfl (by simp [hx, hy, h5, c0, hpos, c1]) ?_; simp [hx, hy, h5, c0, hpos, c1])
  | (refine zbl rfl (by simp [hx, hy, h5, c0, hpos, c1]) (fun hc => ?_) (fun hc => ?_) <;> (try simp [hx, hy, h5, c0, hpos, c1] at hc) <;> (try (exfalso; omega)) <;> (try simp [hx, hy, h5, c0, hpos, c1]))
  | (refine zas ?_; simp only [zan])
  | (refine zaq ?_; simp only [zan])
  | (refine ⟨?_, by omega⟩)
  | (intro hc <;> (try (exfalso; omega)))
  | (refine CallV.fun_ (h1) (by first | rfl | fail) (by first | assumption | (simp; done) | fail) (by first | (simp [hx, hy, h5, c0, hpos, c1]; done) | (simp [hx, hy, h5, c0, hpos, c1]; rfl) | fail) (by first | (simp; done) | fail) ?_ <;> (try simp [hx, hy, h5, c0, hpos, c1]))
  | fail)
     refine EndW.here ?_
     (refine EndOK.val (.inr rfl) ?_; simp [zaC, zaf, zaw, Tryz.results175])
    ·by_cases c2 : y.mark = x.mark
     ·by_cases c3 : x.frm ≤ y.to
      ·repeat' (first
  | (refine zag ?_; simp [hx, hy, h5, c0, hpos, c1, c2, c3])
  | (refine zaN rfl ?_; simp [hx, hy, h5, c0, hpos, c1, c2, c3])
  | (refine zb0 rfl ?_; simp [hx, hy, h5, c0, hpos, c1, c2, c3])
  | (refine zaj ?_; simp [hx, hy, h5, c0, hpos, c1, c2, c3])
  | (refine ⟨by omega, ?_⟩)
  | (refine zah ?_; simp [hx, hy, h5, c0, hpos, c1, c2, c3])
  | (refine zai ?_; simp [hx, hy, h5, c0, hpos, c1, c2, c3])
  | (refine zaS (hC _ (by kernel_rfl)) (hk _ ?_); clear hC hk C k; simp only [zan])
  | (refine zaM rfl (by kernel_rfl) (by first | (simp [hn]; done) | (simp [hn]; omega) | fail) fun C k hC hk => ?_; simp [hx, hy, h5, c0, hpos, c1, c2, c3])
  | (refine zbl rfl (by simp [hx, hy, h5, c0, hpos, c1, c2, c3]) (fun hc => ?_) (fun hc => ?_) <;> (try simp [hx, hy, h5, c0, hpos, c1, c2, c3] at hc) <;> (try (exfalso; omega)) <;> (try simp [hx, hy, h5, c0, hpos, c1, c2, c3]))
  | (refine zas ?_; simp only [zan])
  | (refine zaq ?_; simp only [zan])
  | (refine ⟨?_, by omega⟩)
  | (intro hc <;> (try (exfalso; omega)))
  | (refine CallV.fun_ (h1) (by first | rfl | fail) (by first | assumption | (simp; done) | fail) (by first | (simp [hx, hy, h5, c0, hpos, c1, c2, c3]; done) | (simp [hx, hy, h5, c0, hpos, c1, c2, c3]; rfl) | fail) (by first | (simp; done) | fail) ?_ <;> (try simp [hx, hy, h5, c0, hpos, c1, c2, c3]))
  | fail)
       refine EndW.here ?_
       (refine EndOK.val (.inr rfl) ?_; simp [zaC, zaf, zaw, Tryz.results175])
      ·repeat' (first
  | (refine zag ?_; simp [hx, hy, h5, c0, hpos, c1, c2, c3])
  | (refine zaN rfl ?_; simp [hx, hy, h5, c0, hpos, c1, c2, c3])
  | (refine zb0 rfl ?_; simp [hx, hy, h5, c0, hpos, c1, c2, c3])
  | (refine zaj ?_; simp [hx, hy, h5, c0, hpos, c1, c2, c3])
  | (refine ⟨by omega, ?_⟩)
  | (refine zah ?_; simp [hx, hy, h5, c0, hpos, c1, c2, c3])
  | (refine zai ?_; simp [hx, hy, h5, c0, hpos, c1, c2, c3])
  | (refine zaS (hC _ (by kernel_rfl)) (hk _ ?_); clear hC hk C k; simp only [zan])
  | (refine zaM rfl (by kernel_rfl) (by first | (simp [hn]; done) | (simp [hn]; omega) | fail) fun C k hC hk => ?_; simp [hx, hy, h5, c0, hpos, c1, c2, c3])
  | (refine zbl rfl (by simp [hx, hy, h5, c0, hpos, c1, c2, c3]) (fun hc => ?_) (fun hc => ?_) <;> (try simp [hx, hy, h5, c0, hpos, c1, c2, c3] at hc) <;> (try (exfalso; omega)) <;> (try simp [hx, hy, h5, c0, hpos, c1, c2, c3]))
  | (refine zap ?_; simp [hx, hy, h5, c0, hpos, c1, c2, c3])
  | (refine zaq ?_; simp only [zan])
  | (refine ⟨?_, by omega⟩)
  | (intro hc <;> (try (exfalso; omega)))
  | (refine CallV.fun_ (h1) (by first | rfl | fail) (by first | assumption | (simp; done) | fail) (by first | (simp [hx, hy, h5, c0, hpos, c1, c2, c3]; done) | (simp [hx, hy, h5, c0, hpos, c1, c2, c3]; rfl) | fail) (by first | (simp; done) | fail) ?_ <;> (try simp [hx, hy, h5, c0, hpos, c1, c2, c3]))
  | fail)
       refine LoopW.next ⟨i + 1, by omega⟩ (by simp; omega) ?_
       exact (Wk.cut rfl (by simp [hn, St.lp]) (by simp [wkO, St.lp, zaa, getK, Ob.under, D.under, zad, zae]) (by simp [wkU, St.lp, zak, zaa, getK, D.under]) (by simp [wkE, St.lp, zak, zaa, getK] <;> (try (intros; simp_all; done)) <;> (try (intros; omega)) <;> (try grind)))
     ·repeat' (first
  | (refine zag ?_; simp [hx, hy, h5, c0, hpos, c1, c2])
  | (refine zaN rfl ?_; simp [hx, hy, h5, c0, hpos, c1, c2])
  | (refine zb0 rfl ?_; simp [hx, hy, h5, c0, hpos, c1, c2])
  | (refine zaj ?_; simp [hx, hy, h5, c0, hpos, c1, c2])
  | (refine ⟨by omega, ?_⟩)
  | (refine zah ?_; simp [hx, hy, h5, c0, hpos, c1, c2])
  | (refine zai ?_; simp [hx, hy, h5, c0, hpos, c1, c2])
  | (refine zaS (hC _ (by kernel_rfl)) (hk _ ?_); clear hC hk C k; simp only [zan])
  | (refine zaM rfl (by kernel_rfl) (by first | (simp [hn]; done) | (simp [hn]; omega) | fail) fun C k hC hk => ?_; simp [hx, hy, h5, c0, hpos, c1, c2])
  | (refine zbl rfl (by simp [hx, hy, h5, c0, hpos, c1, c2]) (fun hc => ?_) (fun hc => ?_) <;> (try simp [hx, hy, h5, c0, hpos, c1, c2] at hc) <;> (try (exfalso; omega)) <;> (try simp [hx, hy, h5, c0, hpos, c1, c2]))
  | (refine zap ?_; simp [hx, hy, h5, c0, hpos, c1, c2])
  | (refine zaq ?_; simp only [zan])
  | (refine ⟨?_, by omega⟩)
  | (intro hc <;> (try (exfalso; omega)))
  | (refine CallV.fun_ (h1) (by first | rfl | fail) (by first | assumption | (simp; done) | fail) (by first | (simp [hx, hy, h5, c0, hpos, c1, c2]; done) | (simp [hx, hy, h5, c0, hpos, c1, c2]; rfl) | fail) (by first | (simp; done) | fail) ?_ <;> (try simp [hx, hy, h5, c0, hpos, c1, c2]))
  | fail)
      refine LoopW.next ⟨i + 1, by omega⟩ (by simp; omega) ?_
      exact (Wk.cut rfl (by simp [hn, St.lp]) (by simp [wkO, St.lp, zaa, getK, Ob.under, D.under, zad, zae]) (by simp [wkU, St.lp, zak, zaa, getK, D.under]) (by simp [wkE, St.lp, zak, zaa, getK] <;> (try (intros; simp_all; done)) <;> (try (intros; omega)) <;> (try grind)))
theorem zkf (e : En) : Fun Tryz.prog 177 [.u (.agg (zav e))] (fun d => ∃ b : Bool, d = .u (.bool b) ∧ (b = true → e.kind = 10 → 1 ≤ e.n)) := by
 have h1 := zd0 e.ref
 have h2 := zd0 e.m
 have h3 := zeT e.n
 have h4 := zeG e.m
 have h5 := zeG e.n
 generalize zf9 e.ref = b1 at *
 generalize zf9 e.m = b2 at *
 generalize zm7 e.n = b3 at *
 generalize zhb e.m = b4 at *
 generalize zhb e.n = b5 at *
 by_cases hk : e.kind = 10
 ·by_cases c1 : 0 ≤ e.n
  ·by_cases c2 : e.n ≤ 1099511627776
   ·by_cases c3 : 0 < e.n
    ·unfold zav
     (refine Fun.of_bodyW Tryz.func177 rfl (by simp) fun Γ hn => ?_); simp only [entry, List.zipIdx_cons, List.zipIdx_nil, List.map_cons, List.map_nil, Nat.zero_add, Tryz.ntmps177]
     repeat' (first
  | (refine zag ?_; simp [hk, c1, c2, c3])
  | (refine zaj ?_; simp [hk, c1, c2, c3])
  | (refine zah ?_; simp [hk, c1, c2, c3])
  | (refine zai ?_; simp [hk, c1, c2, c3])
  | (refine zau ?_; simp [hk, c1, c2, c3])
  | (refine zas ?_; simp only [zan])
  | (refine CallP.fun_ (h4) (by first | rfl | fail) (by first | assumption | (simp; done) | fail) (by first | (simp [hk, c1, c2, c3]; done) | (simp [hk, c1, c2, c3]; rfl) | fail) (by first | (simp; done) | fail) (fun d hd => ?_); subst hd; (try simp [hk, c1, c2, c3]))
  | fail)
     all_goals
      refine EndW.here ?_
      (refine EndOK.val (.inr rfl) ?_; simp [zaC, zaf, zaw, Tryz.results177])
     all_goals (first | omega | grind)
    ·unfold zav
     (refine Fun.of_bodyW Tryz.func177 rfl (by simp) fun Γ hn => ?_); simp only [entry, List.zipIdx_cons, List.zipIdx_nil, List.map_cons, List.map_nil, Nat.zero_add, Tryz.ntmps177]
     repeat' (first
  | (refine zag ?_; simp [hk, c1, c2, c3])
  | (refine zaj ?_; simp [hk, c1, c2, c3])
  | (refine zah ?_; simp [hk, c1, c2, c3])
  | (refine zai ?_; simp [hk, c1, c2, c3])
  | (refine zau ?_; simp [hk, c1, c2, c3])
  | (refine zas ?_; simp only [zan])
  | fail)
     all_goals
      refine EndW.here ?_
      (refine EndOK.val (.inr rfl) ?_; simp [zaC, zaf, zaw, Tryz.results177])
   ·unfold zav
    (refine Fun.of_bodyW Tryz.func177 rfl (by simp) fun Γ hn => ?_); simp only [entry, List.zipIdx_cons, List.zipIdx_nil, List.map_cons, List.map_nil, Nat.zero_add, Tryz.ntmps177]
    repeat' (first
  | (refine zag ?_; simp [hk, c1, c2])
  | (refine zaj ?_; simp [hk, c1, c2])
  | (refine zah ?_; simp [hk, c1, c2])
  | (refine zai ?_; simp [hk, c1, c2])
  | (refine zau ?_; simp [hk, c1, c2])
  | (refine zas ?_; simp only [zan])
  | fail)
    all_goals
     refine EndW.here ?_
     (refine EndOK.val (.inr rfl) ?_; simp [zaC, zaf, zaw, Tryz.results177])
  ·unfold zav
   (refine Fun.of_bodyW Tryz.func177 rfl (by simp) fun Γ hn => ?_); simp only [entry, List.zipIdx_cons, List.zipIdx_nil, List.map_cons, List.map_nil, Nat.zero_add, Tryz.ntmps177]
   repeat' (first
  | (refine zag ?_; simp [hk, c1])
  | (refine zaj ?_; simp [hk, c1])
  | (refine zah ?_; simp [hk, c1])
  | (refine zai ?_; simp [hk, c1])
  | (refine zau ?_; simp [hk, c1])
  | (refine zas ?_; simp only [zan])
  | fail)
   all_goals
    refine EndW.here ?_
    (refine EndOK.val (.inr rfl) ?_; simp [zaC, zaf, zaw, Tryz.results177])
 ·have hk' : ∀ b : Bool, (b = true → e.kind = 10 → 1 ≤ e.n) = True := fun b => by simp [hk]
  simp only [hk', and_true]
  unfold zav
  (refine Fun.of_bodyW Tryz.func177 rfl (by simp) fun Γ hn => ?_); simp only [entry, List.zipIdx_cons, List.zipIdx_nil, List.map_cons, List.map_nil, Nat.zero_add, Tryz.ntmps177]
  repeat' (first
  | (refine zag ?_; simp [hk])
  | (refine zaj ?_; simp [hk])
  | (refine ⟨by omega, ?_⟩)
  | (refine zah ?_; simp [hk])
  | (refine zai ?_; simp [hk])
  | (refine zau ?_; simp [hk])
  | (refine zap ?_; simp [hk])
  | (refine zas ?_; simp only [zan])
  | (refine zaq ?_; simp only [zan])
  | (refine ⟨?_, by omega⟩)
  | (refine ⟨fun hc => ?_, fun hc => ?_⟩ <;> (try (exfalso; omega)))
  | (intro hc <;> (try (exfalso; omega)))
  | (refine CallP.fun_ (h1) (by first | rfl | fail) (by first | assumption | (simp; done) | fail) (by first | (simp [hk]; done) | (simp [hk]; rfl) | fail) (by first | (simp; done) | fail) (fun d hd => ?_); subst hd; (try simp [hk]))
  | (refine CallP.fun_ (h2) (by first | rfl | fail) (by first | assumption | (simp; done) | fail) (by first | (simp [hk]; done) | (simp [hk]; rfl) | fail) (by first | (simp; done) | fail) (fun d hd => ?_); subst hd; (try simp [hk]))
  | (refine CallP.fun_ (h3) (by first | rfl | fail) (by first | assumption | (simp; done) | fail) (by first | (simp [hk]; done) | (simp [hk]; rfl) | fail) (by first | (simp; done) | fail) (fun d hd => ?_); subst hd; (try simp [hk]))
  | (refine CallP.fun_ (h4) (by first | rfl | fail) (by first | assumption | (simp; done) | fail) (by first | (simp [hk]; done) | (simp [hk]; rfl) | fail) (by first | (simp; done) | fail) (fun d hd => ?_); subst hd; (try simp [hk]))
  | (refine CallP.fun_ (h5) (by first | rfl | fail) (by first | assumption | (simp; done) | fail) (by first | (simp [hk]; done) | (simp [hk]; rfl) | fail) (by first | (simp; done) | fail) (fun d hd => ?_); subst hd; (try simp [hk]))
  | fail)
  all_goals
   refine EndW.here ?_
   (refine EndOK.val (.inr rfl) ?_; simp [zaC, zaf, zaw, Tryz.results177])
  all_goals omega
theorem zmd (e : En) (hk : e.knows.length ≤ 1000000) (hy : e.keys.length ≤ 1000000) (hs : e.spans.length ≤ 1000000) :
  Fun Tryz.prog 101 [.u (.agg (zav e))] (fun d => ∃ b : Bool, d = .u (.bool b) ∧ (b = true → zhb e.day = true ∧ (e.kind = 10 → 1 ≤ e.n))) := by
 have f1 := zeT e.author
 have f2 := zeG e.day
 have f3 := zhS e
 have f4 := zji e.knows hk
 have f5 := zdU [5, 6, 7] e.kind (by simp)
 have f6 := zls e.spans hs
 have f7 := zob e.keys hy
 have f8 := zkf e
 have f9 := zd0 e.circle
 have fa := zeT e.who
 have fb := fun n => zd0 n
 generalize zm7 e.author = b1 at *
 generalize zhb e.day = b2 at *
 generalize ze8 e = b3 at *
 generalize zoO e.knows = b4 at *
 generalize decide (e.kind ∈ [5, 6, 7]) = b5 at *
 generalize zf9 e.circle = b9 at *
 generalize zm7 e.who = ba at *
 simp only [zbV, List.map_cons, List.map_nil] at f5
 by_cases k1 : e.kind < 0
 ·unfold zav
  (refine Fun.of_bodyW Tryz.func101 rfl (by simp) fun Γ hn => ?_); simp only [entry, List.zipIdx_cons, List.zipIdx_nil, List.map_cons, List.map_nil, Nat.zero_add, Tryz.ntmps101]
  repeat' (first
  | (refine zag ?_; simp [k1])
  | (refine zaj ?_; simp [k1])
  | (refine zah ?_; simp [k1])
  | (refine zai ?_; simp [k1])
  | (refine zas ?_; simp only [zan])
  | (refine ⟨fun hc => ?_, fun hc => ?_⟩ <;> (try (exfalso; omega)))
  | (refine CallP.fun_ (f1) (by first | rfl | fail) (by first | assumption | (simp; done) | fail) (by first | (simp [k1]; done) | (simp [k1]; rfl) | fail) (by first | (simp; done) | fail) (fun d hd => ?_); subst hd; (try simp [k1]))
  | (refine CallP.fun_ (f2) (by first | rfl | fail) (by first | assumption | (simp; done) | fail) (by first | (simp [k1]; done) | (simp [k1]; rfl) | fail) (by first | (simp; done) | fail) (fun d hd => ?_); subst hd; (try simp [k1]))
  | fail)
  all_goals
   refine EndW.here ?_
   (refine EndOK.val (.inr rfl) ?_; simp [zaC, zaf, zaw, Tryz.results101])
 by_cases k2 : 21 ≤ e.kind
 ·unfold zav
  (refine Fun.of_bodyW Tryz.func101 rfl (by simp) fun Γ hn => ?_); simp only [entry, List.zipIdx_cons, List.zipIdx_nil, List.map_cons, List.map_nil, Nat.zero_add, Tryz.ntmps101]
  repeat' (first
  | (refine zag ?_; simp [k1, k2])
  | (refine zaj ?_; simp [k1, k2])
  | (refine zah ?_; simp [k1, k2])
  | (refine zai ?_; simp [k1, k2])
  | (refine zas ?_; simp only [zan])
  | (refine ⟨fun hc => ?_, fun hc => ?_⟩ <;> (try (exfalso; omega)))
  | (refine CallP.fun_ (f1) (by first | rfl | fail) (by first | assumption | (simp; done) | fail) (by first | (simp [k1, k2]; done) | (simp [k1, k2]; rfl) | fail) (by first | (simp; done) | fail) (fun d hd => ?_); subst hd; (try simp [k1, k2]))
  | (refine CallP.fun_ (f2) (by first | rfl | fail) (by first | assumption | (simp; done) | fail) (by first | (simp [k1, k2]; done) | (simp [k1, k2]; rfl) | fail) (by first | (simp; done) | fail) (fun d hd => ?_); subst hd; (try simp [k1, k2]))
  | fail)
  all_goals
   refine EndW.here ?_
   (refine EndOK.val (.inr rfl) ?_; simp [zaC, zaf, zaw, Tryz.results101])
 have f3 := f3 (by omega) (by omega)
 by_cases hkn : e.knows = []
 ·rw [hkn] at f4
  have hcells : zav e = [.int .i64 e.author, .int .i64 e.seq, .int .i64 e.day, .sl [], .int .i64 e.kind, .int .i64 e.circle, .int .i64 e.who, .int .i64 e.n, .int .i64 e.m, .int .i64 e.ref,
   .sl (e.keys.map fun x => [.int .i64 x]), .sl (e.spans.map fun s => [.int .i64 s.mark, .int .i64 s.frm, .int .i64 s.to]), .str e.text] := by unfold zav; rw [hkn]; rfl
  rw [hcells] at f3 f8 ⊢
  simp only [zbV, zpm, List.map_nil] at f4 f6 f7
  (refine Fun.of_bodyW Tryz.func101 rfl (by simp) fun Γ hn => ?_); simp only [entry, List.zipIdx_cons, List.zipIdx_nil, List.map_cons, List.map_nil, Nat.zero_add, Tryz.ntmps101]
  repeat' (first
  | (refine CallP.fun_ (f6) (by first | rfl | fail) (by first | assumption | (simp; done) | fail) (by first | (simp; done) | (simp; rfl) | fail) (by first | (simp; done) | fail) (fun d hd => ?_); obtain ⟨bs, rfl⟩ := hd; (try simp))
  | (refine CallP.fun_ (f7) (by first | rfl | fail) (by first | assumption | (simp; done) | fail) (by first | (simp; done) | (simp; rfl) | fail) (by first | (simp; done) | fail) (fun d hd => ?_); obtain ⟨bk, rfl⟩ := hd; (try simp))
  | (refine CallP.fun_ (f8) (by first | rfl | fail) (by first | assumption | (simp; done) | fail) (by first | (simp; done) | (simp; rfl) | fail) (by first | (simp; done) | fail) (fun d hd => ?_); obtain ⟨bn, rfl, hbn⟩ := hd; (try simp))
  | (refine zag ?_; simp [k1, k2])
  | (refine zaj ?_; simp [k1, k2])
  | (refine zah ?_; simp [k1, k2])
  | (refine zai ?_; simp [k1, k2])
  | (refine zas ?_; simp only [zan])
  | (refine zaq ?_; simp only [zan])
  | (refine ⟨fun hc => ?_, fun hc => ?_⟩ <;> (try (exfalso; omega)))
  | (refine CallP.fun_ (f1) (by first | rfl | fail) (by first | assumption | (simp; done) | fail) (by first | (simp [k1, k2]; done) | (simp [k1, k2]; rfl) | fail) (by first | (simp; done) | fail) (fun d hd => ?_); subst hd; (try simp [k1, k2]))
  | (refine CallP.fun_ (f2) (by first | rfl | fail) (by first | assumption | (simp; done) | fail) (by first | (simp [k1, k2]; done) | (simp [k1, k2]; rfl) | fail) (by first | (simp; done) | fail) (fun d hd => ?_); subst hd; (try simp [k1, k2]))
  | (refine CallP.fun_ (f3) (by first | rfl | fail) (by first | assumption | (simp; done) | fail) (by first | (simp [k1, k2]; done) | (simp [k1, k2]; rfl) | fail) (by first | (simp; done) | fail) (fun d hd => ?_); subst hd; (try simp [k1, k2]))
  | (refine CallP.fun_ (f4) (by first | rfl | fail) (by first | assumption | (simp; done) | fail) (by first | (simp [k1, k2]; done) | (simp [k1, k2]; rfl) | fail) (by first | (simp; done) | fail) (fun d hd => ?_); subst hd; (try simp [k1, k2]))
  | (refine CallP.fun_ (f5) (by first | rfl | fail) (by first | assumption | (simp; done) | fail) (by first | (simp [k1, k2]; done) | (simp [k1, k2]; rfl) | fail) (by first | (simp; done) | fail) (fun d hd => ?_); subst hd; (try simp [k1, k2]))
  | (refine CallP.fun_ (f9) (by first | rfl | fail) (by first | assumption | (simp; done) | fail) (by first | (simp [k1, k2]; done) | (simp [k1, k2]; rfl) | fail) (by first | (simp; done) | fail) (fun d hd => ?_); subst hd; (try simp [k1, k2]))
  | (refine CallP.fun_ (fa) (by first | rfl | fail) (by first | assumption | (simp; done) | fail) (by first | (simp [k1, k2]; done) | (simp [k1, k2]; rfl) | fail) (by first | (simp; done) | fail) (fun d hd => ?_); subst hd; (try simp [k1, k2]))
  | fail)
  all_goals
   refine EndW.here ?_
   (refine EndOK.val (.inr rfl) ?_; simp [zaC, zaf, zaw, Tryz.results101])
  all_goals
   cases bn with
   | false => exact .inl rfl
   | true => exact .inr ⟨rfl, by first | assumption | rfl, hbn rfl⟩
 ·have hp : 0 < e.knows.length := List.length_pos_iff.2 hkn
  obtain ⟨a, h3⟩ : ∃ a, e.knows[0]'hp = a := ⟨_, rfl⟩
  obtain ⟨z, h4⟩ : ∃ z, e.knows[e.knows.length - 1]? = some z := ⟨_, List.getElem?_eq_getElem (by omega)⟩
  have h4' : ∀ h, e.knows[e.knows.length - 1]'h = z := fun h => (List.getElem?_eq_some_iff.1 h4).2
  have h5 : ((e.knows.length : Int) - 1).toNat = e.knows.length - 1 := by omega
  have fc := fb a
  have fd := fb z
  generalize zf9 a = bc at *
  generalize zf9 z = bd at *
  clear fb
  unfold zav at *
  simp only [zbV, zpm] at f4 f6 f7
  (refine Fun.of_bodyW Tryz.func101 rfl (by simp) fun Γ hn => ?_); simp only [entry, List.zipIdx_cons, List.zipIdx_nil, List.map_cons, List.map_nil, Nat.zero_add, Tryz.ntmps101]
  repeat' (first
  | (refine CallP.fun_ (f6) (by first | rfl | fail) (by first | assumption | (simp; done) | fail) (by first | (simp; done) | (simp; rfl) | fail) (by first | (simp; done) | fail) (fun d hd => ?_); obtain ⟨bs, rfl⟩ := hd; (try simp))
  | (refine CallP.fun_ (f7) (by first | rfl | fail) (by first | assumption | (simp; done) | fail) (by first | (simp; done) | (simp; rfl) | fail) (by first | (simp; done) | fail) (fun d hd => ?_); obtain ⟨bk, rfl⟩ := hd; (try simp))
  | (refine CallP.fun_ (f8) (by first | rfl | fail) (by first | assumption | (simp; done) | fail) (by first | (simp; done) | (simp; rfl) | fail) (by first | (simp; done) | fail) (fun d hd => ?_); obtain ⟨bn, rfl, hbn⟩ := hd; (try simp))
  | (refine zag ?_; simp [k1, k2, hp, h3, h4, h4', h5])
  | (refine zaj ?_; simp [k1, k2, hp, h3, h4, h4', h5])
  | (refine ⟨by omega, ?_⟩)
  | (refine zah ?_; simp [k1, k2, hp, h3, h4, h4', h5])
  | (refine zai ?_; simp [k1, k2, hp, h3, h4, h4', h5])
  | (refine zas ?_; simp only [zan])
  | (refine zaq ?_; simp only [zan])
  | (refine ⟨fun hc => ?_, fun hc => ?_⟩ <;> (try (exfalso; omega)))
  | (refine CallP.fun_ (f1) (by first | rfl | fail) (by first | assumption | (simp; done) | fail) (by first | (simp [k1, k2, hp, h3, h4, h4', h5]; done) | (simp [k1, k2, hp, h3, h4, h4', h5]; rfl) | fail) (by first | (simp; done) | fail) (fun d hd => ?_); subst hd; (try simp [k1, k2, hp, h3, h4, h4', h5]))
  | (refine CallP.fun_ (f2) (by first | rfl | fail) (by first | assumption | (simp; done) | fail) (by first | (simp [k1, k2, hp, h3, h4, h4', h5]; done) | (simp [k1, k2, hp, h3, h4, h4', h5]; rfl) | fail) (by first | (simp; done) | fail) (fun d hd => ?_); subst hd; (try simp [k1, k2, hp, h3, h4, h4', h5]))
  | (refine CallP.fun_ (f3) (by first | rfl | fail) (by first | assumption | (simp; done) | fail) (by first | (simp [k1, k2, hp, h3, h4, h4', h5]; done) | (simp [k1, k2, hp, h3, h4, h4', h5]; rfl) | fail) (by first | (simp; done) | fail) (fun d hd => ?_); subst hd; (try simp [k1, k2, hp, h3, h4, h4', h5]))
  | (refine CallP.fun_ (f4) (by first | rfl | fail) (by first | assumption | (simp; done) | fail) (by first | (simp [k1, k2, hp, h3, h4, h4', h5]; done) | (simp [k1, k2, hp, h3, h4, h4', h5]; rfl) | fail) (by first | (simp; done) | fail) (fun d hd => ?_); subst hd; (try simp [k1, k2, hp, h3, h4, h4', h5]))
  | (refine CallP.fun_ (f5) (by first | rfl | fail) (by first | assumption | (simp; done) | fail) (by first | (simp [k1, k2, hp, h3, h4, h4', h5]; done) | (simp [k1, k2, hp, h3, h4, h4', h5]; rfl) | fail) (by first | (simp; done) | fail) (fun d hd => ?_); subst hd; (try simp [k1, k2, hp, h3, h4, h4', h5]))
  | (refine CallP.fun_ (f9) (by first | rfl | fail) (by first | assumption | (simp; done) | fail) (by first | (simp [k1, k2, hp, h3, h4, h4', h5]; done) | (simp [k1, k2, hp, h3, h4, h4', h5]; rfl) | fail) (by first | (simp; done) | fail) (fun d hd => ?_); subst hd; (try simp [k1, k2, hp, h3, h4, h4', h5]))
  | (refine CallP.fun_ (fa) (by first | rfl | fail) (by first | assumption | (simp; done) | fail) (by first | (simp [k1, k2, hp, h3, h4, h4', h5]; done) | (simp [k1, k2, hp, h3, h4, h4', h5]; rfl) | fail) (by first | (simp; done) | fail) (fun d hd => ?_); subst hd; (try simp [k1, k2, hp, h3, h4, h4', h5]))
  | (refine CallP.fun_ (fc) (by first | rfl | fail) (by first | assumption | (simp; done) | fail) (by first | (simp [k1, k2, hp, h3, h4, h4', h5]; done) | (simp [k1, k2, hp, h3, h4, h4', h5]; rfl) | fail) (by first | (simp; done) | fail) (fun d hd => ?_); subst hd; (try simp [k1, k2, hp, h3, h4, h4', h5]))
  | (refine CallP.fun_ (fd) (by first | rfl | fail) (by first | assumption | (simp; done) | fail) (by first | (simp [k1, k2, hp, h3, h4, h4', h5]; done) | (simp [k1, k2, hp, h3, h4, h4', h5]; rfl) | fail) (by first | (simp; done) | fail) (fun d hd => ?_); subst hd; (try simp [k1, k2, hp, h3, h4, h4', h5]))
  | fail)
  all_goals
   refine EndW.here ?_
   (refine EndOK.val (.inr rfl) ?_; simp [zaC, zaf, zaw, Tryz.results101])
  all_goals
   cases bn with
   | false => exact .inl rfl
   | true => exact .inr ⟨rfl, by first | assumption | rfl, hbn rfl⟩
theorem zn0 (e : En) (mark : Int) (jury : List Int) (hk : e.knows.length ≤ 1000000) (hy : e.keys.length ≤ 1000000) (hs : e.spans.length ≤ 1000000) (hj : jury.length ≤ 1000000) :
  Fun Tryz.prog 41 [.u (.agg (zav e)), .u (.int .i64 mark), .u (zbV jury)] (znD e mark jury) := by
 have f1 := zmd e hk hy hs
 have f2 := zdV jury hj
 have hz : ∀ f : Int, f = 1 ∨ f = 26 → znD e mark jury (.tup [.u (clU zpx), .u (.int .i64 f)]) := fun f hf => ⟨zpx, f, rfl, .inr hf⟩
 have hg : zhb e.day = true → 1 ≤ e.n → znD e mark jury (.tup [.u (clU (zet e mark jury)), .u (.int .i64 0)]) := fun h1 h2 => ⟨zet e mark jury, 0, rfl, .inl ⟨rfl, rfl, h1, h2⟩⟩
 have h1 := hz 1 (.inl rfl)
 have h26 := hz 26 (.inr rfl)
 clear hz
 simp only [clU, zar, zpx, zet, List.map_nil] at h1 h26 hg
 unfold zav at *
 unfold zbV at *
 (refine Fun.of_bodyW Tryz.func41 rfl (by simp) fun Γ hn => ?_); simp only [entry, List.zipIdx_cons, List.zipIdx_nil, List.map_cons, List.map_nil, Nat.zero_add, Tryz.ntmps41]
 repeat' (first
  | (refine CallP.fun_ (f1) (by first | rfl | fail) (by first | assumption | (simp; done) | fail) (by first | (simp; done) | (simp; rfl) | fail) (by first | (simp; done) | fail) (fun d hd => ?_); obtain ⟨br, rfl, hbr⟩ := hd; (try simp))
  | (refine zag ?_; simp)
  | (refine zaN rfl ?_; simp)
  | (refine zbu rfl ?_; simp)
  | (refine zaj ?_; simp)
  | (refine zah ?_; simp)
  | (refine zai ?_; simp)
  | (refine zaS (hC _ (by kernel_rfl)) (hk _ ?_); clear hC hk C k; simp only [zan])
  | (refine zaM rfl (by kernel_rfl) (by first | (simp [hn]; done) | (simp [hn]; omega) | fail) fun C k hC hk => ?_; simp)
  | (refine zas ?_; simp only [zan])
  | (refine zaq ?_; simp only [zan])
  | (refine ⟨fun hc => ?_, fun hc => ?_⟩ <;> (try (exfalso; omega)))
  | (refine CallV.fun_ (f2) (by first | rfl | fail) (by first | assumption | (simp; done) | fail) (by first | (simp; done) | (simp; rfl) | fail) (by first | (simp; done) | fail) ?_ <;> (try simp))
  | fail)
 all_goals
  refine EndW.norm (EndW.here ?_)
  (refine EndOK.val (.inr rfl) ?_; simp [zaC, zaf, zaw, Tryz.results41, zaD, zaE, zck, zcl, frz, zba, frzS, fv, za3, za4, za9, zaH, zaz, zay, zbz, zbL, zbM, za1])
 all_goals first
  | exact h1
  | exact h26
  | exact hg (hbr (by assumption)).1 ((hbr (by assumption)).2 (by assumption))
  | fail
abbrev zdD (e : Exp) : D := .u (.agg e.row)
abbrev zg3 (n : Int) : D := .u (.int .i64 n)
theorem zaQ {i nx : Nat} (h : i < nx) : ¬ i = nx ∧ ¬ nx = i ∧ (∀ k, ¬ i = nx + k) ∧ ∀ k, ¬ nx + k = i := ⟨by omega, by omega, fun k => by omega, fun k => by omega⟩
theorem zmF (l : List Tok) (p : Nat) (i nx : Nat) (hi : i < nx) (hp : p < l.length) (hl : TokOK l) :
  RetX Tryz.prog 303 [.ptr i 0] [(i, pOb l p)] nx (PPost l i nx zg3 (zj0 l p)) := by
 have hne := zaQ hi
 have hh1 := fun nx' (h : nx ≤ nx') => za7 l p [99, 111, 105, 110, 115] i nx' (by omega) hp hl.len
 have hh2 := fun nx' (h : nx ≤ nx') => za7 l p [100, 97, 121, 115] i nx' (by omega) hp hl.len
 have hh3 := fun nx' (h : nx ≤ nx') => za7 l p [112, 101, 114] i nx' (by omega) hp hl.len
 unfold zj0
 by_cases h1 : isB l p [99, 111, 105, 110, 115] = true
 ·simp only [h1, if_true] at hh1 ⊢
  (refine RetX.of_bodyW Tryz.func303 rfl (by simp) fun Γ hn hpan => ?_); simp only [entry, List.zipIdx_cons, List.zipIdx_nil, List.map_cons, List.map_nil, Nat.zero_add, Tryz.ntmps303]
  repeat' (first
  | (refine zag ?_; simp [hne])
  | (refine zaj ?_; simp [hne])
  | (refine zah ?_; simp [hne])
  | (refine zai ?_; simp [hne])
  | (refine zas ?_; simp only [zan])
  | (refine CallP.ok1 (hh1 _ (by first | omega | (simp; done) | (simp; omega) | fail)) (by first | (simp [hne, zaa, getK, zab, zac]; done) | fail) (by rfl) (by first | assumption | (simp; done) | fail) (by rfl) (by simp) ?_; (try simp [hne]))
  | fail)
  (refine EndW.here ?_; (first | (refine EndOK.fin (.inr rfl) ?_) | (refine EndOK.fin (.inl rfl) ?_)); simp [zaC, zaf, Tryz.results303]; refine FinOK.here (by simp) ?_; try simp)
  exact PPost.zb2 rfl rfl (by first | rfl | simp [del])
 ·simp only [h1, Bool.false_eq_true, if_false] at hh1 ⊢
  by_cases h2 : isB l p [100, 97, 121, 115] = true
  ·simp only [h2, if_true] at hh2 ⊢
   (refine RetX.of_bodyW Tryz.func303 rfl (by simp) fun Γ hn hpan => ?_); simp only [entry, List.zipIdx_cons, List.zipIdx_nil, List.map_cons, List.map_nil, Nat.zero_add, Tryz.ntmps303]
   repeat' (first
  | (refine zag ?_; simp [hne])
  | (refine zaj ?_; simp [hne])
  | (refine zah ?_; simp [hne])
  | (refine zai ?_; simp [hne])
  | (refine zas ?_; simp only [zan])
  | (refine CallP.ok1 (hh1 _ (by first | omega | (simp; done) | (simp; omega) | fail)) (by first | (simp [hne, zaa, getK, zab, zac]; done) | fail) (by rfl) (by first | assumption | (simp; done) | fail) (by rfl) (by simp) ?_; (try simp [hne]))
  | (refine CallP.ok1 (hh2 _ (by first | omega | (simp; done) | (simp; omega) | fail)) (by first | (simp [hne, zaa, getK, zab, zac]; done) | fail) (by rfl) (by first | assumption | (simp; done) | fail) (by rfl) (by simp) ?_; (try simp [hne]))
  | fail)
   (refine EndW.here ?_; (first | (refine EndOK.fin (.inr rfl) ?_) | (refine EndOK.fin (.inl rfl) ?_)); simp [zaC, zaf, Tryz.results303]; refine FinOK.here (by simp) ?_; try simp)
   exact PPost.zb2 rfl rfl (by first | rfl | simp [del])
  ·simp only [h2, Bool.false_eq_true, if_false] at hh2 ⊢
   by_cases h3 : isB l p [112, 101, 114] = true
   ·simp only [h3, if_true] at hh3 ⊢
    have hw := fun nx' (h : nx ≤ nx') => zgK l (p + 1) [[109, 105, 108, 108, 101]] i nx' (by omega) (za2 hl h3) hl (by simp)
    cases hr : zbA l (p + 1) [[109, 105, 108, 108, 101]] with
    | ok a q =>
     simp only [hr, List.map_cons, List.map_nil] at hw
     (refine RetX.of_bodyW Tryz.func303 rfl (by simp) fun Γ hn hpan => ?_); simp only [entry, List.zipIdx_cons, List.zipIdx_nil, List.map_cons, List.map_nil, Nat.zero_add, Tryz.ntmps303]
     repeat' (first
  | (refine zag ?_; simp [hne])
  | (refine zaj ?_; simp [hne])
  | (refine zah ?_; simp [hne])
  | (refine zai ?_; simp [hne])
  | (refine zas ?_; simp only [zan])
  | (refine CallP.ok1 (hh1 _ (by first | omega | (simp; done) | (simp; omega) | fail)) (by first | (simp [hne, zaa, getK, zab, zac]; done) | fail) (by rfl) (by first | assumption | (simp; done) | fail) (by rfl) (by simp) ?_; (try simp [hne]))
  | (refine CallP.ok1 (hh2 _ (by first | omega | (simp; done) | (simp; omega) | fail)) (by first | (simp [hne, zaa, getK, zab, zac]; done) | fail) (by rfl) (by first | assumption | (simp; done) | fail) (by rfl) (by simp) ?_; (try simp [hne]))
  | (refine CallP.ok1 (hh3 _ (by first | omega | (simp; done) | (simp; omega) | fail)) (by first | (simp [hne, zaa, getK, zab, zac]; done) | fail) (by rfl) (by first | assumption | (simp; done) | fail) (by rfl) (by simp) ?_; (try simp [hne]))
  | (refine CallP.ok1 (hw _ (by first | omega | (simp; done) | (simp; omega) | fail)) (by first | (simp [hne, zaa, getK, zab, zac]; done) | fail) (by rfl) (by first | assumption | (simp; done) | fail) (by rfl) (by simp) ?_; (try simp [hne]))
  | (refine zaF (by first | rfl | fail) ?_; simp [hne, frzN, frz1, zaE, zaD, St.frz, St.frzS, frzS, fv, za3, za4, za9, zaH, zaz, zay, del, frz, zba])
  | fail)
     (refine EndW.wk { n := _, env := [(2, zg3 4)], obs := [(i, pOb l q)], next := nx } (Wk.cut rfl (by simp [hn]) (by simp [wkO, zaa, getK, zab, zac, Ob.under, D.under, zad, zae, hne, hi]) (by simp [wkU, zak, zaa, getK, D.under, hne, hi]) (by simp [wkE, zak, zaa, getK, hne, hi])) (EndW.here ?_); (first | (refine EndOK.fin (.inr rfl) ?_) | (refine EndOK.fin (.inl rfl) ?_)); simp [zaC, zaf, Tryz.results303]; refine FinOK.here (by simp) ?_; try simp)
     exact PPost.zb2 rfl rfl (by first | rfl | simp [del])
    | stop pos e =>
     simp only [hr, List.map_cons, List.map_nil] at hw
     (refine RetX.of_bodyW Tryz.func303 rfl (by simp) fun Γ hn hpan => ?_); simp only [entry, List.zipIdx_cons, List.zipIdx_nil, List.map_cons, List.map_nil, Nat.zero_add, Tryz.ntmps303]
     repeat' (first
  | (refine zag ?_; simp [hne])
  | (refine zaj ?_; simp [hne])
  | (refine zah ?_; simp [hne])
  | (refine zai ?_; simp [hne])
  | (refine CallP.ok1 (hh1 _ (by first | omega | (simp; done) | (simp; omega) | fail)) (by first | (simp [hne, zaa, getK, zab, zac]; done) | fail) (by rfl) (by first | assumption | (simp; done) | fail) (by rfl) (by simp) ?_; (try simp [hne]))
  | (refine CallP.ok1 (hh2 _ (by first | omega | (simp; done) | (simp; omega) | fail)) (by first | (simp [hne, zaa, getK, zab, zac]; done) | fail) (by rfl) (by first | assumption | (simp; done) | fail) (by rfl) (by simp) ?_; (try simp [hne]))
  | (refine CallP.ok1 (hh3 _ (by first | omega | (simp; done) | (simp; omega) | fail)) (by first | (simp [hne, zaa, getK, zab, zac]; done) | fail) (by rfl) (by first | assumption | (simp; done) | fail) (by rfl) (by simp) ?_; (try simp [hne]))
  | (refine CallP.zed (hw _ (by first | omega | (simp; done) | (simp; omega) | fail)) (by first | (simp [hne, zaa, getK, zab, zac]; done) | fail) (by rfl) (by first | assumption | (simp; done) | fail) (by rfl) (by simp) ?_; rintro ob' ⟨q', rfl⟩; refine ⟨_, Wk.refl _, ?_⟩)
  | (refine zaF (by first | rfl | fail) ?_; simp [hne, frzN, frz1, zaE, zaD, St.frz, St.frzS, frzS, fv, za3, za4, za9, zaH, zaz, zay, del, frz, zba])
  | fail)
     (refine hpan _ _ ⟨{ n := _, env := [], obs := [(i, pOb l q')], next := nx }, (Wk.cut rfl (by simp [hn]) (by simp [wkO, zaa, getK, zab, zac, Ob.under, D.under, zad, zae, hi, zab, zac, zaa, getK]) (by simp [wkU, zak, zaa, getK, D.under, hi, zab, zac, zaa, getK]) (by simp [wkE, zak, zaa, getK, hi, zab, zac, zaa, getK])), by simp [hn], ?_⟩; try simp)
     exact PPost.zaB rfl
   ·simp only [h3, Bool.false_eq_true, if_false] at hh3 ⊢
    (refine RetX.of_bodyW Tryz.func303 rfl (by simp) fun Γ hn hpan => ?_); simp only [entry, List.zipIdx_cons, List.zipIdx_nil, List.map_cons, List.map_nil, Nat.zero_add, Tryz.ntmps303]
    repeat' (first
  | (refine zag ?_; simp [hne])
  | (refine zaj ?_; simp [hne])
  | (refine zah ?_; simp [hne])
  | (refine zai ?_; simp [hne])
  | (refine zas ?_; simp only [zan])
  | (refine zaq ?_; simp only [zan])
  | (refine CallP.ok1 (hh1 _ (by first | omega | (simp; done) | (simp; omega) | fail)) (by first | (simp [hne, zaa, getK, zab, zac]; done) | fail) (by rfl) (by first | assumption | (simp; done) | fail) (by rfl) (by simp) ?_; (try simp [hne]))
  | (refine CallP.ok1 (hh2 _ (by first | omega | (simp; done) | (simp; omega) | fail)) (by first | (simp [hne, zaa, getK, zab, zac]; done) | fail) (by rfl) (by first | assumption | (simp; done) | fail) (by rfl) (by simp) ?_; (try simp [hne]))
  | (refine CallP.ok1 (hh3 _ (by first | omega | (simp; done) | (simp; omega) | fail)) (by first | (simp [hne, zaa, getK, zab, zac]; done) | fail) (by rfl) (by first | assumption | (simp; done) | fail) (by rfl) (by simp) ?_; (try simp [hne]))
  | fail)
    (refine EndW.here ?_; (first | (refine EndOK.fin (.inr rfl) ?_) | (refine EndOK.fin (.inl rfl) ?_)); simp [zaC, zaf, Tryz.results303]; refine FinOK.here (by simp) ?_; try simp)
    exact PPost.zb2 rfl rfl (by first | rfl | simp [del])
abbrev zhW (e : Exp × Int) : D := .tup [.u (.agg e.1.row), .u (.int .i64 e.2)]
def zfi (l : List Tok) (f : Nat) : Prop := ∀ (p : Nat) (form : Int) (i nx : Nat), i < nx → p < l.length → 4 * (l.length - p) + 3 ≤ f → 0 ≤ form → form ≤ 7 →
 RetX Tryz.prog 203 [.ptr i 0, zg3 form] [(i, pOb l p)] nx (PPost l i nx zdD (zdF l f p form))
def zoz (l : List Tok) (f : Nat) : Prop := ∀ (p : Nat) (form : Int) (i nx : Nat), i < nx → p < l.length → 4 * (l.length - p) + 2 ≤ f → 0 ≤ form → form ≤ 7 →
 RetX Tryz.prog 247 [.ptr i 0, zg3 form] [(i, pOb l p)] nx (PPost l i nx zhW (zbn l f p form))
def zgH (l : List Tok) (f : Nat) : Prop := ∀ (p : Nat) (i nx : Nat), i < nx → p < l.length → 4 * (l.length - p) + 1 ≤ f →
 RetX Tryz.prog 283 [.ptr i 0] [(i, pOb l p)] nx (PPost l i nx zdD (zaW l f p))
theorem zeh {l : List Tok} (hl : TokOK l) (w : List UInt8) {q i nx : Nat} (hi : i < nx) (hq : q < l.length) :
  RetX Tryz.prog 129 [.ptr i 0, .u (.sl [[.str w]])] [(i, pOb l q)] nx (PPost l i nx (fun _ => .tup []) (zbA l q [w])) := zgK l q [w] i nx hi hq hl (by simp)
theorem ziT {l : List Tok} (hl : TokOK l) {f p : Nat} {t : Tok} (ht : l[p]? = some t) (hk : t.kind = 2) {i nx : Nat} (hi : i < nx) :
  RetX Tryz.prog 283 [.ptr i 0] [(i, pOb l p)] nx (PPost l i nx zdD (zaW l (f + 1) p)) := by
 have hne := zaQ hi
 have hp := (List.getElem?_eq_some_iff.1 ht).1
 have hnx := zbS l p t ht hl.len
 have hp2 := hl.fin p t ht (by omega)
 have hll := hl.len
 rw [zaW, ht]
 simp only [hk, if_true] at hnx ⊢
 have hu := fun nx' (h : nx ≤ nx') => zmF l (p + 1) i nx' (by omega) hp2 hl
 cases hr : zj0 l (p + 1) with
 | ok a q =>
  simp only [hr] at hu
  (refine RetX.of_bodyW Tryz.func283 rfl (by simp) fun Γ hn hpan => ?_); simp only [entry, List.zipIdx_cons, List.zipIdx_nil, List.map_cons, List.map_nil, Nat.zero_add, Tryz.ntmps283]
  repeat' (first
  | (refine zf4 (fun nx' h' => hu nx' (by simp at h'; omega)) (by first | (simp [hne, zaa, getK, zab, zac, zax, zaP]; done) | fail) (by rfl) (by first | assumption | simp) (by rfl) (by simp [D.under, Ob.under]) (by simp) ?_; (try simp [hne]))
  | (refine zag ?_; simp [hne])
  | (refine zaN rfl ?_; simp [hne])
  | (refine zbu rfl ?_; simp [hne])
  | (refine zaj ?_; simp [hne])
  | (refine ⟨by omega, ?_⟩)
  | (refine zah ?_; simp [hne])
  | (refine zai ?_; simp [hne])
  | (refine zaS (hC _ (zcI [i] nx (by simp <;> omega) (by simp <;> omega) (by apply Exists.intro; apply And.intro; (focus (repeat' (first | exact KF.nil | exact KL.nil | apply KF.cons | apply KL.cons 0 rfl | apply KL.cons 1 rfl | apply KL.cons 2 rfl | apply KL.cons 3 rfl | apply KL.cons 4 rfl | apply KL.cons 5 rfl | apply KL.cons 6 rfl | apply KL.cons 7 rfl | apply KL.cons 8 rfl | apply KL.cons 9 rfl))); kernel_rfl))) (hk _ ?_); clear hC hk C k; simp only [zan])
  | (refine zaM rfl (by kernel_rfl) (by first | (simp [hn]; done) | (simp [hn]; omega) | fail) fun C k hC hk => ?_; simp [hne])
  | (refine zas ?_; simp only [zan])
  | (refine CallP.fun_ (hnx) (by first | rfl | fail) (by first | assumption | (simp; done) | fail) (by first | (simp [hne]; done) | (simp [hne]; rfl) | fail) (by first | (simp; done) | fail) (fun d hd => ?_); subst hd; (try simp [hne]))
  | fail)
  refine EndW.norm ?_
  simp [St.norm, za1, zbz, zbL, zbM, hne]
  (refine EndW.here ?_; (first | (refine EndOK.fin (.inr rfl) ?_) | (refine EndOK.fin (.inl rfl) ?_)); simp [zaC, zaf, Tryz.results283, hne, hi]; refine FinOK.cut [(i, pOb l q)] (nx) (by simp [zaa, getK, zab, zac, Ob.under, D.under, zad, zae, hne, hi] <;> omega) (by simp [D.under]) (by simp [hn]) ?_; try simp)
  exact PPost.zb2 rfl (by simp [Exp.row]) rfl
 | stop pos e =>
  simp only [hr] at hu
  (refine RetX.of_bodyW Tryz.func283 rfl (by simp) fun Γ hn hpan => ?_); simp only [entry, List.zipIdx_cons, List.zipIdx_nil, List.map_cons, List.map_nil, Nat.zero_add, Tryz.ntmps283]
  repeat' (first
  | (refine zeK (fun nx' h' => hu nx' (by simp at h'; omega)) (by first | (simp [hne, zaa, getK, zab, zac, zax, zaP]; done) | fail) (by rfl) (by first | assumption | simp) (by rfl) (by simp) ?_ ?_; rintro env' ob' n' hn' ⟨q', rfl⟩; refine ⟨_, Wk.refl _, ?_⟩)
  | (refine zdX rfl (by simp) ?_; simp)
  | (refine zag ?_; simp [hne])
  | (refine zaN rfl ?_; simp [hne])
  | (refine zaj ?_; simp [hne])
  | (refine ⟨by omega, ?_⟩)
  | (refine zah ?_; simp [hne])
  | (refine zai ?_; simp [hne])
  | (refine zeL (hC _ (zcI [i] nx (by simp <;> omega) (by simp <;> omega) (by apply Exists.intro; apply And.intro; (focus (repeat' (first | exact KF.nil | exact KL.nil | apply KF.cons | apply KL.cons 0 rfl | apply KL.cons 1 rfl | apply KL.cons 2 rfl | apply KL.cons 3 rfl | apply KL.cons 4 rfl | apply KL.cons 5 rfl | apply KL.cons 6 rfl | apply KL.cons 7 rfl | apply KL.cons 8 rfl | apply KL.cons 9 rfl))); kernel_rfl))) rfl; done)
  | (refine zaM rfl (by kernel_rfl) (by first | (simp [hn]; done) | (simp [hn]; omega) | fail) fun C k hC hk => ?_; simp [hne])
  | (refine CallP.fun_ (hnx) (by first | rfl | fail) (by first | assumption | (simp; done) | fail) (by first | (simp [hne]; done) | (simp [hne]; rfl) | fail) (by first | (simp; done) | fail) (fun d hd => ?_); subst hd; (try simp [hne]))
  | fail)
  (refine hpan _ _ ⟨{ n := _, env := [], obs := [(i, pOb l q')], next := nx }, (Wk.cut rfl (by simp [hn]) (by simp [wkO, zaa, getK, zab, zac, Ob.under, D.under, zad, zae, hi, hne, zab, zac, zaa, getK]) (by simp [wkU, zak, zaa, getK, D.under, hi, hne, zab, zac, zaa, getK]) (by simp [wkE, zak, zaa, getK, hi, hne, zab, zac, zaa, getK])), by simp [hn], ?_⟩; try simp)
  exact PPost.zaB (by simp [PR.bind])
theorem zhM {l : List Tok} (hl : TokOK l) {f p : Nat} {t : Tok} (ht : l[p]? = some t) (hk : ¬ t.kind = 2) (h1 : isB l p [116, 114, 117, 101] = true) {i nx : Nat} (hi : i < nx) :
  RetX Tryz.prog 283 [.ptr i 0] [(i, pOb l p)] nx (PPost l i nx zdD (zaW l (f + 1) p)) := by
 have hne := zaQ hi
 have hp := (List.getElem?_eq_some_iff.1 ht).1
 have hnx := zbS l p t ht hl.len
 have hll := hl.len
 rw [zaW, ht]
 have hh1 := fun nx' (h : nx ≤ nx') => za7 l p [116, 114, 117, 101] i nx' (by omega) hp hl.len
 simp only [hk, h1, if_false, if_true] at hh1 ⊢
 (refine RetX.of_bodyW Tryz.func283 rfl (by simp) fun Γ hn hpan => ?_); simp only [entry, List.zipIdx_cons, List.zipIdx_nil, List.map_cons, List.map_nil, Nat.zero_add, Tryz.ntmps283]
 repeat' (first
  | (refine zag ?_; simp [hne, hk, del])
  | (refine zaj ?_; simp [hne, hk, del])
  | (refine zah ?_; simp [hne, hk, del])
  | (refine zai ?_; simp [hne, hk, del])
  | (refine zas ?_; simp only [zan])
  | (refine CallP.fun_ (hnx) (by first | rfl | fail) (by first | assumption | (simp; done) | fail) (by first | (simp [hne, hk, del]; done) | (simp [hne, hk, del]; rfl) | fail) (by first | (simp; done) | fail) (fun d hd => ?_); subst hd; (try simp [hne, hk, del]))
  | (refine CallP.ok1 (hh1 _ (by first | omega | (simp; done) | (simp; omega) | fail)) (by first | (simp [hne, hk, del, zaa, getK, zab, zac]; done) | fail) (by rfl) (by first | assumption | (simp; done) | fail) (by rfl) (by simp) ?_; (try simp [hne, hk, del]))
  | fail)
 refine EndW.norm ?_
 simp [St.norm, za1, zbz, zbL, zbM, hne]
 (refine EndW.here ?_; (first | (refine EndOK.fin (.inr rfl) ?_) | (refine EndOK.fin (.inl rfl) ?_)); simp [zaC, zaf, Tryz.results283, hne, hi]; refine FinOK.cut [(i, pOb l (p + 1))] (nx) (by simp [zaa, getK, zab, zac, Ob.under, D.under, zad, zae, hne, hi] <;> omega) (by simp [D.under]) (by simp [hn]) ?_; try simp)
 exact PPost.zb2 rfl (by simp [Exp.row]) rfl
theorem zgU {l : List Tok} (hl : TokOK l) {f p : Nat} {t : Tok} (ht : l[p]? = some t) (hk : ¬ t.kind = 2) (h1 : isB l p [116, 114, 117, 101] = false) (h2 : isB l p [102, 97, 108, 115, 101] = true) {i nx : Nat} (hi : i < nx) :
  RetX Tryz.prog 283 [.ptr i 0] [(i, pOb l p)] nx (PPost l i nx zdD (zaW l (f + 1) p)) := by
 have hne := zaQ hi
 have hp := (List.getElem?_eq_some_iff.1 ht).1
 have hnx := zbS l p t ht hl.len
 have hll := hl.len
 rw [zaW, ht]
 have hh1 := fun nx' (h : nx ≤ nx') => za7 l p [116, 114, 117, 101] i nx' (by omega) hp hl.len
 have hh2 := fun nx' (h : nx ≤ nx') => za7 l p [102, 97, 108, 115, 101] i nx' (by omega) hp hl.len
 simp only [hk, h1, h2, if_false, if_true, Bool.false_eq_true] at hh1 hh2 ⊢
 (refine RetX.of_bodyW Tryz.func283 rfl (by simp) fun Γ hn hpan => ?_); simp only [entry, List.zipIdx_cons, List.zipIdx_nil, List.map_cons, List.map_nil, Nat.zero_add, Tryz.ntmps283]
 repeat' (first
  | (refine zag ?_; simp [hne, hk, del])
  | (refine zaj ?_; simp [hne, hk, del])
  | (refine zah ?_; simp [hne, hk, del])
  | (refine zai ?_; simp [hne, hk, del])
  | (refine zas ?_; simp only [zan])
  | (refine CallP.fun_ (hnx) (by first | rfl | fail) (by first | assumption | (simp; done) | fail) (by first | (simp [hne, hk, del]; done) | (simp [hne, hk, del]; rfl) | fail) (by first | (simp; done) | fail) (fun d hd => ?_); subst hd; (try simp [hne, hk, del]))
  | (refine CallP.ok1 (hh1 _ (by first | omega | (simp; done) | (simp; omega) | fail)) (by first | (simp [hne, hk, del, zaa, getK, zab, zac]; done) | fail) (by rfl) (by first | assumption | (simp; done) | fail) (by rfl) (by simp) ?_; (try simp [hne, hk, del]))
  | (refine CallP.ok1 (hh2 _ (by first | omega | (simp; done) | (simp; omega) | fail)) (by first | (simp [hne, hk, del, zaa, getK, zab, zac]; done) | fail) (by rfl) (by first | assumption | (simp; done) | fail) (by rfl) (by simp) ?_; (try simp [hne, hk, del]))
  | fail)
 refine EndW.norm ?_
 simp [St.norm, za1, zbz, zbL, zbM, hne]
 (refine EndW.here ?_; (first | (refine EndOK.fin (.inr rfl) ?_) | (refine EndOK.fin (.inl rfl) ?_)); simp [zaC, zaf, Tryz.results283, hne, hi]; refine FinOK.cut [(i, pOb l (p + 1))] (nx) (by simp [zaa, getK, zab, zac, Ob.under, D.under, zad, zae, hne, hi] <;> omega) (by simp [D.under]) (by simp [hn]) ?_; try simp)
 exact PPost.zb2 rfl (by simp [Exp.row]) rfl
theorem zcS {l : List Tok} {F : FuncId} {r : PR Exp} {e : Exp} {q i nx : Nat} {ds : List D} {obs : List (Nat × Ob)} (h : RetX Tryz.prog F ds obs nx (PPost l i nx zdD r)) (hr : r = .ok e q) :
  RetX Tryz.prog F ds obs nx fun r o n => r = .val (.u (.agg [.int .i64 e.op, .int .i64 e.n, .int .i64 e.unit, .str e.s, .sl (e.args.map Exp.row)])) ∧ o = [(i, pOb l q)] ∧ n = nx := by
 subst hr
 rw [← Exp.row_eq]
 exact h
theorem zgT {l : List Tok} (hl : TokOK l) {f p : Nat} (hE : zfi l f) (hf : 4 * (l.length - p) ≤ f) {t : Tok} (ht : l[p]? = some t) (hk : ¬ t.kind = 2) (h1 : isB l p [116, 114, 117, 101] = false) (h2 : isB l p [102, 97, 108, 115, 101] = false)
  (h3 : isB l p [109, 105, 110] = false) (h4 : isB l p [109, 97, 120] = false) (h5 : isB l p [40] = true) {i nx : Nat} (hi : i < nx) :
  RetX Tryz.prog 283 [.ptr i 0] [(i, pOb l p)] nx (PPost l i nx zdD (zaW l (f + 1) p)) := by
 have hne := zaQ hi
 have hp := (List.getElem?_eq_some_iff.1 ht).1
 have hnx := zbS l p t ht hl.len
 have hll := hl.len
 have hp2 := za2 hl h5
 rw [zaW, ht]
 have hh1 := fun nx' (h : nx ≤ nx') => za7 l p [116, 114, 117, 101] i nx' (by omega) hp hl.len
 have hh2 := fun nx' (h : nx ≤ nx') => za7 l p [102, 97, 108, 115, 101] i nx' (by omega) hp hl.len
 have hm1 := zdC l p [109, 105, 110] hp hl.len
 have hm2 := zdC l p [109, 97, 120] hp hl.len
 have hh3 := fun nx' (h : nx ≤ nx') => za7 l p [40] i nx' (by omega) hp hl.len
 simp only [hk, h1, h2, h3, h4, h5, if_false, if_true, Bool.false_eq_true, or_self] at hh1 hh2 hm1 hm2 hh3 ⊢
 have he := fun nx' (h : nx ≤ nx') => hE (p + 1) 0 i nx' (by omega) hp2 (by omega) (by omega) (by omega)
 cases hr : zdF l f (p + 1) 0 with
 | stop pos e =>
  simp only [hr] at he
  (refine RetX.of_bodyW Tryz.func283 rfl (by simp) fun Γ hn hpan => ?_); simp only [entry, List.zipIdx_cons, List.zipIdx_nil, List.map_cons, List.map_nil, Nat.zero_add, Tryz.ntmps283]
  repeat' (first
  | (refine zag ?_; simp [hne, hk, del, Nat.add_assoc])
  | (refine zaj ?_; simp [hne, hk, del, Nat.add_assoc])
  | (refine zah ?_; simp [hne, hk, del, Nat.add_assoc])
  | (refine zai ?_; simp [hne, hk, del, Nat.add_assoc])
  | (refine CallP.fun_ (hnx) (by first | rfl | fail) (by first | assumption | (simp; done) | fail) (by first | (simp [hne, hk, del, Nat.add_assoc]; done) | (simp [hne, hk, del, Nat.add_assoc]; rfl) | fail) (by first | (simp; done) | fail) (fun d hd => ?_); subst hd; (try simp [hne, hk, del, Nat.add_assoc]))
  | (refine CallP.fun_ (hm1) (by first | rfl | fail) (by first | assumption | (simp; done) | fail) (by first | (simp [hne, hk, del, Nat.add_assoc]; done) | (simp [hne, hk, del, Nat.add_assoc]; rfl) | fail) (by first | (simp; done) | fail) (fun d hd => ?_); subst hd; (try simp [hne, hk, del, Nat.add_assoc]))
  | (refine CallP.fun_ (hm2) (by first | rfl | fail) (by first | assumption | (simp; done) | fail) (by first | (simp [hne, hk, del, Nat.add_assoc]; done) | (simp [hne, hk, del, Nat.add_assoc]; rfl) | fail) (by first | (simp; done) | fail) (fun d hd => ?_); subst hd; (try simp [hne, hk, del, Nat.add_assoc]))
  | (refine CallP.ok1 (hh1 _ (by first | omega | (simp; done) | (simp; omega) | fail)) (by first | (simp [hne, hk, del, Nat.add_assoc, zaa, getK, zab, zac]; done) | fail) (by rfl) (by first | assumption | (simp; done) | fail) (by rfl) (by simp) ?_; (try simp [hne, hk, del, Nat.add_assoc]))
  | (refine CallP.ok1 (hh2 _ (by first | omega | (simp; done) | (simp; omega) | fail)) (by first | (simp [hne, hk, del, Nat.add_assoc, zaa, getK, zab, zac]; done) | fail) (by rfl) (by first | assumption | (simp; done) | fail) (by rfl) (by simp) ?_; (try simp [hne, hk, del, Nat.add_assoc]))
  | (refine CallP.ok1 (hh3 _ (by first | omega | (simp; done) | (simp; omega) | fail)) (by first | (simp [hne, hk, del, Nat.add_assoc, zaa, getK, zab, zac]; done) | fail) (by rfl) (by first | assumption | (simp; done) | fail) (by rfl) (by simp) ?_; (try simp [hne, hk, del, Nat.add_assoc]))
  | (refine CallP.zed (he _ (by first | omega | (simp; done) | (simp; omega) | fail)) (by first | (simp [hne, hk, del, Nat.add_assoc, zaa, getK, zab, zac]; done) | fail) (by rfl) (by first | assumption | (simp; done) | fail) (by rfl) (by simp) ?_; rintro ob' ⟨q', rfl⟩; refine ⟨_, Wk.refl _, ?_⟩)
  | fail)
  (refine hpan _ _ ⟨{ n := _, env := [], obs := [(i, pOb l q')], next := nx }, (Wk.cut rfl (by simp [hn]) (by simp [wkO, zaa, getK, zab, zac, Ob.under, D.under, zad, zae, hi, hne, zab, zac, zaa, getK]) (by simp [wkU, zak, zaa, getK, D.under, hi, hne, zab, zac, zaa, getK]) (by simp [wkE, zak, zaa, getK, hi, hne, zab, zac, zaa, getK])), by simp [hn], ?_⟩; try simp)
  exact PPost.zaB (by simp [PR.bind, *])
 | ok e1 q1 =>
  have he := fun nx' h => zcS (he nx' h) hr
  obtain ⟨g1, g2⟩ := (zb8 hl f).1 _ _ _ _ hr hp2
  have hw := fun nx' (h : nx ≤ nx') => zeh hl [41] (q := q1) (i := i) (nx := nx') (by omega) g2
  cases hr2 : zbA l q1 [[41]] with
  | stop pos e =>
   simp only [hr2] at hw
   (refine RetX.of_bodyW Tryz.func283 rfl (by simp) fun Γ hn hpan => ?_); simp only [entry, List.zipIdx_cons, List.zipIdx_nil, List.map_cons, List.map_nil, Nat.zero_add, Tryz.ntmps283]
   repeat' (first
  | (refine zag ?_; simp [hne, hk, del, Nat.add_assoc])
  | (refine zaj ?_; simp [hne, hk, del, Nat.add_assoc])
  | (refine zah ?_; simp [hne, hk, del, Nat.add_assoc])
  | (refine zai ?_; simp [hne, hk, del, Nat.add_assoc])
  | (refine CallP.fun_ (hnx) (by first | rfl | fail) (by first | assumption | (simp; done) | fail) (by first | (simp [hne, hk, del, Nat.add_assoc]; done) | (simp [hne, hk, del, Nat.add_assoc]; rfl) | fail) (by first | (simp; done) | fail) (fun d hd => ?_); subst hd; (try simp [hne, hk, del, Nat.add_assoc]))
  | (refine CallP.fun_ (hm1) (by first | rfl | fail) (by first | assumption | (simp; done) | fail) (by first | (simp [hne, hk, del, Nat.add_assoc]; done) | (simp [hne, hk, del, Nat.add_assoc]; rfl) | fail) (by first | (simp; done) | fail) (fun d hd => ?_); subst hd; (try simp [hne, hk, del, Nat.add_assoc]))
  | (refine CallP.fun_ (hm2) (by first | rfl | fail) (by first | assumption | (simp; done) | fail) (by first | (simp [hne, hk, del, Nat.add_assoc]; done) | (simp [hne, hk, del, Nat.add_assoc]; rfl) | fail) (by first | (simp; done) | fail) (fun d hd => ?_); subst hd; (try simp [hne, hk, del, Nat.add_assoc]))
  | (refine CallP.ok1 (hh1 _ (by first | omega | (simp; done) | (simp; omega) | fail)) (by first | (simp [hne, hk, del, Nat.add_assoc, zaa, getK, zab, zac]; done) | fail) (by rfl) (by first | assumption | (simp; done) | fail) (by rfl) (by simp) ?_; (try simp [hne, hk, del, Nat.add_assoc]))
  | (refine CallP.ok1 (hh2 _ (by first | omega | (simp; done) | (simp; omega) | fail)) (by first | (simp [hne, hk, del, Nat.add_assoc, zaa, getK, zab, zac]; done) | fail) (by rfl) (by first | assumption | (simp; done) | fail) (by rfl) (by simp) ?_; (try simp [hne, hk, del, Nat.add_assoc]))
  | (refine CallP.ok1 (hh3 _ (by first | omega | (simp; done) | (simp; omega) | fail)) (by first | (simp [hne, hk, del, Nat.add_assoc, zaa, getK, zab, zac]; done) | fail) (by rfl) (by first | assumption | (simp; done) | fail) (by rfl) (by simp) ?_; (try simp [hne, hk, del, Nat.add_assoc]))
  | (refine CallP.ok1 (he _ (by first | omega | (simp; done) | (simp; omega) | fail)) (by first | (simp [hne, hk, del, Nat.add_assoc, zaa, getK, zab, zac]; done) | fail) (by rfl) (by first | assumption | (simp; done) | fail) (by rfl) (by simp) ?_; (try simp [hne, hk, del, Nat.add_assoc]))
  | (refine CallP.zed (hw _ (by first | omega | (simp; done) | (simp; omega) | fail)) (by first | (simp [hne, hk, del, Nat.add_assoc, zaa, getK, zab, zac]; done) | fail) (by rfl) (by first | assumption | (simp; done) | fail) (by rfl) (by simp) ?_; rintro ob' ⟨q', rfl⟩; refine ⟨_, Wk.refl _, ?_⟩)
  | (refine zaF (by first | rfl | fail) ?_; simp [hne, hk, del, Nat.add_assoc, frzN, frz1, zaE, zaD, St.frz, St.frzS, frzS, fv, za3, za4, za9, zaH, zaz, zay, del, frz, zba])
  | fail)
   (refine hpan _ _ ⟨{ n := _, env := [], obs := [(i, pOb l q')], next := nx }, (Wk.cut rfl (by simp [hn]) (by simp [wkO, zaa, getK, zab, zac, Ob.under, D.under, zad, zae, hi, hne, zab, zac, zaa, getK]) (by simp [wkU, zak, zaa, getK, D.under, hi, hne, zab, zac, zaa, getK]) (by simp [wkE, zak, zaa, getK, hi, hne, zab, zac, zaa, getK])), by simp [hn], ?_⟩; try simp)
   exact PPost.zaB (by simp [PR.bind, *])
  | ok u2 q =>
   simp only [hr2] at hw
   (refine RetX.of_bodyW Tryz.func283 rfl (by simp) fun Γ hn hpan => ?_); simp only [entry, List.zipIdx_cons, List.zipIdx_nil, List.map_cons, List.map_nil, Nat.zero_add, Tryz.ntmps283]
   repeat' (first
  | (refine zag ?_; simp [hne, hk, del, Nat.add_assoc])
  | (refine zaj ?_; simp [hne, hk, del, Nat.add_assoc])
  | (refine zah ?_; simp [hne, hk, del, Nat.add_assoc])
  | (refine zai ?_; simp [hne, hk, del, Nat.add_assoc])
  | (refine zas ?_; simp only [zan])
  | (refine CallP.fun_ (hnx) (by first | rfl | fail) (by first | assumption | (simp; done) | fail) (by first | (simp [hne, hk, del, Nat.add_assoc]; done) | (simp [hne, hk, del, Nat.add_assoc]; rfl) | fail) (by first | (simp; done) | fail) (fun d hd => ?_); subst hd; (try simp [hne, hk, del, Nat.add_assoc]))
  | (refine CallP.fun_ (hm1) (by first | rfl | fail) (by first | assumption | (simp; done) | fail) (by first | (simp [hne, hk, del, Nat.add_assoc]; done) | (simp [hne, hk, del, Nat.add_assoc]; rfl) | fail) (by first | (simp; done) | fail) (fun d hd => ?_); subst hd; (try simp [hne, hk, del, Nat.add_assoc]))
  | (refine CallP.fun_ (hm2) (by first | rfl | fail) (by first | assumption | (simp; done) | fail) (by first | (simp [hne, hk, del, Nat.add_assoc]; done) | (simp [hne, hk, del, Nat.add_assoc]; rfl) | fail) (by first | (simp; done) | fail) (fun d hd => ?_); subst hd; (try simp [hne, hk, del, Nat.add_assoc]))
  | (refine CallP.ok1 (hh1 _ (by first | omega | (simp; done) | (simp; omega) | fail)) (by first | (simp [hne, hk, del, Nat.add_assoc, zaa, getK, zab, zac]; done) | fail) (by rfl) (by first | assumption | (simp; done) | fail) (by rfl) (by simp) ?_; (try simp [hne, hk, del, Nat.add_assoc]))
  | (refine CallP.ok1 (hh2 _ (by first | omega | (simp; done) | (simp; omega) | fail)) (by first | (simp [hne, hk, del, Nat.add_assoc, zaa, getK, zab, zac]; done) | fail) (by rfl) (by first | assumption | (simp; done) | fail) (by rfl) (by simp) ?_; (try simp [hne, hk, del, Nat.add_assoc]))
  | (refine CallP.ok1 (hh3 _ (by first | omega | (simp; done) | (simp; omega) | fail)) (by first | (simp [hne, hk, del, Nat.add_assoc, zaa, getK, zab, zac]; done) | fail) (by rfl) (by first | assumption | (simp; done) | fail) (by rfl) (by simp) ?_; (try simp [hne, hk, del, Nat.add_assoc]))
  | (refine CallP.ok1 (he _ (by first | omega | (simp; done) | (simp; omega) | fail)) (by first | (simp [hne, hk, del, Nat.add_assoc, zaa, getK, zab, zac]; done) | fail) (by rfl) (by first | assumption | (simp; done) | fail) (by rfl) (by simp) ?_; (try simp [hne, hk, del, Nat.add_assoc]))
  | (refine CallP.ok1 (hw _ (by first | omega | (simp; done) | (simp; omega) | fail)) (by first | (simp [hne, hk, del, Nat.add_assoc, zaa, getK, zab, zac]; done) | fail) (by rfl) (by first | assumption | (simp; done) | fail) (by rfl) (by simp) ?_; (try simp [hne, hk, del, Nat.add_assoc]))
  | (refine zaF (by first | rfl | fail) ?_; simp [hne, hk, del, Nat.add_assoc, frzN, frz1, zaE, zaD, St.frz, St.frzS, frzS, fv, za3, za4, za9, zaH, zaz, zay, del, frz, zba])
  | fail)
   refine EndW.norm ?_
   simp [St.norm, za1, zbz, zbL, zbM, hne]
   (refine EndW.here ?_; (first | (refine EndOK.fin (.inr rfl) ?_) | (refine EndOK.fin (.inl rfl) ?_)); simp [zaC, zaf, Tryz.results283, hne, hi]; refine FinOK.cut [(i, pOb l q)] (nx) (by simp [zaa, getK, zab, zac, Ob.under, D.under, zad, zae, hne, hi] <;> omega) (by simp [D.under]) (by simp [hn]) ?_; try simp)
   exact PPost.zb2 (by simp [PR.bind, *]; rfl) (by simp [Exp.row_eq]) rfl
theorem zgn {l : List Tok} (hl : TokOK l) {f p : Nat} (hE : zfi l f) (hf : 4 * (l.length - p) ≤ f) {t : Tok} (ht : l[p]? = some t) (hk : ¬ t.kind = 2) (h1 : isB l p [116, 114, 117, 101] = false) (h2 : isB l p [102, 97, 108, 115, 101] = false)
  (hm : isB l p [109, 105, 110] = false ∧ isB l p [109, 97, 120] = true ∨ isB l p [109, 105, 110] = true ∧ isB l p [109, 97, 120] = false) {i nx : Nat} (hi : i < nx) :
  RetX Tryz.prog 283 [.ptr i 0] [(i, pOb l p)] nx (PPost l i nx zdD (zaW l (f + 1) p)) := by
 have hne := zaQ hi
 have hp := (List.getElem?_eq_some_iff.1 ht).1
 have hnx := zbS l p t ht hl.len
 have hll := hl.len
 have hp2 : p + 1 < l.length := hm.elim (fun h => za2 hl h.2) (fun h => za2 hl h.1)
 rw [zaW, ht]
 have hh1 := fun nx' (h : nx ≤ nx') => za7 l p [116, 114, 117, 101] i nx' (by omega) hp hl.len
 have hh2 := fun nx' (h : nx ≤ nx') => za7 l p [102, 97, 108, 115, 101] i nx' (by omega) hp hl.len
 have hm1 := zdC l p [109, 105, 110] hp hl.len
 have hm2 := zdC l p [109, 97, 120] hp hl.len
 rcases hm with ⟨h3, h4⟩ | ⟨h3, h4⟩
 all_goals
  simp only [hk, h1, h2, h3, h4, if_false, if_true, Bool.false_eq_true, or_true, true_or] at hh1 hh2 hm1 hm2 ⊢
  have hw1 := fun nx' (h : nx ≤ nx') => zeh hl [40] (q := (p + 1)) (i := i) (nx := nx') (by omega) hp2
  cases hr0 : zbA l (p + 1) [[40]] with
  | stop pos e =>
   simp only [hr0] at hw1
   (refine RetX.of_bodyW Tryz.func283 rfl (by simp) fun Γ hn hpan => ?_); simp only [entry, List.zipIdx_cons, List.zipIdx_nil, List.map_cons, List.map_nil, Nat.zero_add, Tryz.ntmps283]
   repeat' (first
  | (refine zag ?_; simp [hne, hk, del, Nat.add_assoc])
  | (refine zaj ?_; simp [hne, hk, del, Nat.add_assoc])
  | (refine ⟨by omega, ?_⟩)
  | (refine zah ?_; simp [hne, hk, del, Nat.add_assoc])
  | (refine zai ?_; simp [hne, hk, del, Nat.add_assoc])
  | (refine zap ?_; simp [hne, hk, del, Nat.add_assoc])
  | (refine zaq ?_; simp only [zan])
  | (refine CallP.fun_ (hnx) (by first | rfl | fail) (by first | assumption | (simp; done) | fail) (by first | (simp [hne, hk, del, Nat.add_assoc]; done) | (simp [hne, hk, del, Nat.add_assoc]; rfl) | fail) (by first | (simp; done) | fail) (fun d hd => ?_); subst hd; (try simp [hne, hk, del, Nat.add_assoc]))
  | (refine CallP.fun_ (hm1) (by first | rfl | fail) (by first | assumption | (simp; done) | fail) (by first | (simp [hne, hk, del, Nat.add_assoc]; done) | (simp [hne, hk, del, Nat.add_assoc]; rfl) | fail) (by first | (simp; done) | fail) (fun d hd => ?_); subst hd; (try simp [hne, hk, del, Nat.add_assoc]))
  | (refine CallP.fun_ (hm2) (by first | rfl | fail) (by first | assumption | (simp; done) | fail) (by first | (simp [hne, hk, del, Nat.add_assoc]; done) | (simp [hne, hk, del, Nat.add_assoc]; rfl) | fail) (by first | (simp; done) | fail) (fun d hd => ?_); subst hd; (try simp [hne, hk, del, Nat.add_assoc]))
  | (refine CallP.ok1 (hh1 _ (by first | omega | (simp; done) | (simp; omega) | fail)) (by first | (simp [hne, hk, del, Nat.add_assoc, zaa, getK, zab, zac]; done) | fail) (by rfl) (by first | assumption | (simp; done) | fail) (by rfl) (by simp) ?_; (try simp [hne, hk, del, Nat.add_assoc]))
  | (refine CallP.ok1 (hh2 _ (by first | omega | (simp; done) | (simp; omega) | fail)) (by first | (simp [hne, hk, del, Nat.add_assoc, zaa, getK, zab, zac]; done) | fail) (by rfl) (by first | assumption | (simp; done) | fail) (by rfl) (by simp) ?_; (try simp [hne, hk, del, Nat.add_assoc]))
  | (refine CallP.zed (hw1 _ (by first | omega | (simp; done) | (simp; omega) | fail)) (by first | (simp [hne, hk, del, Nat.add_assoc, zaa, getK, zab, zac]; done) | fail) (by rfl) (by first | assumption | (simp; done) | fail) (by rfl) (by simp) ?_; rintro ob' ⟨q', rfl⟩; refine ⟨_, Wk.refl _, ?_⟩)
  | (refine zaF (by first | rfl | fail) ?_; simp [hne, hk, del, Nat.add_assoc, frzN, frz1, zaE, zaD, St.frz, St.frzS, frzS, fv, za3, za4, za9, zaH, zaz, zay, del, frz, zba])
  | fail)
   (refine hpan _ _ ⟨{ n := _, env := [], obs := [(i, pOb l q')], next := nx }, (Wk.cut rfl (by simp [hn]) (by simp [wkO, zaa, getK, zab, zac, Ob.under, D.under, zad, zae, hi, hne, zab, zac, zaa, getK]) (by simp [wkU, zak, zaa, getK, D.under, hi, hne, zab, zac, zaa, getK]) (by simp [wkE, zak, zaa, getK, hi, hne, zab, zac, zaa, getK])), by simp [hn], ?_⟩; try simp)
   exact PPost.zaB (by simp [PR.bind, *])
  | ok v0 q0 =>
   simp only [hr0] at hw1
   obtain ⟨g0a, g0b⟩ := zaV hl _ hr0 hp2
   have ha := fun nx' (h : nx ≤ nx') => hE q0 0 i nx' (by omega) g0b (by omega) (by omega) (by omega)
   cases hr1 : zdF l f q0 0 with
   | stop pos e =>
    simp only [hr1] at ha
    (refine RetX.of_bodyW Tryz.func283 rfl (by simp) fun Γ hn hpan => ?_); simp only [entry, List.zipIdx_cons, List.zipIdx_nil, List.map_cons, List.map_nil, Nat.zero_add, Tryz.ntmps283]
    repeat' (first
  | (refine zag ?_; simp [hne, hk, del, Nat.add_assoc])
  | (refine zaj ?_; simp [hne, hk, del, Nat.add_assoc])
  | (refine ⟨by omega, ?_⟩)
  | (refine zah ?_; simp [hne, hk, del, Nat.add_assoc])
  | (refine zai ?_; simp [hne, hk, del, Nat.add_assoc])
  | (refine zap ?_; simp [hne, hk, del, Nat.add_assoc])
  | (refine zaq ?_; simp only [zan])
  | (refine CallP.fun_ (hnx) (by first | rfl | fail) (by first | assumption | (simp; done) | fail) (by first | (simp [hne, hk, del, Nat.add_assoc]; done) | (simp [hne, hk, del, Nat.add_assoc]; rfl) | fail) (by first | (simp; done) | fail) (fun d hd => ?_); subst hd; (try simp [hne, hk, del, Nat.add_assoc]))
  | (refine CallP.fun_ (hm1) (by first | rfl | fail) (by first | assumption | (simp; done) | fail) (by first | (simp [hne, hk, del, Nat.add_assoc]; done) | (simp [hne, hk, del, Nat.add_assoc]; rfl) | fail) (by first | (simp; done) | fail) (fun d hd => ?_); subst hd; (try simp [hne, hk, del, Nat.add_assoc]))
  | (refine CallP.fun_ (hm2) (by first | rfl | fail) (by first | assumption | (simp; done) | fail) (by first | (simp [hne, hk, del, Nat.add_assoc]; done) | (simp [hne, hk, del, Nat.add_assoc]; rfl) | fail) (by first | (simp; done) | fail) (fun d hd => ?_); subst hd; (try simp [hne, hk, del, Nat.add_assoc]))
  | (refine CallP.ok1 (hh1 _ (by first | omega | (simp; done) | (simp; omega) | fail)) (by first | (simp [hne, hk, del, Nat.add_assoc, zaa, getK, zab, zac]; done) | fail) (by rfl) (by first | assumption | (simp; done) | fail) (by rfl) (by simp) ?_; (try simp [hne, hk, del, Nat.add_assoc]))
  | (refine CallP.ok1 (hh2 _ (by first | omega | (simp; done) | (simp; omega) | fail)) (by first | (simp [hne, hk, del, Nat.add_assoc, zaa, getK, zab, zac]; done) | fail) (by rfl) (by first | assumption | (simp; done) | fail) (by rfl) (by simp) ?_; (try simp [hne, hk, del, Nat.add_assoc]))
  | (refine CallP.ok1 (hw1 _ (by first | omega | (simp; done) | (simp; omega) | fail)) (by first | (simp [hne, hk, del, Nat.add_assoc, zaa, getK, zab, zac]; done) | fail) (by rfl) (by first | assumption | (simp; done) | fail) (by rfl) (by simp) ?_; (try simp [hne, hk, del, Nat.add_assoc]))
  | (refine CallP.zed (ha _ (by first | omega | (simp; done) | (simp; omega) | fail)) (by first | (simp [hne, hk, del, Nat.add_assoc, zaa, getK, zab, zac]; done) | fail) (by rfl) (by first | assumption | (simp; done) | fail) (by rfl) (by simp) ?_; rintro ob' ⟨q', rfl⟩; refine ⟨_, Wk.refl _, ?_⟩)
  | (refine zaF (by first | rfl | fail) ?_; simp [hne, hk, del, Nat.add_assoc, frzN, frz1, zaE, zaD, St.frz, St.frzS, frzS, fv, za3, za4, za9, zaH, zaz, zay, del, frz, zba])
  | fail)
    (refine hpan _ _ ⟨{ n := _, env := [], obs := [(i, pOb l q')], next := nx }, (Wk.cut rfl (by simp [hn]) (by simp [wkO, zaa, getK, zab, zac, Ob.under, D.under, zad, zae, hi, hne, zab, zac, zaa, getK]) (by simp [wkU, zak, zaa, getK, D.under, hi, hne, zab, zac, zaa, getK]) (by simp [wkE, zak, zaa, getK, hi, hne, zab, zac, zaa, getK])), by simp [hn], ?_⟩; try simp)
    exact PPost.zaB (by simp [PR.bind, *])
   | ok v1 q1 =>
    have ha := fun nx' h => zcS (ha nx' h) hr1
    obtain ⟨g1a, g1b⟩ := (zb8 hl f).1 _ _ _ _ hr1 g0b
    have hw2 := fun nx' (h : nx ≤ nx') => zeh hl [44] (q := q1) (i := i) (nx := nx') (by omega) g1b
    cases hr2 : zbA l q1 [[44]] with
    | stop pos e =>
     simp only [hr2] at hw2
     (refine RetX.of_bodyW Tryz.func283 rfl (by simp) fun Γ hn hpan => ?_); simp only [entry, List.zipIdx_cons, List.zipIdx_nil, List.map_cons, List.map_nil, Nat.zero_add, Tryz.ntmps283]
     repeat' (first
  | (refine zag ?_; simp [hne, hk, del, Nat.add_assoc])
  | (refine zaj ?_; simp [hne, hk, del, Nat.add_assoc])
  | (refine ⟨by omega, ?_⟩)
  | (refine zah ?_; simp [hne, hk, del, Nat.add_assoc])
  | (refine zai ?_; simp [hne, hk, del, Nat.add_assoc])
  | (refine zap ?_; simp [hne, hk, del, Nat.add_assoc])
  | (refine zaq ?_; simp only [zan])
  | (refine CallP.fun_ (hnx) (by first | rfl | fail) (by first | assumption | (simp; done) | fail) (by first | (simp [hne, hk, del, Nat.add_assoc]; done) | (simp [hne, hk, del, Nat.add_assoc]; rfl) | fail) (by first | (simp; done) | fail) (fun d hd => ?_); subst hd; (try simp [hne, hk, del, Nat.add_assoc]))
  | (refine CallP.fun_ (hm1) (by first | rfl | fail) (by first | assumption | (simp; done) | fail) (by first | (simp [hne, hk, del, Nat.add_assoc]; done) | (simp [hne, hk, del, Nat.add_assoc]; rfl) | fail) (by first | (simp; done) | fail) (fun d hd => ?_); subst hd; (try simp [hne, hk, del, Nat.add_assoc]))
  | (refine CallP.fun_ (hm2) (by first | rfl | fail) (by first | assumption | (simp; done) | fail) (by first | (simp [hne, hk, del, Nat.add_assoc]; done) | (simp [hne, hk, del, Nat.add_assoc]; rfl) | fail) (by first | (simp; done) | fail) (fun d hd => ?_); subst hd; (try simp [hne, hk, del, Nat.add_assoc]))
  | (refine CallP.ok1 (hh1 _ (by first | omega | (simp; done) | (simp; omega) | fail)) (by first | (simp [hne, hk, del, Nat.add_assoc, zaa, getK, zab, zac]; done) | fail) (by rfl) (by first | assumption | (simp; done) | fail) (by rfl) (by simp) ?_; (try simp [hne, hk, del, Nat.add_assoc]))
  | (refine CallP.ok1 (hh2 _ (by first | omega | (simp; done) | (simp; omega) | fail)) (by first | (simp [hne, hk, del, Nat.add_assoc, zaa, getK, zab, zac]; done) | fail) (by rfl) (by first | assumption | (simp; done) | fail) (by rfl) (by simp) ?_; (try simp [hne, hk, del, Nat.add_assoc]))
  | (refine CallP.ok1 (hw1 _ (by first | omega | (simp; done) | (simp; omega) | fail)) (by first | (simp [hne, hk, del, Nat.add_assoc, zaa, getK, zab, zac]; done) | fail) (by rfl) (by first | assumption | (simp; done) | fail) (by rfl) (by simp) ?_; (try simp [hne, hk, del, Nat.add_assoc]))
  | (refine CallP.ok1 (ha _ (by first | omega | (simp; done) | (simp; omega) | fail)) (by first | (simp [hne, hk, del, Nat.add_assoc, zaa, getK, zab, zac]; done) | fail) (by rfl) (by first | assumption | (simp; done) | fail) (by rfl) (by simp) ?_; (try simp [hne, hk, del, Nat.add_assoc]))
  | (refine CallP.zed (hw2 _ (by first | omega | (simp; done) | (simp; omega) | fail)) (by first | (simp [hne, hk, del, Nat.add_assoc, zaa, getK, zab, zac]; done) | fail) (by rfl) (by first | assumption | (simp; done) | fail) (by rfl) (by simp) ?_; rintro ob' ⟨q', rfl⟩; refine ⟨_, Wk.refl _, ?_⟩)
  | (refine zaF (by first | rfl | fail) ?_; simp [hne, hk, del, Nat.add_assoc, frzN, frz1, zaE, zaD, St.frz, St.frzS, frzS, fv, za3, za4, za9, zaH, zaz, zay, del, frz, zba])
  | fail)
     (refine hpan _ _ ⟨{ n := _, env := [], obs := [(i, pOb l q')], next := nx }, (Wk.cut rfl (by simp [hn]) (by simp [wkO, zaa, getK, zab, zac, Ob.under, D.under, zad, zae, hi, hne, zab, zac, zaa, getK]) (by simp [wkU, zak, zaa, getK, D.under, hi, hne, zab, zac, zaa, getK]) (by simp [wkE, zak, zaa, getK, hi, hne, zab, zac, zaa, getK])), by simp [hn], ?_⟩; try simp)
     exact PPost.zaB (by simp [PR.bind, *])
    | ok v2 q2 =>
     simp only [hr2] at hw2
     obtain ⟨g2a, g2b⟩ := zaV hl _ hr2 g1b
     have hb := fun nx' (h : nx ≤ nx') => hE q2 0 i nx' (by omega) g2b (by omega) (by omega) (by omega)
     cases hr3 : zdF l f q2 0 with
     | stop pos e =>
      simp only [hr3] at hb
      (refine RetX.of_bodyW Tryz.func283 rfl (by simp) fun Γ hn hpan => ?_); simp only [entry, List.zipIdx_cons, List.zipIdx_nil, List.map_cons, List.map_nil, Nat.zero_add, Tryz.ntmps283]
      repeat' (first
  | (refine zag ?_; simp [hne, hk, del, Nat.add_assoc])
  | (refine zaj ?_; simp [hne, hk, del, Nat.add_assoc])
  | (refine ⟨by omega, ?_⟩)
  | (refine zah ?_; simp [hne, hk, del, Nat.add_assoc])
  | (refine zai ?_; simp [hne, hk, del, Nat.add_assoc])
  | (refine zap ?_; simp [hne, hk, del, Nat.add_assoc])
  | (refine zaq ?_; simp only [zan])
  | (refine CallP.fun_ (hnx) (by first | rfl | fail) (by first | assumption | (simp; done) | fail) (by first | (simp [hne, hk, del, Nat.add_assoc]; done) | (simp [hne, hk, del, Nat.add_assoc]; rfl) | fail) (by first | (simp; done) | fail) (fun d hd => ?_); subst hd; (try simp [hne, hk, del, Nat.add_assoc]))
  | (refine CallP.fun_ (hm1) (by first | rfl | fail) (by first | assumption | (simp; done) | fail) (by first | (simp [hne, hk, del, Nat.add_assoc]; done) | (simp [hne, hk, del, Nat.add_assoc]; rfl) | fail) (by first | (simp; done) | fail) (fun d hd => ?_); subst hd; (try simp [hne, hk, del, Nat.add_assoc]))
  | (refine CallP.fun_ (hm2) (by first | rfl | fail) (by first | assumption | (simp; done) | fail) (by first | (simp [hne, hk, del, Nat.add_assoc]; done) | (simp [hne, hk, del, Nat.add_assoc]; rfl) | fail) (by first | (simp; done) | fail) (fun d hd => ?_); subst hd; (try simp [hne, hk, del, Nat.add_assoc]))
  | (refine CallP.ok1 (hh1 _ (by first | omega | (simp; done) | (simp; omega) | fail)) (by first | (simp [hne, hk, del, Nat.add_assoc, zaa, getK, zab, zac]; done) | fail) (by rfl) (by first | assumption | (simp; done) | fail) (by rfl) (by simp) ?_; (try simp [hne, hk, del, Nat.add_assoc]))
  | (refine CallP.ok1 (hh2 _ (by first | omega | (simp; done) | (simp; omega) | fail)) (by first | (simp [hne, hk, del, Nat.add_assoc, zaa, getK, zab, zac]; done) | fail) (by rfl) (by first | assumption | (simp; done) | fail) (by rfl) (by simp) ?_; (try simp [hne, hk, del, Nat.add_assoc]))
  | (refine CallP.ok1 (hw1 _ (by first | omega | (simp; done) | (simp; omega) | fail)) (by first | (simp [hne, hk, del, Nat.add_assoc, zaa, getK, zab, zac]; done) | fail) (by rfl) (by first | assumption | (simp; done) | fail) (by rfl) (by simp) ?_; (try simp [hne, hk, del, Nat.add_assoc]))
  | (refine CallP.ok1 (ha _ (by first | omega | (simp; done) | (simp; omega) | fail)) (by first | (simp [hne, hk, del, Nat.add_assoc, zaa, getK, zab, zac]; done) | fail) (by rfl) (by first | assumption | (simp; done) | fail) (by rfl) (by simp) ?_; (try simp [hne, hk, del, Nat.add_assoc]))
  | (refine CallP.ok1 (hw2 _ (by first | omega | (simp; done) | (simp; omega) | fail)) (by first | (simp [hne, hk, del, Nat.add_assoc, zaa, getK, zab, zac]; done) | fail) (by rfl) (by first | assumption | (simp; done) | fail) (by rfl) (by simp) ?_; (try simp [hne, hk, del, Nat.add_assoc]))
  | (refine CallP.zed (hb _ (by first | omega | (simp; done) | (simp; omega) | fail)) (by first | (simp [hne, hk, del, Nat.add_assoc, zaa, getK, zab, zac]; done) | fail) (by rfl) (by first | assumption | (simp; done) | fail) (by rfl) (by simp) ?_; rintro ob' ⟨q', rfl⟩; refine ⟨_, Wk.refl _, ?_⟩)
  | (refine zaF (by first | rfl | fail) ?_; simp [hne, hk, del, Nat.add_assoc, frzN, frz1, zaE, zaD, St.frz, St.frzS, frzS, fv, za3, za4, za9, zaH, zaz, zay, del, frz, zba])
  | fail)
      (refine hpan _ _ ⟨{ n := _, env := [], obs := [(i, pOb l q')], next := nx }, (Wk.cut rfl (by simp [hn]) (by simp [wkO, zaa, getK, zab, zac, Ob.under, D.under, zad, zae, hi, hne, zab, zac, zaa, getK]) (by simp [wkU, zak, zaa, getK, D.under, hi, hne, zab, zac, zaa, getK]) (by simp [wkE, zak, zaa, getK, hi, hne, zab, zac, zaa, getK])), by simp [hn], ?_⟩; try simp)
      exact PPost.zaB (by simp [PR.bind, *])
     | ok v3 q3 =>
      have hb := fun nx' h => zcS (hb nx' h) hr3
      obtain ⟨g3a, g3b⟩ := (zb8 hl f).1 _ _ _ _ hr3 g2b
      have hw3 := fun nx' (h : nx ≤ nx') => zeh hl [41] (q := q3) (i := i) (nx := nx') (by omega) g3b
      cases hr4 : zbA l q3 [[41]] with
      | stop pos e =>
       simp only [hr4] at hw3
       (refine RetX.of_bodyW Tryz.func283 rfl (by simp) fun Γ hn hpan => ?_); simp only [entry, List.zipIdx_cons, List.zipIdx_nil, List.map_cons, List.map_nil, Nat.zero_add, Tryz.ntmps283]
       repeat' (first
  | (refine zag ?_; simp [hne, hk, del, Nat.add_assoc])
  | (refine zaj ?_; simp [hne, hk, del, Nat.add_assoc])
  | (refine ⟨by omega, ?_⟩)
  | (refine zah ?_; simp [hne, hk, del, Nat.add_assoc])
  | (refine zai ?_; simp [hne, hk, del, Nat.add_assoc])
  | (refine zap ?_; simp [hne, hk, del, Nat.add_assoc])
  | (refine zaq ?_; simp only [zan])
  | (refine CallP.fun_ (hnx) (by first | rfl | fail) (by first | assumption | (simp; done) | fail) (by first | (simp [hne, hk, del, Nat.add_assoc]; done) | (simp [hne, hk, del, Nat.add_assoc]; rfl) | fail) (by first | (simp; done) | fail) (fun d hd => ?_); subst hd; (try simp [hne, hk, del, Nat.add_assoc]))
  | (refine CallP.fun_ (hm1) (by first | rfl | fail) (by first | assumption | (simp; done) | fail) (by first | (simp [hne, hk, del, Nat.add_assoc]; done) | (simp [hne, hk, del, Nat.add_assoc]; rfl) | fail) (by first | (simp; done) | fail) (fun d hd => ?_); subst hd; (try simp [hne, hk, del, Nat.add_assoc]))
  | (refine CallP.fun_ (hm2) (by first | rfl | fail) (by first | assumption | (simp; done) | fail) (by first | (simp [hne, hk, del, Nat.add_assoc]; done) | (simp [hne, hk, del, Nat.add_assoc]; rfl) | fail) (by first | (simp; done) | fail) (fun d hd => ?_); subst hd; (try simp [hne, hk, del, Nat.add_assoc]))
  | (refine CallP.ok1 (hh1 _ (by first | omega | (simp; done) | (simp; omega) | fail)) (by first | (simp [hne, hk, del, Nat.add_assoc, zaa, getK, zab, zac]; done) | fail) (by rfl) (by first | assumption | (simp; done) | fail) (by rfl) (by simp) ?_; (try simp [hne, hk, del, Nat.add_assoc]))
  | (refine CallP.ok1 (hh2 _ (by first | omega | (simp; done) | (simp; omega) | fail)) (by first | (simp [hne, hk, del, Nat.add_assoc, zaa, getK, zab, zac]; done) | fail) (by rfl) (by first | assumption | (simp; done) | fail) (by rfl) (by simp) ?_; (try simp [hne, hk, del, Nat.add_assoc]))
  | (refine CallP.ok1 (hw1 _ (by first | omega | (simp; done) | (simp; omega) | fail)) (by first | (simp [hne, hk, del, Nat.add_assoc, zaa, getK, zab, zac]; done) | fail) (by rfl) (by first | assumption | (simp; done) | fail) (by rfl) (by simp) ?_; (try simp [hne, hk, del, Nat.add_assoc]))
  | (refine CallP.ok1 (ha _ (by first | omega | (simp; done) | (simp; omega) | fail)) (by first | (simp [hne, hk, del, Nat.add_assoc, zaa, getK, zab, zac]; done) | fail) (by rfl) (by first | assumption | (simp; done) | fail) (by rfl) (by simp) ?_; (try simp [hne, hk, del, Nat.add_assoc]))
  | (refine CallP.ok1 (hw2 _ (by first | omega | (simp; done) | (simp; omega) | fail)) (by first | (simp [hne, hk, del, Nat.add_assoc, zaa, getK, zab, zac]; done) | fail) (by rfl) (by first | assumption | (simp; done) | fail) (by rfl) (by simp) ?_; (try simp [hne, hk, del, Nat.add_assoc]))
  | (refine CallP.ok1 (hb _ (by first | omega | (simp; done) | (simp; omega) | fail)) (by first | (simp [hne, hk, del, Nat.add_assoc, zaa, getK, zab, zac]; done) | fail) (by rfl) (by first | assumption | (simp; done) | fail) (by rfl) (by simp) ?_; (try simp [hne, hk, del, Nat.add_assoc]))
  | (refine CallP.zed (hw3 _ (by first | omega | (simp; done) | (simp; omega) | fail)) (by first | (simp [hne, hk, del, Nat.add_assoc, zaa, getK, zab, zac]; done) | fail) (by rfl) (by first | assumption | (simp; done) | fail) (by rfl) (by simp) ?_; rintro ob' ⟨q', rfl⟩; refine ⟨_, Wk.refl _, ?_⟩)
  | (refine zaF (by first | rfl | fail) ?_; simp [hne, hk, del, Nat.add_assoc, frzN, frz1, zaE, zaD, St.frz, St.frzS, frzS, fv, za3, za4, za9, zaH, zaz, zay, del, frz, zba])
  | fail)
       (refine hpan _ _ ⟨{ n := _, env := [], obs := [(i, pOb l q')], next := nx }, (Wk.cut rfl (by simp [hn]) (by simp [wkO, zaa, getK, zab, zac, Ob.under, D.under, zad, zae, hi, hne, zab, zac, zaa, getK]) (by simp [wkU, zak, zaa, getK, D.under, hi, hne, zab, zac, zaa, getK]) (by simp [wkE, zak, zaa, getK, hi, hne, zab, zac, zaa, getK])), by simp [hn], ?_⟩; try simp)
       exact PPost.zaB (by simp [PR.bind, *])
      | ok v4 q4 =>
       simp only [hr4] at hw3
       obtain ⟨g4a, g4b⟩ := zaV hl _ hr4 g3b
       (refine RetX.of_bodyW Tryz.func283 rfl (by simp) fun Γ hn hpan => ?_); simp only [entry, List.zipIdx_cons, List.zipIdx_nil, List.map_cons, List.map_nil, Nat.zero_add, Tryz.ntmps283]
       repeat' (first
  | (refine zag ?_; simp [hne, hk, del, Nat.add_assoc])
  | (refine zaj ?_; simp [hne, hk, del, Nat.add_assoc])
  | (refine ⟨by omega, ?_⟩)
  | (refine zah ?_; simp [hne, hk, del, Nat.add_assoc])
  | (refine zai ?_; simp [hne, hk, del, Nat.add_assoc])
  | (refine zap ?_; simp [hne, hk, del, Nat.add_assoc])
  | (refine zas ?_; simp only [zan])
  | (refine zaq ?_; simp only [zan])
  | (refine CallP.fun_ (hnx) (by first | rfl | fail) (by first | assumption | (simp; done) | fail) (by first | (simp [hne, hk, del, Nat.add_assoc]; done) | (simp [hne, hk, del, Nat.add_assoc]; rfl) | fail) (by first | (simp; done) | fail) (fun d hd => ?_); subst hd; (try simp [hne, hk, del, Nat.add_assoc]))
  | (refine CallP.fun_ (hm1) (by first | rfl | fail) (by first | assumption | (simp; done) | fail) (by first | (simp [hne, hk, del, Nat.add_assoc]; done) | (simp [hne, hk, del, Nat.add_assoc]; rfl) | fail) (by first | (simp; done) | fail) (fun d hd => ?_); subst hd; (try simp [hne, hk, del, Nat.add_assoc]))
  | (refine CallP.fun_ (hm2) (by first | rfl | fail) (by first | assumption | (simp; done) | fail) (by first | (simp [hne, hk, del, Nat.add_assoc]; done) | (simp [hne, hk, del, Nat.add_assoc]; rfl) | fail) (by first | (simp; done) | fail) (fun d hd => ?_); subst hd; (try simp [hne, hk, del, Nat.add_assoc]))
  | (refine CallP.ok1 (hh1 _ (by first | omega | (simp; done) | (simp; omega) | fail)) (by first | (simp [hne, hk, del, Nat.add_assoc, zaa, getK, zab, zac]; done) | fail) (by rfl) (by first | assumption | (simp; done) | fail) (by rfl) (by simp) ?_; (try simp [hne, hk, del, Nat.add_assoc]))
  | (refine CallP.ok1 (hh2 _ (by first | omega | (simp; done) | (simp; omega) | fail)) (by first | (simp [hne, hk, del, Nat.add_assoc, zaa, getK, zab, zac]; done) | fail) (by rfl) (by first | assumption | (simp; done) | fail) (by rfl) (by simp) ?_; (try simp [hne, hk, del, Nat.add_assoc]))
  | (refine CallP.ok1 (hw1 _ (by first | omega | (simp; done) | (simp; omega) | fail)) (by first | (simp [hne, hk, del, Nat.add_assoc, zaa, getK, zab, zac]; done) | fail) (by rfl) (by first | assumption | (simp; done) | fail) (by rfl) (by simp) ?_; (try simp [hne, hk, del, Nat.add_assoc]))
  | (refine CallP.ok1 (ha _ (by first | omega | (simp; done) | (simp; omega) | fail)) (by first | (simp [hne, hk, del, Nat.add_assoc, zaa, getK, zab, zac]; done) | fail) (by rfl) (by first | assumption | (simp; done) | fail) (by rfl) (by simp) ?_; (try simp [hne, hk, del, Nat.add_assoc]))
  | (refine CallP.ok1 (hw2 _ (by first | omega | (simp; done) | (simp; omega) | fail)) (by first | (simp [hne, hk, del, Nat.add_assoc, zaa, getK, zab, zac]; done) | fail) (by rfl) (by first | assumption | (simp; done) | fail) (by rfl) (by simp) ?_; (try simp [hne, hk, del, Nat.add_assoc]))
  | (refine CallP.ok1 (hb _ (by first | omega | (simp; done) | (simp; omega) | fail)) (by first | (simp [hne, hk, del, Nat.add_assoc, zaa, getK, zab, zac]; done) | fail) (by rfl) (by first | assumption | (simp; done) | fail) (by rfl) (by simp) ?_; (try simp [hne, hk, del, Nat.add_assoc]))
  | (refine CallP.ok1 (hw3 _ (by first | omega | (simp; done) | (simp; omega) | fail)) (by first | (simp [hne, hk, del, Nat.add_assoc, zaa, getK, zab, zac]; done) | fail) (by rfl) (by first | assumption | (simp; done) | fail) (by rfl) (by simp) ?_; (try simp [hne, hk, del, Nat.add_assoc]))
  | (refine zaF (by first | rfl | fail) ?_; simp [hne, hk, del, Nat.add_assoc, frzN, frz1, zaE, zaD, St.frz, St.frzS, frzS, fv, za3, za4, za9, zaH, zaz, zay, del, frz, zba])
  | fail)
       (refine EndW.frzN 1 ?_; simp [frzN, frz1, zaE, zaD, St.frz, St.frzS, frzS, fv, za3, za4, za9, zaH, zaz, zay, del, frz, zba, hne, Nat.add_assoc])
       refine EndW.norm ?_
       simp [St.norm, za1, zbz, zbL, zbM, hne, Nat.add_assoc]
       (refine EndW.here ?_; (first | (refine EndOK.fin (.inr rfl) ?_) | (refine EndOK.fin (.inl rfl) ?_)); simp [zaC, zaf, Tryz.results283, hne, hi]; refine FinOK.cut [(i, pOb l q4)] (nx) (by simp [zaa, getK, zab, zac, Ob.under, D.under, zad, zae, hne, hi] <;> omega) (by simp [D.under]) (by simp [hn]) ?_; try simp)
       exact PPost.zb2 (by simp [PR.bind, *]; rfl) (by simp [Exp.row_eq, Exp.op, Exp.n, Exp.unit, Exp.s, Exp.args]) rfl
theorem ziV {l : List Tok} (hl : TokOK l) {f p : Nat} (hE : zfi l f) (hf : 4 * (l.length - p) ≤ f) {t : Tok} (ht : l[p]? = some t) (hk : ¬ t.kind = 2) (h1 : isB l p [116, 114, 117, 101] = false) (h2 : isB l p [102, 97, 108, 115, 101] = false)
  (h3 : isB l p [109, 105, 110] = false) (h4 : isB l p [109, 97, 120] = true) {i nx : Nat} (hi : i < nx) :
  RetX Tryz.prog 283 [.ptr i 0] [(i, pOb l p)] nx (PPost l i nx zdD (zaW l (f + 1) p)) := zgn hl hE hf ht hk h1 h2 (.inl ⟨h3, h4⟩) hi
theorem zle {l : List Tok} (hl : TokOK l) {f p : Nat} {form : Int} (hE : zfi l f) (hp : p < l.length) (hf : 4 * (l.length - p) + 1 ≤ f)
  (hf0 : form = 0) (h1 : isB l p [105, 102] = true) {i nx : Nat} (hi : i < nx) :
  RetX Tryz.prog 247 [.ptr i 0, zg3 form] [(i, pOb l p)] nx (PPost l i nx zhW (zbn l (f + 1) p form)) := by
 have hne := zaQ hi
 have hll := hl.len
 rw [zbn]
 have hp2 := za2 hl h1
 subst hf0
 have hf0 : (0 : Int) = 0 := rfl
 have hf3 : (0 : Int) ≤ 3 := by omega
 have hh1 := fun nx' (h : nx ≤ nx') => za7 l p [105, 102] i nx' (by omega) hp hl.len
 simp only [h1, if_true] at hh1
 rw [if_pos ⟨rfl, h1⟩]
 have ha := fun nx' (h : nx ≤ nx') => hE (p + 1) 0 i nx' (by omega) hp2 (by omega) (by omega) (by omega)
 cases hr0 : zdF l f (p + 1) 0 with
 | stop pos e =>
  simp only [hr0] at ha
  (refine RetX.of_bodyW Tryz.func247 rfl (by simp) fun Γ hn hpan => ?_); simp only [entry, List.zipIdx_cons, List.zipIdx_nil, List.map_cons, List.map_nil, Nat.zero_add, Tryz.ntmps247]
  repeat' (first
  | (refine zag ?_; simp [hne, hf0, hf3, del, Nat.add_assoc])
  | (refine zaj ?_; simp [hne, hf0, hf3, del, Nat.add_assoc])
  | (refine zah ?_; simp [hne, hf0, hf3, del, Nat.add_assoc])
  | (refine zai ?_; simp [hne, hf0, hf3, del, Nat.add_assoc])
  | (refine CallP.ok1 (hh1 _ (by first | omega | (simp; done) | (simp; omega) | fail)) (by first | (simp [hne, hf0, hf3, del, Nat.add_assoc, zaa, getK, zab, zac]; done) | fail) (by rfl) (by first | assumption | (simp; done) | fail) (by rfl) (by simp) ?_; (try simp [hne, hf0, hf3, del, Nat.add_assoc]))
  | (refine CallP.zed (ha _ (by first | omega | (simp; done) | (simp; omega) | fail)) (by first | (simp [hne, hf0, hf3, del, Nat.add_assoc, zaa, getK, zab, zac]; done) | fail) (by rfl) (by first | assumption | (simp; done) | fail) (by rfl) (by simp) ?_; rintro ob' ⟨q', rfl⟩; refine ⟨_, Wk.refl _, ?_⟩)
  | fail)
  (refine hpan _ _ ⟨{ n := _, env := [], obs := [(i, pOb l q')], next := nx }, (Wk.cut rfl (by simp [hn]) (by simp [wkO, zaa, getK, zab, zac, Ob.under, D.under, zad, zae, hi, hne, zab, zac, zaa, getK]) (by simp [wkU, zak, zaa, getK, D.under, hi, hne, zab, zac, zaa, getK]) (by simp [wkE, zak, zaa, getK, hi, hne, zab, zac, zaa, getK])), by simp [hn], ?_⟩; try simp)
  exact PPost.zaB (by simp [PR.bind, *])
 | ok v0 q0 =>
  have ha := fun nx' h => zcS (ha nx' h) hr0
  obtain ⟨g0a, g0b⟩ := (zb8 hl f).1 _ _ _ _ hr0 hp2
  have hw1 := fun nx' (h : nx ≤ nx') => zeh hl [116, 104, 101, 110] (q := q0) (i := i) (nx := nx') (by omega) g0b
  cases hr1 : zbA l q0 [[116, 104, 101, 110]] with
  | stop pos e =>
   simp only [hr1] at hw1
   (refine RetX.of_bodyW Tryz.func247 rfl (by simp) fun Γ hn hpan => ?_); simp only [entry, List.zipIdx_cons, List.zipIdx_nil, List.map_cons, List.map_nil, Nat.zero_add, Tryz.ntmps247]
   repeat' (first
  | (refine zag ?_; simp [hne, hf0, hf3, del, Nat.add_assoc])
  | (refine zaj ?_; simp [hne, hf0, hf3, del, Nat.add_assoc])
  | (refine zah ?_; simp [hne, hf0, hf3, del, Nat.add_assoc])
  | (refine zai ?_; simp [hne, hf0, hf3, del, Nat.add_assoc])
  | (refine CallP.ok1 (hh1 _ (by first | omega | (simp; done) | (simp; omega) | fail)) (by first | (simp [hne, hf0, hf3, del, Nat.add_assoc, zaa, getK, zab, zac]; done) | fail) (by rfl) (by first | assumption | (simp; done) | fail) (by rfl) (by simp) ?_; (try simp [hne, hf0, hf3, del, Nat.add_assoc]))
  | (refine CallP.ok1 (ha _ (by first | omega | (simp; done) | (simp; omega) | fail)) (by first | (simp [hne, hf0, hf3, del, Nat.add_assoc, zaa, getK, zab, zac]; done) | fail) (by rfl) (by first | assumption | (simp; done) | fail) (by rfl) (by simp) ?_; (try simp [hne, hf0, hf3, del, Nat.add_assoc]))
  | (refine CallP.zed (hw1 _ (by first | omega | (simp; done) | (simp; omega) | fail)) (by first | (simp [hne, hf0, hf3, del, Nat.add_assoc, zaa, getK, zab, zac]; done) | fail) (by rfl) (by first | assumption | (simp; done) | fail) (by rfl) (by simp) ?_; rintro ob' ⟨q', rfl⟩; refine ⟨_, Wk.refl _, ?_⟩)
  | (refine zaF (by first | rfl | fail) ?_; simp [hne, hf0, hf3, del, Nat.add_assoc, frzN, frz1, zaE, zaD, St.frz, St.frzS, frzS, fv, za3, za4, za9, zaH, zaz, zay, del, frz, zba])
  | fail)
   (refine hpan _ _ ⟨{ n := _, env := [], obs := [(i, pOb l q')], next := nx }, (Wk.cut rfl (by simp [hn]) (by simp [wkO, zaa, getK, zab, zac, Ob.under, D.under, zad, zae, hi, hne, zab, zac, zaa, getK]) (by simp [wkU, zak, zaa, getK, D.under, hi, hne, zab, zac, zaa, getK]) (by simp [wkE, zak, zaa, getK, hi, hne, zab, zac, zaa, getK])), by simp [hn], ?_⟩; try simp)
   exact PPost.zaB (by simp [PR.bind, *])
  | ok v1 q1 =>
   simp only [hr1] at hw1
   obtain ⟨g1a, g1b⟩ := zaV hl _ hr1 g0b
   have hb := fun nx' (h : nx ≤ nx') => hE q1 0 i nx' (by omega) g1b (by omega) (by omega) (by omega)
   cases hr2 : zdF l f q1 0 with
   | stop pos e =>
    simp only [hr2] at hb
    (refine RetX.of_bodyW Tryz.func247 rfl (by simp) fun Γ hn hpan => ?_); simp only [entry, List.zipIdx_cons, List.zipIdx_nil, List.map_cons, List.map_nil, Nat.zero_add, Tryz.ntmps247]
    repeat' (first
  | (refine zag ?_; simp [hne, hf0, hf3, del, Nat.add_assoc])
  | (refine zaj ?_; simp [hne, hf0, hf3, del, Nat.add_assoc])
  | (refine zah ?_; simp [hne, hf0, hf3, del, Nat.add_assoc])
  | (refine zai ?_; simp [hne, hf0, hf3, del, Nat.add_assoc])
  | (refine CallP.ok1 (hh1 _ (by first | omega | (simp; done) | (simp; omega) | fail)) (by first | (simp [hne, hf0, hf3, del, Nat.add_assoc, zaa, getK, zab, zac]; done) | fail) (by rfl) (by first | assumption | (simp; done) | fail) (by rfl) (by simp) ?_; (try simp [hne, hf0, hf3, del, Nat.add_assoc]))
  | (refine CallP.ok1 (ha _ (by first | omega | (simp; done) | (simp; omega) | fail)) (by first | (simp [hne, hf0, hf3, del, Nat.add_assoc, zaa, getK, zab, zac]; done) | fail) (by rfl) (by first | assumption | (simp; done) | fail) (by rfl) (by simp) ?_; (try simp [hne, hf0, hf3, del, Nat.add_assoc]))
  | (refine CallP.ok1 (hw1 _ (by first | omega | (simp; done) | (simp; omega) | fail)) (by first | (simp [hne, hf0, hf3, del, Nat.add_assoc, zaa, getK, zab, zac]; done) | fail) (by rfl) (by first | assumption | (simp; done) | fail) (by rfl) (by simp) ?_; (try simp [hne, hf0, hf3, del, Nat.add_assoc]))
  | (refine CallP.zed (hb _ (by first | omega | (simp; done) | (simp; omega) | fail)) (by first | (simp [hne, hf0, hf3, del, Nat.add_assoc, zaa, getK, zab, zac]; done) | fail) (by rfl) (by first | assumption | (simp; done) | fail) (by rfl) (by simp) ?_; rintro ob' ⟨q', rfl⟩; refine ⟨_, Wk.refl _, ?_⟩)
  | (refine zaF (by first | rfl | fail) ?_; simp [hne, hf0, hf3, del, Nat.add_assoc, frzN, frz1, zaE, zaD, St.frz, St.frzS, frzS, fv, za3, za4, za9, zaH, zaz, zay, del, frz, zba])
  | fail)
    (refine hpan _ _ ⟨{ n := _, env := [], obs := [(i, pOb l q')], next := nx }, (Wk.cut rfl (by simp [hn]) (by simp [wkO, zaa, getK, zab, zac, Ob.under, D.under, zad, zae, hi, hne, zab, zac, zaa, getK]) (by simp [wkU, zak, zaa, getK, D.under, hi, hne, zab, zac, zaa, getK]) (by simp [wkE, zak, zaa, getK, hi, hne, zab, zac, zaa, getK])), by simp [hn], ?_⟩; try simp)
    exact PPost.zaB (by simp [PR.bind, *])
   | ok v2 q2 =>
    have hb := fun nx' h => zcS (hb nx' h) hr2
    obtain ⟨g2a, g2b⟩ := (zb8 hl f).1 _ _ _ _ hr2 g1b
    have hw2 := fun nx' (h : nx ≤ nx') => zeh hl [101, 108, 115, 101] (q := q2) (i := i) (nx := nx') (by omega) g2b
    cases hr3 : zbA l q2 [[101, 108, 115, 101]] with
    | stop pos e =>
     simp only [hr3] at hw2
     (refine RetX.of_bodyW Tryz.func247 rfl (by simp) fun Γ hn hpan => ?_); simp only [entry, List.zipIdx_cons, List.zipIdx_nil, List.map_cons, List.map_nil, Nat.zero_add, Tryz.ntmps247]
     repeat' (first
  | (refine zag ?_; simp [hne, hf0, hf3, del, Nat.add_assoc])
  | (refine zaj ?_; simp [hne, hf0, hf3, del, Nat.add_assoc])
  | (refine zah ?_; simp [hne, hf0, hf3, del, Nat.add_assoc])
  | (refine zai ?_; simp [hne, hf0, hf3, del, Nat.add_assoc])
  | (refine CallP.ok1 (hh1 _ (by first | omega | (simp; done) | (simp; omega) | fail)) (by first | (simp [hne, hf0, hf3, del, Nat.add_assoc, zaa, getK, zab, zac]; done) | fail) (by rfl) (by first | assumption | (simp; done) | fail) (by rfl) (by simp) ?_; (try simp [hne, hf0, hf3, del, Nat.add_assoc]))
  | (refine CallP.ok1 (ha _ (by first | omega | (simp; done) | (simp; omega) | fail)) (by first | (simp [hne, hf0, hf3, del, Nat.add_assoc, zaa, getK, zab, zac]; done) | fail) (by rfl) (by first | assumption | (simp; done) | fail) (by rfl) (by simp) ?_; (try simp [hne, hf0, hf3, del, Nat.add_assoc]))
  | (refine CallP.ok1 (hw1 _ (by first | omega | (simp; done) | (simp; omega) | fail)) (by first | (simp [hne, hf0, hf3, del, Nat.add_assoc, zaa, getK, zab, zac]; done) | fail) (by rfl) (by first | assumption | (simp; done) | fail) (by rfl) (by simp) ?_; (try simp [hne, hf0, hf3, del, Nat.add_assoc]))
  | (refine CallP.ok1 (hb _ (by first | omega | (simp; done) | (simp; omega) | fail)) (by first | (simp [hne, hf0, hf3, del, Nat.add_assoc, zaa, getK, zab, zac]; done) | fail) (by rfl) (by first | assumption | (simp; done) | fail) (by rfl) (by simp) ?_; (try simp [hne, hf0, hf3, del, Nat.add_assoc]))
  | (refine CallP.zed (hw2 _ (by first | omega | (simp; done) | (simp; omega) | fail)) (by first | (simp [hne, hf0, hf3, del, Nat.add_assoc, zaa, getK, zab, zac]; done) | fail) (by rfl) (by first | assumption | (simp; done) | fail) (by rfl) (by simp) ?_; rintro ob' ⟨q', rfl⟩; refine ⟨_, Wk.refl _, ?_⟩)
  | (refine zaF (by first | rfl | fail) ?_; simp [hne, hf0, hf3, del, Nat.add_assoc, frzN, frz1, zaE, zaD, St.frz, St.frzS, frzS, fv, za3, za4, za9, zaH, zaz, zay, del, frz, zba])
  | fail)
     (refine hpan _ _ ⟨{ n := _, env := [], obs := [(i, pOb l q')], next := nx }, (Wk.cut rfl (by simp [hn]) (by simp [wkO, zaa, getK, zab, zac, Ob.under, D.under, zad, zae, hi, hne, zab, zac, zaa, getK]) (by simp [wkU, zak, zaa, getK, D.under, hi, hne, zab, zac, zaa, getK]) (by simp [wkE, zak, zaa, getK, hi, hne, zab, zac, zaa, getK])), by simp [hn], ?_⟩; try simp)
     exact PPost.zaB (by simp [PR.bind, *])
    | ok v3 q3 =>
     simp only [hr3] at hw2
     obtain ⟨g3a, g3b⟩ := zaV hl _ hr3 g2b
     have hc := fun nx' (h : nx ≤ nx') => hE q3 0 i nx' (by omega) g3b (by omega) (by omega) (by omega)
     cases hr4 : zdF l f q3 0 with
     | stop pos e =>
      simp only [hr4] at hc
      (refine RetX.of_bodyW Tryz.func247 rfl (by simp) fun Γ hn hpan => ?_); simp only [entry, List.zipIdx_cons, List.zipIdx_nil, List.map_cons, List.map_nil, Nat.zero_add, Tryz.ntmps247]
      repeat' (first
  | (refine zeK (fun nx' h' => hc nx' (by simp at h'; omega)) (by first | (simp [hne, hf0, hf3, del, Nat.add_assoc, zaa, getK, zab, zac, zax, zaP]; done) | fail) (by rfl) (by first | assumption | simp) (by rfl) (by simp) ?_ ?_; rintro env' ob' n' hn' ⟨q', rfl⟩; refine ⟨_, Wk.refl _, ?_⟩)
  | (refine zdX rfl (by simp) ?_; simp)
  | (refine zag ?_; simp [hne, hf0, hf3, del, Nat.add_assoc])
  | (refine zaN rfl ?_; simp [hne, hf0, hf3, del, Nat.add_assoc])
  | (refine zaj ?_; simp [hne, hf0, hf3, del, Nat.add_assoc])
  | (refine zah ?_; simp [hne, hf0, hf3, del, Nat.add_assoc])
  | (refine zai ?_; simp [hne, hf0, hf3, del, Nat.add_assoc])
  | (refine zeL (hC _ (zcI [i] nx (by simp <;> omega) (by simp <;> omega) (by apply Exists.intro; apply And.intro; (focus (repeat' (first | exact KF.nil | exact KL.nil | apply KF.cons | apply KL.cons 0 rfl | apply KL.cons 1 rfl | apply KL.cons 2 rfl | apply KL.cons 3 rfl | apply KL.cons 4 rfl | apply KL.cons 5 rfl | apply KL.cons 6 rfl | apply KL.cons 7 rfl | apply KL.cons 8 rfl | apply KL.cons 9 rfl))); kernel_rfl))) rfl; done)
  | (refine zaM rfl (by kernel_rfl) (by first | (simp [hn]; done) | (simp [hn]; omega) | fail) fun C k hC hk => ?_; simp [hne, hf0, hf3, del, Nat.add_assoc])
  | (refine CallP.ok1 (hh1 _ (by first | omega | (simp; done) | (simp; omega) | fail)) (by first | (simp [hne, hf0, hf3, del, Nat.add_assoc, zaa, getK, zab, zac]; done) | fail) (by rfl) (by first | assumption | (simp; done) | fail) (by rfl) (by simp) ?_; (try simp [hne, hf0, hf3, del, Nat.add_assoc]))
  | (refine CallP.ok1 (ha _ (by first | omega | (simp; done) | (simp; omega) | fail)) (by first | (simp [hne, hf0, hf3, del, Nat.add_assoc, zaa, getK, zab, zac]; done) | fail) (by rfl) (by first | assumption | (simp; done) | fail) (by rfl) (by simp) ?_; (try simp [hne, hf0, hf3, del, Nat.add_assoc]))
  | (refine CallP.ok1 (hw1 _ (by first | omega | (simp; done) | (simp; omega) | fail)) (by first | (simp [hne, hf0, hf3, del, Nat.add_assoc, zaa, getK, zab, zac]; done) | fail) (by rfl) (by first | assumption | (simp; done) | fail) (by rfl) (by simp) ?_; (try simp [hne, hf0, hf3, del, Nat.add_assoc]))
  | (refine CallP.ok1 (hb _ (by first | omega | (simp; done) | (simp; omega) | fail)) (by first | (simp [hne, hf0, hf3, del, Nat.add_assoc, zaa, getK, zab, zac]; done) | fail) (by rfl) (by first | assumption | (simp; done) | fail) (by rfl) (by simp) ?_; (try simp [hne, hf0, hf3, del, Nat.add_assoc]))
  | (refine CallP.ok1 (hw2 _ (by first | omega | (simp; done) | (simp; omega) | fail)) (by first | (simp [hne, hf0, hf3, del, Nat.add_assoc, zaa, getK, zab, zac]; done) | fail) (by rfl) (by first | assumption | (simp; done) | fail) (by rfl) (by simp) ?_; (try simp [hne, hf0, hf3, del, Nat.add_assoc]))
  | (refine zaF (by first | rfl | fail) ?_; simp [hne, hf0, hf3, del, Nat.add_assoc, frzN, frz1, zaE, zaD, St.frz, St.frzS, frzS, fv, za3, za4, za9, zaH, zaz, zay, del, frz, zba])
  | fail)
      (refine hpan _ _ ⟨{ n := _, env := [], obs := [(i, pOb l q')], next := nx }, (Wk.cut rfl (by simp [hn]) (by simp [wkO, zaa, getK, zab, zac, Ob.under, D.under, zad, zae, hi, hne, zab, zac, zaa, getK]) (by simp [wkU, zak, zaa, getK, D.under, hi, hne, zab, zac, zaa, getK]) (by simp [wkE, zak, zaa, getK, hi, hne, zab, zac, zaa, getK])), by simp [hn], ?_⟩; try simp)
      exact PPost.zaB (by simp [PR.bind, *])
     | ok v4 q4 =>
      have hc := fun nx' h => zcS (hc nx' h) hr4
      obtain ⟨g4a, g4b⟩ := (zb8 hl f).1 _ _ _ _ hr4 g3b
      (refine RetX.of_bodyW Tryz.func247 rfl (by simp) fun Γ hn hpan => ?_); simp only [entry, List.zipIdx_cons, List.zipIdx_nil, List.map_cons, List.map_nil, Nat.zero_add, Tryz.ntmps247]
      repeat' (first
  | (refine zf4 (fun nx' h' => hc nx' (by simp at h'; omega)) (by first | (simp [hne, hf0, hf3, del, Nat.add_assoc, zaa, getK, zab, zac, zax, zaP]; done) | fail) (by rfl) (by first | assumption | simp) (by rfl) (by simp [D.under, Ob.under]) (by simp) ?_; (try simp [hne, hf0, hf3, del, Nat.add_assoc]))
  | (refine zag ?_; simp [hne, hf0, hf3, del, Nat.add_assoc])
  | (refine zaN rfl ?_; simp [hne, hf0, hf3, del, Nat.add_assoc])
  | (refine zbu rfl ?_; simp [hne, hf0, hf3, del, Nat.add_assoc])
  | (refine zaj ?_; simp [hne, hf0, hf3, del, Nat.add_assoc])
  | (refine zah ?_; simp [hne, hf0, hf3, del, Nat.add_assoc])
  | (refine zai ?_; simp [hne, hf0, hf3, del, Nat.add_assoc])
  | (refine zaS (hC _ (zcI [i] nx (by simp <;> omega) (by simp <;> omega) (by apply Exists.intro; apply And.intro; (focus (repeat' (first | exact KF.nil | exact KL.nil | apply KF.cons | apply KL.cons 0 rfl | apply KL.cons 1 rfl | apply KL.cons 2 rfl | apply KL.cons 3 rfl | apply KL.cons 4 rfl | apply KL.cons 5 rfl | apply KL.cons 6 rfl | apply KL.cons 7 rfl | apply KL.cons 8 rfl | apply KL.cons 9 rfl))); kernel_rfl))) (hk _ ?_); clear hC hk C k; simp only [zan])
  | (refine zaM rfl (by kernel_rfl) (by first | (simp [hn]; done) | (simp [hn]; omega) | fail) fun C k hC hk => ?_; simp [hne, hf0, hf3, del, Nat.add_assoc])
  | (refine zas ?_; simp only [zan])
  | (refine CallP.ok1 (hh1 _ (by first | omega | (simp; done) | (simp; omega) | fail)) (by first | (simp [hne, hf0, hf3, del, Nat.add_assoc, zaa, getK, zab, zac]; done) | fail) (by rfl) (by first | assumption | (simp; done) | fail) (by rfl) (by simp) ?_; (try simp [hne, hf0, hf3, del, Nat.add_assoc]))
  | (refine CallP.ok1 (ha _ (by first | omega | (simp; done) | (simp; omega) | fail)) (by first | (simp [hne, hf0, hf3, del, Nat.add_assoc, zaa, getK, zab, zac]; done) | fail) (by rfl) (by first | assumption | (simp; done) | fail) (by rfl) (by simp) ?_; (try simp [hne, hf0, hf3, del, Nat.add_assoc]))
  | (refine CallP.ok1 (hw1 _ (by first | omega | (simp; done) | (simp; omega) | fail)) (by first | (simp [hne, hf0, hf3, del, Nat.add_assoc, zaa, getK, zab, zac]; done) | fail) (by rfl) (by first | assumption | (simp; done) | fail) (by rfl) (by simp) ?_; (try simp [hne, hf0, hf3, del, Nat.add_assoc]))
  | (refine CallP.ok1 (hb _ (by first | omega | (simp; done) | (simp; omega) | fail)) (by first | (simp [hne, hf0, hf3, del, Nat.add_assoc, zaa, getK, zab, zac]; done) | fail) (by rfl) (by first | assumption | (simp; done) | fail) (by rfl) (by simp) ?_; (try simp [hne, hf0, hf3, del, Nat.add_assoc]))
  | (refine CallP.ok1 (hw2 _ (by first | omega | (simp; done) | (simp; omega) | fail)) (by first | (simp [hne, hf0, hf3, del, Nat.add_assoc, zaa, getK, zab, zac]; done) | fail) (by rfl) (by first | assumption | (simp; done) | fail) (by rfl) (by simp) ?_; (try simp [hne, hf0, hf3, del, Nat.add_assoc]))
  | (refine zaF (by first | rfl | fail) ?_; simp [hne, hf0, hf3, del, Nat.add_assoc, frzN, frz1, zaE, zaD, St.frz, St.frzS, frzS, fv, za3, za4, za9, zaH, zaz, zay, del, frz, zba])
  | fail)
      (refine EndW.frzN 1 ?_; simp [frzN, frz1, zaE, zaD, St.frz, St.frzS, frzS, fv, za3, za4, za9, zaH, zaz, zay, del, frz, zba, hne, Nat.add_assoc])
      refine EndW.norm ?_
      simp [St.norm, za1, zbz, zbL, zbM, hne, Nat.add_assoc]
      (refine EndW.here ?_; (first | (refine EndOK.fin (.inr rfl) ?_) | (refine EndOK.fin (.inl rfl) ?_)); simp [zaC, zaf, Tryz.results247, hne, hi]; refine FinOK.cut [(i, pOb l q4)] (nx) (by simp [zaa, getK, zab, zac, Ob.under, D.under, zad, zae, hne, hi] <;> omega) (by simp [D.under]) (by simp [hn]) ?_; try simp)
      exact PPost.zb2 (by simp [PR.bind, *]; rfl) (by simp [Exp.row_eq, Exp.op, Exp.n, Exp.unit, Exp.s, Exp.args]) rfl
theorem ziY {l : List Tok} (hl : TokOK l) {f p : Nat} {form : Int} (hE : zfi l f) (hp : p < l.length) (hf : 4 * (l.length - p) + 1 ≤ f)
  (hf0 : form = 0) (hf3 : form ≤ 3) (h1 : isB l p [105, 102] = false) (h2 : isB l p [110, 111, 116] = true) {i nx : Nat} (hi : i < nx) :
  RetX Tryz.prog 247 [.ptr i 0, zg3 form] [(i, pOb l p)] nx (PPost l i nx zhW (zbn l (f + 1) p form)) := by
 have hne := zaQ hi
 have hll := hl.len
 rw [zbn]
 have hh1 := fun nx' (h : nx ≤ nx') => za7 l p [105, 102] i nx' (by omega) hp hl.len
 rw [h1] at hh1
 simp only [if_true, Bool.false_eq_true, if_false] at hh1
 have hp2 := za2 hl h2
 have hh2 := fun nx' (h : nx ≤ nx') => za7 l p [110, 111, 116] i nx' (by omega) hp hl.len
 rw [h2] at hh2
 simp only [if_true, Bool.false_eq_true, if_false] at hh2
 rw [if_neg (by simp [*]), if_pos ⟨hf3, h2⟩]
 have ha := fun nx' (h : nx ≤ nx') => hE (p + 1) 3 i nx' (by omega) hp2 (by omega) (by omega) (by omega)
 cases hr0 : zdF l f (p + 1) 3 with
 | stop pos e =>
  simp only [hr0] at ha
  (refine RetX.of_bodyW Tryz.func247 rfl (by simp) fun Γ hn hpan => ?_); simp only [entry, List.zipIdx_cons, List.zipIdx_nil, List.map_cons, List.map_nil, Nat.zero_add, Tryz.ntmps247]
  repeat' (first
  | (refine zag ?_; simp [hne, hf0, hf3, del, Nat.add_assoc])
  | (refine zaj ?_; simp [hne, hf0, hf3, del, Nat.add_assoc])
  | (refine zah ?_; simp [hne, hf0, hf3, del, Nat.add_assoc])
  | (refine zai ?_; simp [hne, hf0, hf3, del, Nat.add_assoc])
  | (refine zaq ?_; simp only [zan])
  | (refine CallP.ok1 (hh1 _ (by first | omega | (simp; done) | (simp; omega) | fail)) (by first | (simp [hne, hf0, hf3, del, Nat.add_assoc, zaa, getK, zab, zac]; done) | fail) (by rfl) (by first | assumption | (simp; done) | fail) (by rfl) (by simp) ?_; (try simp [hne, hf0, hf3, del, Nat.add_assoc]))
  | (refine CallP.ok1 (hh2 _ (by first | omega | (simp; done) | (simp; omega) | fail)) (by first | (simp [hne, hf0, hf3, del, Nat.add_assoc, zaa, getK, zab, zac]; done) | fail) (by rfl) (by first | assumption | (simp; done) | fail) (by rfl) (by simp) ?_; (try simp [hne, hf0, hf3, del, Nat.add_assoc]))
  | (refine CallP.zed (ha _ (by first | omega | (simp; done) | (simp; omega) | fail)) (by first | (simp [hne, hf0, hf3, del, Nat.add_assoc, zaa, getK, zab, zac]; done) | fail) (by rfl) (by first | assumption | (simp; done) | fail) (by rfl) (by simp) ?_; rintro ob' ⟨q', rfl⟩; refine ⟨_, Wk.refl _, ?_⟩)
  | fail)
  (refine hpan _ _ ⟨{ n := _, env := [], obs := [(i, pOb l q')], next := nx }, (Wk.cut rfl (by simp [hn]) (by simp [wkO, zaa, getK, zab, zac, Ob.under, D.under, zad, zae, hi, hne, zab, zac, zaa, getK]) (by simp [wkU, zak, zaa, getK, D.under, hi, hne, zab, zac, zaa, getK]) (by simp [wkE, zak, zaa, getK, hi, hne, zab, zac, zaa, getK])), by simp [hn], ?_⟩; try simp)
  exact PPost.zaB (by simp [PR.bind, *])
 | ok v0 q0 =>
  have ha := fun nx' h => zcS (ha nx' h) hr0
  (refine RetX.of_bodyW Tryz.func247 rfl (by simp) fun Γ hn hpan => ?_); simp only [entry, List.zipIdx_cons, List.zipIdx_nil, List.map_cons, List.map_nil, Nat.zero_add, Tryz.ntmps247]
  repeat' (first
  | (refine zag ?_; simp [hne, hf0, hf3, del, Nat.add_assoc])
  | (refine zaj ?_; simp [hne, hf0, hf3, del, Nat.add_assoc])
  | (refine zah ?_; simp [hne, hf0, hf3, del, Nat.add_assoc])
  | (refine zai ?_; simp [hne, hf0, hf3, del, Nat.add_assoc])
  | (refine zas ?_; simp only [zan])
  | (refine zaq ?_; simp only [zan])
  | (refine CallP.ok1 (hh1 _ (by first | omega | (simp; done) | (simp; omega) | fail)) (by first | (simp [hne, hf0, hf3, del, Nat.add_assoc, zaa, getK, zab, zac]; done) | fail) (by rfl) (by first | assumption | (simp; done) | fail) (by rfl) (by simp) ?_; (try simp [hne, hf0, hf3, del, Nat.add_assoc]))
  | (refine CallP.ok1 (hh2 _ (by first | omega | (simp; done) | (simp; omega) | fail)) (by first | (simp [hne, hf0, hf3, del, Nat.add_assoc, zaa, getK, zab, zac]; done) | fail) (by rfl) (by first | assumption | (simp; done) | fail) (by rfl) (by simp) ?_; (try simp [hne, hf0, hf3, del, Nat.add_assoc]))
  | (refine CallP.ok1 (ha _ (by first | omega | (simp; done) | (simp; omega) | fail)) (by first | (simp [hne, hf0, hf3, del, Nat.add_assoc, zaa, getK, zab, zac]; done) | fail) (by rfl) (by first | assumption | (simp; done) | fail) (by rfl) (by simp) ?_; (try simp [hne, hf0, hf3, del, Nat.add_assoc]))
  | fail)
  (refine EndW.frzN 1 ?_; simp [frzN, frz1, zaE, zaD, St.frz, St.frzS, frzS, fv, za3, za4, za9, zaH, zaz, zay, del, frz, zba, hne, Nat.add_assoc])
  refine EndW.norm ?_
  simp [St.norm, za1, zbz, zbL, zbM, hne, Nat.add_assoc]
  (refine EndW.here ?_; (first | (refine EndOK.fin (.inr rfl) ?_) | (refine EndOK.fin (.inl rfl) ?_)); simp [zaC, zaf, Tryz.results247, hne, hi]; refine FinOK.cut [(i, pOb l q0)] (nx) (by simp [zaa, getK, zab, zac, Ob.under, D.under, zad, zae, hne, hi] <;> omega) (by simp [D.under]) (by simp [hn]) ?_; try simp)
  exact PPost.zb2 (by simp [PR.bind, *]; rfl) (by simp [Exp.row_eq, Exp.op, Exp.n, Exp.unit, Exp.s, Exp.args]) rfl
theorem ziX {l : List Tok} (hl : TokOK l) {f p : Nat} {form : Int} (hE : zfi l f) (hp : p < l.length) (hf : 4 * (l.length - p) + 1 ≤ f)
  (hf0 : ¬ form = 0) (hf3 : form ≤ 3) (h2 : isB l p [110, 111, 116] = true) {i nx : Nat} (hi : i < nx) :
  RetX Tryz.prog 247 [.ptr i 0, zg3 form] [(i, pOb l p)] nx (PPost l i nx zhW (zbn l (f + 1) p form)) := by
 have hne := zaQ hi
 have hll := hl.len
 rw [zbn]
 have hp2 := za2 hl h2
 have hh2 := fun nx' (h : nx ≤ nx') => za7 l p [110, 111, 116] i nx' (by omega) hp hl.len
 rw [h2] at hh2
 simp only [if_true, Bool.false_eq_true, if_false] at hh2
 rw [if_neg (by simp [*]), if_pos ⟨hf3, h2⟩]
 have ha := fun nx' (h : nx ≤ nx') => hE (p + 1) 3 i nx' (by omega) hp2 (by omega) (by omega) (by omega)
 cases hr0 : zdF l f (p + 1) 3 with
 | stop pos e =>
  simp only [hr0] at ha
  (refine RetX.of_bodyW Tryz.func247 rfl (by simp) fun Γ hn hpan => ?_); simp only [entry, List.zipIdx_cons, List.zipIdx_nil, List.map_cons, List.map_nil, Nat.zero_add, Tryz.ntmps247]
  repeat' (first
  | (refine zag ?_; simp [hne, hf0, hf3, del, Nat.add_assoc])
  | (refine zaj ?_; simp [hne, hf0, hf3, del, Nat.add_assoc])
  | (refine zah ?_; simp [hne, hf0, hf3, del, Nat.add_assoc])
  | (refine zai ?_; simp [hne, hf0, hf3, del, Nat.add_assoc])
  | (refine zaq ?_; simp only [zan])
  | (refine CallP.ok1 (hh2 _ (by first | omega | (simp; done) | (simp; omega) | fail)) (by first | (simp [hne, hf0, hf3, del, Nat.add_assoc, zaa, getK, zab, zac]; done) | fail) (by rfl) (by first | assumption | (simp; done) | fail) (by rfl) (by simp) ?_; (try simp [hne, hf0, hf3, del, Nat.add_assoc]))
  | (refine CallP.zed (ha _ (by first | omega | (simp; done) | (simp; omega) | fail)) (by first | (simp [hne, hf0, hf3, del, Nat.add_assoc, zaa, getK, zab, zac]; done) | fail) (by rfl) (by first | assumption | (simp; done) | fail) (by rfl) (by simp) ?_; rintro ob' ⟨q', rfl⟩; refine ⟨_, Wk.refl _, ?_⟩)
  | fail)
  (refine hpan _ _ ⟨{ n := _, env := [], obs := [(i, pOb l q')], next := nx }, (Wk.cut rfl (by simp [hn]) (by simp [wkO, zaa, getK, zab, zac, Ob.under, D.under, zad, zae, hi, hne, zab, zac, zaa, getK]) (by simp [wkU, zak, zaa, getK, D.under, hi, hne, zab, zac, zaa, getK]) (by simp [wkE, zak, zaa, getK, hi, hne, zab, zac, zaa, getK])), by simp [hn], ?_⟩; try simp)
  exact PPost.zaB (by simp [PR.bind, *])
 | ok v0 q0 =>
  have ha := fun nx' h => zcS (ha nx' h) hr0
  (refine RetX.of_bodyW Tryz.func247 rfl (by simp) fun Γ hn hpan => ?_); simp only [entry, List.zipIdx_cons, List.zipIdx_nil, List.map_cons, List.map_nil, Nat.zero_add, Tryz.ntmps247]
  repeat' (first
  | (refine zag ?_; simp [hne, hf0, hf3, del, Nat.add_assoc])
  | (refine zaj ?_; simp [hne, hf0, hf3, del, Nat.add_assoc])
  | (refine zah ?_; simp [hne, hf0, hf3, del, Nat.add_assoc])
  | (refine zai ?_; simp [hne, hf0, hf3, del, Nat.add_assoc])
  | (refine zas ?_; simp only [zan])
  | (refine zaq ?_; simp only [zan])
  | (refine CallP.ok1 (hh2 _ (by first | omega | (simp; done) | (simp; omega) | fail)) (by first | (simp [hne, hf0, hf3, del, Nat.add_assoc, zaa, getK, zab, zac]; done) | fail) (by rfl) (by first | assumption | (simp; done) | fail) (by rfl) (by simp) ?_; (try simp [hne, hf0, hf3, del, Nat.add_assoc]))
  | (refine CallP.ok1 (ha _ (by first | omega | (simp; done) | (simp; omega) | fail)) (by first | (simp [hne, hf0, hf3, del, Nat.add_assoc, zaa, getK, zab, zac]; done) | fail) (by rfl) (by first | assumption | (simp; done) | fail) (by rfl) (by simp) ?_; (try simp [hne, hf0, hf3, del, Nat.add_assoc]))
  | fail)
  (refine EndW.frzN 1 ?_; simp [frzN, frz1, zaE, zaD, St.frz, St.frzS, frzS, fv, za3, za4, za9, zaH, zaz, zay, del, frz, zba, hne, Nat.add_assoc])
  refine EndW.norm ?_
  simp [St.norm, za1, zbz, zbL, zbM, hne, Nat.add_assoc]
  (refine EndW.here ?_; (first | (refine EndOK.fin (.inr rfl) ?_) | (refine EndOK.fin (.inl rfl) ?_)); simp [zaC, zaf, Tryz.results247, hne, hi]; refine FinOK.cut [(i, pOb l q0)] (nx) (by simp [zaa, getK, zab, zac, Ob.under, D.under, zad, zae, hne, hi] <;> omega) (by simp [D.under]) (by simp [hn]) ?_; try simp)
  exact PPost.zb2 (by simp [PR.bind, *]; rfl) (by simp [Exp.row_eq, Exp.op, Exp.n, Exp.unit, Exp.s, Exp.args]) rfl
theorem zhR {l : List Tok} (hl : TokOK l) {f p : Nat} {form : Int} (hP : zgH l f) (hp : p < l.length) (hf : 4 * (l.length - p) + 1 ≤ f)
  (hf0 : form = 0) (hf3 : form ≤ 3) (h1 : isB l p [105, 102] = false) (h2 : isB l p [110, 111, 116] = false) {i nx : Nat} (hi : i < nx) :
  RetX Tryz.prog 247 [.ptr i 0, zg3 form] [(i, pOb l p)] nx (PPost l i nx zhW (zbn l (f + 1) p form)) := by
 have hne := zaQ hi
 have hll := hl.len
 rw [zbn]
 have hh1 := fun nx' (h : nx ≤ nx') => za7 l p [105, 102] i nx' (by omega) hp hl.len
 rw [h1] at hh1
 simp only [if_true, Bool.false_eq_true, if_false] at hh1
 have hh2 := fun nx' (h : nx ≤ nx') => za7 l p [110, 111, 116] i nx' (by omega) hp hl.len
 rw [h2] at hh2
 simp only [if_true, Bool.false_eq_true, if_false] at hh2
 rw [if_neg (by simp [*]), if_neg (by simp [*])]
 have ha := fun nx' (h : nx ≤ nx') => hP p i nx' (by omega) hp (by omega)
 cases hr0 : zaW l f p with
 | stop pos e =>
  simp only [hr0] at ha
  (refine RetX.of_bodyW Tryz.func247 rfl (by simp) fun Γ hn hpan => ?_); simp only [entry, List.zipIdx_cons, List.zipIdx_nil, List.map_cons, List.map_nil, Nat.zero_add, Tryz.ntmps247]
  repeat' (first
  | (refine zag ?_; simp [hne, hf0, hf3, del, Nat.add_assoc])
  | (refine zaj ?_; simp [hne, hf0, hf3, del, Nat.add_assoc])
  | (refine zah ?_; simp [hne, hf0, hf3, del, Nat.add_assoc])
  | (refine zai ?_; simp [hne, hf0, hf3, del, Nat.add_assoc])
  | (refine zaq ?_; simp only [zan])
  | (refine CallP.ok1 (hh1 _ (by first | omega | (simp; done) | (simp; omega) | fail)) (by first | (simp [hne, hf0, hf3, del, Nat.add_assoc, zaa, getK, zab, zac]; done) | fail) (by rfl) (by first | assumption | (simp; done) | fail) (by rfl) (by simp) ?_; (try simp [hne, hf0, hf3, del, Nat.add_assoc]))
  | (refine CallP.ok1 (hh2 _ (by first | omega | (simp; done) | (simp; omega) | fail)) (by first | (simp [hne, hf0, hf3, del, Nat.add_assoc, zaa, getK, zab, zac]; done) | fail) (by rfl) (by first | assumption | (simp; done) | fail) (by rfl) (by simp) ?_; (try simp [hne, hf0, hf3, del, Nat.add_assoc]))
  | (refine CallP.zed (ha _ (by first | omega | (simp; done) | (simp; omega) | fail)) (by first | (simp [hne, hf0, hf3, del, Nat.add_assoc, zaa, getK, zab, zac]; done) | fail) (by rfl) (by first | assumption | (simp; done) | fail) (by rfl) (by simp) ?_; rintro ob' ⟨q', rfl⟩; refine ⟨_, Wk.refl _, ?_⟩)
  | fail)
  (refine hpan _ _ ⟨{ n := _, env := [], obs := [(i, pOb l q')], next := nx }, (Wk.cut rfl (by simp [hn]) (by simp [wkO, zaa, getK, zab, zac, Ob.under, D.under, zad, zae, hi, hne, zab, zac, zaa, getK]) (by simp [wkU, zak, zaa, getK, D.under, hi, hne, zab, zac, zaa, getK]) (by simp [wkE, zak, zaa, getK, hi, hne, zab, zac, zaa, getK])), by simp [hn], ?_⟩; try simp)
  exact PPost.zaB (by simp [PR.bind, *])
 | ok v0 q0 =>
  have ha := fun nx' h => zcS (ha nx' h) hr0
  (refine RetX.of_bodyW Tryz.func247 rfl (by simp) fun Γ hn hpan => ?_); simp only [entry, List.zipIdx_cons, List.zipIdx_nil, List.map_cons, List.map_nil, Nat.zero_add, Tryz.ntmps247]
  repeat' (first
  | (refine zag ?_; simp [hne, hf0, hf3, del, Nat.add_assoc])
  | (refine zaj ?_; simp [hne, hf0, hf3, del, Nat.add_assoc])
  | (refine zah ?_; simp [hne, hf0, hf3, del, Nat.add_assoc])
  | (refine zai ?_; simp [hne, hf0, hf3, del, Nat.add_assoc])
  | (refine zas ?_; simp only [zan])
  | (refine zaq ?_; simp only [zan])
  | (refine CallP.ok1 (hh1 _ (by first | omega | (simp; done) | (simp; omega) | fail)) (by first | (simp [hne, hf0, hf3, del, Nat.add_assoc, zaa, getK, zab, zac]; done) | fail) (by rfl) (by first | assumption | (simp; done) | fail) (by rfl) (by simp) ?_; (try simp [hne, hf0, hf3, del, Nat.add_assoc]))
  | (refine CallP.ok1 (hh2 _ (by first | omega | (simp; done) | (simp; omega) | fail)) (by first | (simp [hne, hf0, hf3, del, Nat.add_assoc, zaa, getK, zab, zac]; done) | fail) (by rfl) (by first | assumption | (simp; done) | fail) (by rfl) (by simp) ?_; (try simp [hne, hf0, hf3, del, Nat.add_assoc]))
  | (refine CallP.ok1 (ha _ (by first | omega | (simp; done) | (simp; omega) | fail)) (by first | (simp [hne, hf0, hf3, del, Nat.add_assoc, zaa, getK, zab, zac]; done) | fail) (by rfl) (by first | assumption | (simp; done) | fail) (by rfl) (by simp) ?_; (try simp [hne, hf0, hf3, del, Nat.add_assoc]))
  | fail)
  refine EndW.norm ?_
  simp [St.norm, za1, zbz, zbL, zbM, hne, Nat.add_assoc]
  (refine EndW.here ?_; (first | (refine EndOK.fin (.inr rfl) ?_) | (refine EndOK.fin (.inl rfl) ?_)); simp [zaC, zaf, Tryz.results247, hne, hi]; refine FinOK.cut [(i, pOb l q0)] (nx) (by simp [zaa, getK, zab, zac, Ob.under, D.under, zad, zae, hne, hi] <;> omega) (by simp [D.under]) (by simp [hn]) ?_; try simp)
  exact PPost.zb2 (by simp [PR.bind, *]; rfl) (by simp [Exp.row_eq, Exp.op, Exp.n, Exp.unit, Exp.s, Exp.args]) rfl
theorem zhQ {l : List Tok} (hl : TokOK l) {f p : Nat} {form : Int} (hP : zgH l f) (hp : p < l.length) (hf : 4 * (l.length - p) + 1 ≤ f)
  (hf0 : ¬ form = 0) (hf3 : form ≤ 3) (h2 : isB l p [110, 111, 116] = false) {i nx : Nat} (hi : i < nx) :
  RetX Tryz.prog 247 [.ptr i 0, zg3 form] [(i, pOb l p)] nx (PPost l i nx zhW (zbn l (f + 1) p form)) := by
 have hne := zaQ hi
 have hll := hl.len
 rw [zbn]
 have hh2 := fun nx' (h : nx ≤ nx') => za7 l p [110, 111, 116] i nx' (by omega) hp hl.len
 rw [h2] at hh2
 simp only [if_true, Bool.false_eq_true, if_false] at hh2
 rw [if_neg (by simp [*]), if_neg (by simp [*])]
 have ha := fun nx' (h : nx ≤ nx') => hP p i nx' (by omega) hp (by omega)
 cases hr0 : zaW l f p with
 | stop pos e =>
  simp only [hr0] at ha
  (refine RetX.of_bodyW Tryz.func247 rfl (by simp) fun Γ hn hpan => ?_); simp only [entry, List.zipIdx_cons, List.zipIdx_nil, List.map_cons, List.map_nil, Nat.zero_add, Tryz.ntmps247]
  repeat' (first
  | (refine zag ?_; simp [hne, hf0, hf3, del, Nat.add_assoc])
  | (refine zaj ?_; simp [hne, hf0, hf3, del, Nat.add_assoc])
  | (refine zah ?_; simp [hne, hf0, hf3, del, Nat.add_assoc])
  | (refine zai ?_; simp [hne, hf0, hf3, del, Nat.add_assoc])
  | (refine zaq ?_; simp only [zan])
  | (refine CallP.ok1 (hh2 _ (by first | omega | (simp; done) | (simp; omega) | fail)) (by first | (simp [hne, hf0, hf3, del, Nat.add_assoc, zaa, getK, zab, zac]; done) | fail) (by rfl) (by first | assumption | (simp; done) | fail) (by rfl) (by simp) ?_; (try simp [hne, hf0, hf3, del, Nat.add_assoc]))
  | (refine CallP.zed (ha _ (by first | omega | (simp; done) | (simp; omega) | fail)) (by first | (simp [hne, hf0, hf3, del, Nat.add_assoc, zaa, getK, zab, zac]; done) | fail) (by rfl) (by first | assumption | (simp; done) | fail) (by rfl) (by simp) ?_; rintro ob' ⟨q', rfl⟩; refine ⟨_, Wk.refl _, ?_⟩)
  | fail)
  (refine hpan _ _ ⟨{ n := _, env := [], obs := [(i, pOb l q')], next := nx }, (Wk.cut rfl (by simp [hn]) (by simp [wkO, zaa, getK, zab, zac, Ob.under, D.under, zad, zae, hi, hne, zab, zac, zaa, getK]) (by simp [wkU, zak, zaa, getK, D.under, hi, hne, zab, zac, zaa, getK]) (by simp [wkE, zak, zaa, getK, hi, hne, zab, zac, zaa, getK])), by simp [hn], ?_⟩; try simp)
  exact PPost.zaB (by simp [PR.bind, *])
 | ok v0 q0 =>
  have ha := fun nx' h => zcS (ha nx' h) hr0
  (refine RetX.of_bodyW Tryz.func247 rfl (by simp) fun Γ hn hpan => ?_); simp only [entry, List.zipIdx_cons, List.zipIdx_nil, List.map_cons, List.map_nil, Nat.zero_add, Tryz.ntmps247]
  repeat' (first
  | (refine zag ?_; simp [hne, hf0, hf3, del, Nat.add_assoc])
  | (refine zaj ?_; simp [hne, hf0, hf3, del, Nat.add_assoc])
  | (refine zah ?_; simp [hne, hf0, hf3, del, Nat.add_assoc])
  | (refine zai ?_; simp [hne, hf0, hf3, del, Nat.add_assoc])
  | (refine zas ?_; simp only [zan])
  | (refine zaq ?_; simp only [zan])
  | (refine CallP.ok1 (hh2 _ (by first | omega | (simp; done) | (simp; omega) | fail)) (by first | (simp [hne, hf0, hf3, del, Nat.add_assoc, zaa, getK, zab, zac]; done) | fail) (by rfl) (by first | assumption | (simp; done) | fail) (by rfl) (by simp) ?_; (try simp [hne, hf0, hf3, del, Nat.add_assoc]))
  | (refine CallP.ok1 (ha _ (by first | omega | (simp; done) | (simp; omega) | fail)) (by first | (simp [hne, hf0, hf3, del, Nat.add_assoc, zaa, getK, zab, zac]; done) | fail) (by rfl) (by first | assumption | (simp; done) | fail) (by rfl) (by simp) ?_; (try simp [hne, hf0, hf3, del, Nat.add_assoc]))
  | fail)
  refine EndW.norm ?_
  simp [St.norm, za1, zbz, zbL, zbM, hne, Nat.add_assoc]
  (refine EndW.here ?_; (first | (refine EndOK.fin (.inr rfl) ?_) | (refine EndOK.fin (.inl rfl) ?_)); simp [zaC, zaf, Tryz.results247, hne, hi]; refine FinOK.cut [(i, pOb l q0)] (nx) (by simp [zaa, getK, zab, zac, Ob.under, D.under, zad, zae, hne, hi] <;> omega) (by simp [D.under]) (by simp [hn]) ?_; try simp)
  exact PPost.zb2 (by simp [PR.bind, *]; rfl) (by simp [Exp.row_eq, Exp.op, Exp.n, Exp.unit, Exp.s, Exp.args]) rfl
theorem zhP {l : List Tok} (hl : TokOK l) {f p : Nat} {form : Int} (hP : zgH l f) (hp : p < l.length) (hf : 4 * (l.length - p) + 1 ≤ f)
  (hf0 : ¬ form = 0) (hf3 : ¬ form ≤ 3) {i nx : Nat} (hi : i < nx) :
  RetX Tryz.prog 247 [.ptr i 0, zg3 form] [(i, pOb l p)] nx (PPost l i nx zhW (zbn l (f + 1) p form)) := by
 have hne := zaQ hi
 have hll := hl.len
 rw [zbn]
 rw [if_neg (by simp [*]), if_neg (by simp [*])]
 have ha := fun nx' (h : nx ≤ nx') => hP p i nx' (by omega) hp (by omega)
 cases hr0 : zaW l f p with
 | stop pos e =>
  simp only [hr0] at ha
  (refine RetX.of_bodyW Tryz.func247 rfl (by simp) fun Γ hn hpan => ?_); simp only [entry, List.zipIdx_cons, List.zipIdx_nil, List.map_cons, List.map_nil, Nat.zero_add, Tryz.ntmps247]
  repeat' (first
  | (refine zag ?_; simp [hne, hf0, hf3, del, Nat.add_assoc])
  | (refine zaj ?_; simp [hne, hf0, hf3, del, Nat.add_assoc])
  | (refine zah ?_; simp [hne, hf0, hf3, del, Nat.add_assoc])
  | (refine zai ?_; simp [hne, hf0, hf3, del, Nat.add_assoc])
  | (refine zaq ?_; simp only [zan])
  | (refine CallP.zed (ha _ (by first | omega | (simp; done) | (simp; omega) | fail)) (by first | (simp [hne, hf0, hf3, del, Nat.add_assoc, zaa, getK, zab, zac]; done) | fail) (by rfl) (by first | assumption | (simp; done) | fail) (by rfl) (by simp) ?_; rintro ob' ⟨q', rfl⟩; refine ⟨_, Wk.refl _, ?_⟩)
  | fail)
  (refine hpan _ _ ⟨{ n := _, env := [], obs := [(i, pOb l q')], next := nx }, (Wk.cut rfl (by simp [hn]) (by simp [wkO, zaa, getK, zab, zac, Ob.under, D.under, zad, zae, hi, hne, zab, zac, zaa, getK]) (by simp [wkU, zak, zaa, getK, D.under, hi, hne, zab, zac, zaa, getK]) (by simp [wkE, zak, zaa, getK, hi, hne, zab, zac, zaa, getK])), by simp [hn], ?_⟩; try simp)
  exact PPost.zaB (by simp [PR.bind, *])
 | ok v0 q0 =>
  have ha := fun nx' h => zcS (ha nx' h) hr0
  (refine RetX.of_bodyW Tryz.func247 rfl (by simp) fun Γ hn hpan => ?_); simp only [entry, List.zipIdx_cons, List.zipIdx_nil, List.map_cons, List.map_nil, Nat.zero_add, Tryz.ntmps247]
  repeat' (first
  | (refine zag ?_; simp [hne, hf0, hf3, del, Nat.add_assoc])
  | (refine zaj ?_; simp [hne, hf0, hf3, del, Nat.add_assoc])
  | (refine zah ?_; simp [hne, hf0, hf3, del, Nat.add_assoc])
  | (refine zai ?_; simp [hne, hf0, hf3, del, Nat.add_assoc])
  | (refine zas ?_; simp only [zan])
  | (refine zaq ?_; simp only [zan])
  | (refine CallP.ok1 (ha _ (by first | omega | (simp; done) | (simp; omega) | fail)) (by first | (simp [hne, hf0, hf3, del, Nat.add_assoc, zaa, getK, zab, zac]; done) | fail) (by rfl) (by first | assumption | (simp; done) | fail) (by rfl) (by simp) ?_; (try simp [hne, hf0, hf3, del, Nat.add_assoc]))
  | fail)
  refine EndW.norm ?_
  simp [St.norm, za1, zbz, zbL, zbM, hne, Nat.add_assoc]
  (refine EndW.here ?_; (first | (refine EndOK.fin (.inr rfl) ?_) | (refine EndOK.fin (.inl rfl) ?_)); simp [zaC, zaf, Tryz.results247, hne, hi]; refine FinOK.cut [(i, pOb l q0)] (nx) (by simp [zaa, getK, zab, zac, Ob.under, D.under, zad, zae, hne, hi] <;> omega) (by simp [D.under]) (by simp [hn]) ?_; try simp)
  exact PPost.zb2 (by simp [PR.bind, *]; rfl) (by simp [Exp.row_eq, Exp.op, Exp.n, Exp.unit, Exp.s, Exp.args]) rfl
theorem ziW {l : List Tok} (hl : TokOK l) {f : Nat} (hE : zfi l f) (hP : zgH l f) : zoz l (f + 1) := by
 intro p form i nx hi hp hf hm0 hm7
 have hf' : 4 * (l.length - p) + 1 ≤ f := by omega
 by_cases hf0 : form = 0
 ·have hf3 : form ≤ 3 := by omega
  cases h1 : isB l p [105, 102] with
  | true => exact zle hl hE hp hf' hf0 h1 hi
  | false =>
   cases h2 : isB l p [110, 111, 116] with
   | true => exact ziY hl hE hp hf' hf0 hf3 h1 h2 hi
   | false => exact zhR hl hP hp hf' hf0 hf3 h1 h2 hi
 ·by_cases hf3 : form ≤ 3
  ·cases h2 : isB l p [110, 111, 116] with
   | true => exact ziX hl hE hp hf' hf0 hf3 h2 hi
   | false => exact zhQ hl hP hp hf' hf0 hf3 h2 hi
  ·exact zhP hl hP hp hf' hf0 hf3 hi
theorem zoV {l : List Tok} {F : FuncId} {r : PR (Exp × Int)} {e : Exp × Int} {q i nx : Nat} {ds : List D} {obs : List (Nat × Ob)} (h : RetX Tryz.prog F ds obs nx (PPost l i nx zhW r)) (hr : r = .ok e q) :
  RetX Tryz.prog F ds obs nx fun r o n => r = .val (.tup [.u (.agg [.int .i64 e.1.op, .int .i64 e.1.n, .int .i64 e.1.unit, .str e.1.s, .sl (e.1.args.map Exp.row)]), .u (.int .i64 e.2)]) ∧ o = [(i, pOb l q)] ∧ n = nx := by
 subst hr
 rw [← Exp.row_eq]
 exact h
abbrev zp5 (e : Exp) : Ob := .box [.u (.int .i64 e.op), .u (.int .i64 e.n), .u (.int .i64 e.unit), .u (.str e.s), .u (.sl (e.args.map Exp.row))]
theorem zne {l : List Tok} (hl : TokOK l) {f : Nat} (hE : ∀ g, g < f → zfi l g) (hP : zoz l f) : zfi l (f + 1) := by
 intro p form i nx hi hp hf hm0 hm7
 have hne := zaQ hi
 have hll := hl.len
 rw [zdF]
 have ha := fun nx' (h : nx ≤ nx') => hP p form i nx' (by omega) hp (by omega) hm0 hm7
 have hop := zgV
 cases hr0 : zbn l f p form with
 | stop pos e =>
  simp only [hr0] at ha
  (refine RetX.of_bodyW Tryz.func203 rfl (by simp) fun Γ hn hpan => ?_); simp only [entry, List.zipIdx_cons, List.zipIdx_nil, List.map_cons, List.map_nil, Nat.zero_add, Tryz.ntmps203]
  repeat' (first
  | (refine zag ?_; simp [hne, del, Nat.add_assoc])
  | (refine zaj ?_; simp [hne, del, Nat.add_assoc])
  | (refine zah ?_; simp [hne, del, Nat.add_assoc])
  | (refine CallP.zed (ha _ (by first | omega | (simp; done) | (simp; omega) | fail)) (by first | (simp [hne, del, Nat.add_assoc, zaa, getK, zab, zac]; done) | fail) (by rfl) (by first | assumption | (simp; done) | fail) (by rfl) (by simp) ?_; rintro ob' ⟨q', rfl⟩; refine ⟨_, Wk.refl _, ?_⟩)
  | fail)
  (refine hpan _ _ ⟨{ n := _, env := [], obs := [(i, pOb l q')], next := nx }, (Wk.cut rfl (by simp [hn]) (by simp [wkO, zaa, getK, zab, zac, Ob.under, D.under, zad, zae, hi, hne, zab, zac, zaa, getK]) (by simp [wkU, zak, zaa, getK, D.under, hi, hne, zab, zac, zaa, getK]) (by simp [wkE, zak, zaa, getK, hi, hne, zab, zac, zaa, getK])), by simp [hn], ?_⟩; try simp)
  exact PPost.zaB (by simp [PR.bind, *])
 | ok v0 q0 =>
  have ha := fun nx' h => zoV (ha nx' h) hr0
  obtain ⟨g0a, g0b⟩ := (zb8 hl f).2.2.1 _ _ _ _ hr0 hp
  generalize hR : (PR.ok v0 q0).bind (fun e q => zeb l f form e.1 e.2 q) = R
  have hR' : R = zeb l f form v0.1 v0.2 q0 := hR.symm
  (refine RetX.of_bodyW Tryz.func203 rfl (by simp) fun Γ hn hpan => ?_); simp only [entry, List.zipIdx_cons, List.zipIdx_nil, List.map_cons, List.map_nil, Nat.zero_add, Tryz.ntmps203]
  repeat' (first
  | (refine zag ?_; simp [hne, del, Nat.add_assoc])
  | (refine zaj ?_; simp [hne, del, Nat.add_assoc])
  | (refine zah ?_; simp [hne, del, Nat.add_assoc])
  | (refine zau ?_; simp [hne, del, Nat.add_assoc])
  | (refine CallP.ok1 (ha _ (by first | omega | (simp; done) | (simp; omega) | fail)) (by first | (simp [hne, del, Nat.add_assoc, zaa, getK, zab, zac]; done) | fail) (by rfl) (by first | assumption | (simp; done) | fail) (by rfl) (by simp) ?_; (try simp [hne, del, Nat.add_assoc]))
  | fail)
  refine zde (α := { x : Exp × Int × Nat × Nat // x.2.2.1 < l.length ∧ 4 * (l.length - x.2.2.1) + 2 ≤ x.2.2.2 ∧ x.2.2.2 ≤ f ∧ R = zeb l x.2.2.2 form x.1 x.2.1 x.2.2.1 }) [0, 1, 2, 4, 5] (fun x => [(6, .u (.int .i64 x.1.2.1))])
   (fun x => [(nx + 2, zp5 x.1.1), (nx + 1, .box [.u (.int .i64 0), .u (.int .i64 0), .u (.int .i64 0), .u (.str []), .u .nil]), (nx, .box [.ptr i 0]), (i, pOb l x.1.2.2.1)]) (nx + 3) (fun x => x.1.2.2.2) ⟨(v0.1, v0.2, q0, f), g0b, (by show 4 * (l.length - q0) + 2 ≤ f; omega), (by show f ≤ f; omega), hR'⟩ ?_ ?_
  ·have hi3 : i < nx + 3 := by omega
   exact (Wk.cut rfl (by simp [hn, St.lp]) (by simp [wkO, St.lp, zaa, getK, Ob.under, D.under, zad, zae, hi, hi3, hne]) (by simp [wkU, St.lp, zak, zaa, getK, D.under, hi, hi3, hne]) (by simp [wkE, St.lp, zak, zaa, getK, hi, hi3, hne] <;> (try (intros; simp_all; done)) <;> (try (intros; omega)) <;> (try grind)))
  rintro ⟨⟨e, own, q, g⟩, h1, h2, h2b, h3⟩
  simp only at h1 h2 h2b h3
  simp [St.lp, St.only, zak, zaa, getK]
  obtain ⟨g, rfl⟩ : ∃ g', g = g' + 1 := ⟨g - 1, by omega⟩
  rw [zeb] at h3
  have hix := zkz l q h1 hl.len
  cases hx : zoW l q with
  | none =>
   rw [(zfT oprs 0).1 hx] at hix
   rw [hx] at h3
   repeat' (first
  | (refine zag ?_; simp [hne, del, Nat.add_assoc])
  | (refine zaj ?_; simp [hne, del, Nat.add_assoc])
  | (refine zah ?_; simp [hne, del, Nat.add_assoc])
  | (refine zai ?_; simp [hne, del, Nat.add_assoc])
  | (refine zau ?_; simp [hne, del, Nat.add_assoc])
  | (refine zas ?_; simp only [zan])
  | (refine CallP.fun_ (hop) (by first | rfl | fail) (by first | assumption | (simp; done) | fail) (by first | (simp [hne, del, Nat.add_assoc]; done) | (simp [hne, del, Nat.add_assoc]; rfl) | fail) (by first | (simp; done) | fail) (fun d hd => ?_); subst hd; (try simp [hne, del, Nat.add_assoc]))
  | (refine CallP.fun_ (hix) (by first | rfl | fail) (by first | assumption | (simp; done) | fail) (by first | (simp [hne, del, Nat.add_assoc]; done) | (simp [hne, del, Nat.add_assoc]; rfl) | fail) (by first | (simp; done) | fail) (fun d hd => ?_); subst hd; (try simp [hne, del, Nat.add_assoc]))
  | fail)
   refine EndW.norm ?_
   simp [St.norm, za1, zbz, zbL, zbM, hne, Nat.add_assoc]
   (refine EndW.here ?_; (first | (refine EndOK.fin (.inr rfl) ?_) | (refine EndOK.fin (.inl rfl) ?_)); simp [zaC, zaf, Tryz.results203, hne, hi]; refine FinOK.cut [(i, pOb l q)] (nx) (by simp [zaa, getK, zab, zac, Ob.under, D.under, zad, zae, hne, hi] <;> omega) (by simp [D.under]) (by simp [hn]) ?_; try simp)
   exact PPost.zb2 h3 (by simp [Exp.row_eq]) rfl
  | some x =>
   obtain ⟨k, hk1, hk2⟩ := (zfT oprs 0).2 x hx
   rw [hk2] at hix
   rw [hx] at h3
   simp only at h3
   have hqb := za2 hl (by have := List.find?_some (p := fun o : Opr => isB l q o.text) hx; exact this)
   have hk0 : ¬ ((k : Int) < 0) := by omega
   have hkl : k < 8 := (List.getElem?_eq_some_iff.1 hk1).1
   rw [show (0 : Int) + k = (k : Int) by omega] at hix
   have hfm : 0 ≤ x.form ∧ x.form ≤ 6 := by
    have := List.mem_of_getElem? hk1
    simp only [oprs, List.mem_cons, List.not_mem_nil, or_false] at this
    rcases this with rfl | rfl | rfl | rfl | rfl | rfl | rfl | rfl <;> decide
   obtain ⟨hf0, hf6⟩ := hfm
   generalize hL : oprs = L at hop hix hk1
   by_cases c1 : x.form < form
   ·rw [if_pos (Or.inl c1)] at h3
    repeat' (first
  | (refine zag ?_; simp [hne, del, Nat.add_assoc, hk0, hk1, c1])
  | (refine zaj ?_; simp [hne, del, Nat.add_assoc, hk0, hk1, c1])
  | (refine zah ?_; simp [hne, del, Nat.add_assoc, hk0, hk1, c1])
  | (refine zai ?_; simp [hne, del, Nat.add_assoc, hk0, hk1, c1])
  | (refine zau ?_; simp [hne, del, Nat.add_assoc, hk0, hk1, c1])
  | (refine zas ?_; simp only [zan])
  | (refine zaq ?_; simp only [zan])
  | (refine CallP.fun_ (hop) (by first | rfl | fail) (by first | assumption | (simp; done) | fail) (by first | (simp [hne, del, Nat.add_assoc, hk0, hk1, c1]; done) | (simp [hne, del, Nat.add_assoc, hk0, hk1, c1]; rfl) | fail) (by first | (simp; done) | fail) (fun d hd => ?_); subst hd; (try simp [hne, del, Nat.add_assoc, hk0, hk1, c1]))
  | (refine CallP.fun_ (hix) (by first | rfl | fail) (by first | assumption | (simp; done) | fail) (by first | (simp [hne, del, Nat.add_assoc, hk0, hk1, c1]; done) | (simp [hne, del, Nat.add_assoc, hk0, hk1, c1]; rfl) | fail) (by first | (simp; done) | fail) (fun d hd => ?_); subst hd; (try simp [hne, del, Nat.add_assoc, hk0, hk1, c1]))
  | fail)
    refine EndW.norm ?_
    simp [St.norm, za1, zbz, zbL, zbM, hne, Nat.add_assoc]
    (refine EndW.here ?_; (first | (refine EndOK.fin (.inr rfl) ?_) | (refine EndOK.fin (.inl rfl) ?_)); simp [zaC, zaf, Tryz.results203, hne, hi]; refine FinOK.cut [(i, pOb l q)] (nx) (by simp [zaa, getK, zab, zac, Ob.under, D.under, zad, zae, hne, hi] <;> omega) (by simp [D.under]) (by simp [hn]) ?_; try simp)
    exact PPost.zb2 h3 (by simp [Exp.row_eq]) rfl
   ·by_cases c2 : own < x.form
    ·rw [if_pos (Or.inr (Or.inl c2))] at h3
     repeat' (first
  | (refine zag ?_; simp [hne, del, Nat.add_assoc, hk0, hk1, c1, c2])
  | (refine zaj ?_; simp [hne, del, Nat.add_assoc, hk0, hk1, c1, c2])
  | (refine zah ?_; simp [hne, del, Nat.add_assoc, hk0, hk1, c1, c2])
  | (refine zai ?_; simp [hne, del, Nat.add_assoc, hk0, hk1, c1, c2])
  | (refine zau ?_; simp [hne, del, Nat.add_assoc, hk0, hk1, c1, c2])
  | (refine zas ?_; simp only [zan])
  | (refine zaq ?_; simp only [zan])
  | (refine CallP.fun_ (hop) (by first | rfl | fail) (by first | assumption | (simp; done) | fail) (by first | (simp [hne, del, Nat.add_assoc, hk0, hk1, c1, c2]; done) | (simp [hne, del, Nat.add_assoc, hk0, hk1, c1, c2]; rfl) | fail) (by first | (simp; done) | fail) (fun d hd => ?_); subst hd; (try simp [hne, del, Nat.add_assoc, hk0, hk1, c1, c2]))
  | (refine CallP.fun_ (hix) (by first | rfl | fail) (by first | assumption | (simp; done) | fail) (by first | (simp [hne, del, Nat.add_assoc, hk0, hk1, c1, c2]; done) | (simp [hne, del, Nat.add_assoc, hk0, hk1, c1, c2]; rfl) | fail) (by first | (simp; done) | fail) (fun d hd => ?_); subst hd; (try simp [hne, del, Nat.add_assoc, hk0, hk1, c1, c2]))
  | fail)
     refine EndW.norm ?_
     simp [St.norm, za1, zbz, zbL, zbM, hne, Nat.add_assoc]
     (refine EndW.here ?_; (first | (refine EndOK.fin (.inr rfl) ?_) | (refine EndOK.fin (.inl rfl) ?_)); simp [zaC, zaf, Tryz.results203, hne, hi]; refine FinOK.cut [(i, pOb l q)] (nx) (by simp [zaa, getK, zab, zac, Ob.under, D.under, zad, zae, hne, hi] <;> omega) (by simp [D.under]) (by simp [hn]) ?_; try simp)
     exact PPost.zb2 h3 (by simp [Exp.row_eq]) rfl
    ·by_cases c3 : own = 4 ∧ x.form = 4
     ·rw [if_pos (Or.inr (Or.inr c3))] at h3
      obtain ⟨c4, c5⟩ := c3
      repeat' (first
  | (refine zag ?_; simp [hne, del, Nat.add_assoc, hk0, hk1, c1, c2, c4, c5])
  | (refine zaj ?_; simp [hne, del, Nat.add_assoc, hk0, hk1, c1, c2, c4, c5])
  | (refine zah ?_; simp [hne, del, Nat.add_assoc, hk0, hk1, c1, c2, c4, c5])
  | (refine zai ?_; simp [hne, del, Nat.add_assoc, hk0, hk1, c1, c2, c4, c5])
  | (refine zau ?_; simp [hne, del, Nat.add_assoc, hk0, hk1, c1, c2, c4, c5])
  | (refine zas ?_; simp only [zan])
  | (refine zaq ?_; simp only [zan])
  | (refine ⟨?_, by omega⟩)
  | (intro hc <;> (try (exfalso; omega)))
  | (refine CallP.fun_ (hop) (by first | rfl | fail) (by first | assumption | (simp; done) | fail) (by first | (simp [hne, del, Nat.add_assoc, hk0, hk1, c1, c2, c4, c5]; done) | (simp [hne, del, Nat.add_assoc, hk0, hk1, c1, c2, c4, c5]; rfl) | fail) (by first | (simp; done) | fail) (fun d hd => ?_); subst hd; (try simp [hne, del, Nat.add_assoc, hk0, hk1, c1, c2, c4, c5]))
  | (refine CallP.fun_ (hix) (by first | rfl | fail) (by first | assumption | (simp; done) | fail) (by first | (simp [hne, del, Nat.add_assoc, hk0, hk1, c1, c2, c4, c5]; done) | (simp [hne, del, Nat.add_assoc, hk0, hk1, c1, c2, c4, c5]; rfl) | fail) (by first | (simp; done) | fail) (fun d hd => ?_); subst hd; (try simp [hne, del, Nat.add_assoc, hk0, hk1, c1, c2, c4, c5]))
  | fail)
      refine EndW.norm ?_
      simp [St.norm, za1, zbz, zbL, zbM, hne, Nat.add_assoc]
      (refine EndW.here ?_; (first | (refine EndOK.fin (.inr rfl) ?_) | (refine EndOK.fin (.inl rfl) ?_)); simp [zaC, zaf, Tryz.results203, hne, hi]; refine FinOK.cut [(i, pOb l q)] (nx) (by simp [zaa, getK, zab, zac, Ob.under, D.under, zad, zae, hne, hi] <;> omega) (by simp [D.under]) (by simp [hn]) ?_; try simp)
      exact PPost.zb2 h3 (by simp [Exp.row_eq]) rfl
     ·rw [if_neg (by rintro (h | h | h) <;> contradiction)] at h3
      have hb := fun nx' (h : nx ≤ nx') => hE g (by omega) (q + 1) (x.form + 1) i nx' (by omega) hqb (by omega) (by omega) (by omega)
      cases hr1 : zdF l g (q + 1) (x.form + 1) with
      | stop pos err =>
       simp only [hr1] at hb
       rw [hr1] at h3
       by_cases c4 : own = 4
       ·have c5 : ¬ x.form = 4 := fun h => c3 ⟨c4, h⟩
        repeat' (first
  | (refine zeK (fun nx' h' => hb nx' (by simp at h'; omega)) (by first | (simp [hne, del, Nat.add_assoc, hk0, hk1, c1, c2, c4, c5, zaa, getK, zab, zac, zax, zaP]; done) | fail) (by rfl) (by first | assumption | simp) (by rfl) (by simp) ?_ ?_; rintro env' ob' n' hn' ⟨q', rfl⟩; refine ⟨_, Wk.refl _, ?_⟩)
  | (refine zdX rfl (by simp) ?_; simp)
  | (refine zag ?_; simp [hne, del, Nat.add_assoc, hk0, hk1, c1, c2, c4, c5])
  | (refine zaN rfl ?_; simp [hne, del, Nat.add_assoc, hk0, hk1, c1, c2, c4, c5])
  | (refine zaj ?_; simp [hne, del, Nat.add_assoc, hk0, hk1, c1, c2, c4, c5])
  | (refine ⟨by omega, ?_⟩)
  | (refine zah ?_; simp [hne, del, Nat.add_assoc, hk0, hk1, c1, c2, c4, c5])
  | (refine zai ?_; simp [hne, del, Nat.add_assoc, hk0, hk1, c1, c2, c4, c5])
  | (refine zeL (hC _ (zcI [i] nx (by simp <;> omega) (by simp <;> omega) (by apply Exists.intro; apply And.intro; (focus (repeat' (first | exact KF.nil | exact KL.nil | apply KF.cons | apply KL.cons 0 rfl | apply KL.cons 1 rfl | apply KL.cons 2 rfl | apply KL.cons 3 rfl | apply KL.cons 4 rfl | apply KL.cons 5 rfl | apply KL.cons 6 rfl | apply KL.cons 7 rfl | apply KL.cons 8 rfl | apply KL.cons 9 rfl))); kernel_rfl))) rfl; done)
  | (refine zaM rfl (by kernel_rfl) (by first | (simp [hn]; done) | (simp [hn]; omega) | fail) fun C k hC hk => ?_; simp [hne, del, Nat.add_assoc, hk0, hk1, c1, c2, c4, c5])
  | (refine zau ?_; simp [hne, del, Nat.add_assoc, hk0, hk1, c1, c2, c4, c5])
  | (refine zaq ?_; simp only [zan])
  | (refine ⟨?_, by omega⟩)
  | (intro hc <;> (try (exfalso; omega)))
  | (refine CallP.fun_ (hop) (by first | rfl | fail) (by first | assumption | (simp; done) | fail) (by first | (simp [hne, del, Nat.add_assoc, hk0, hk1, c1, c2, c4, c5]; done) | (simp [hne, del, Nat.add_assoc, hk0, hk1, c1, c2, c4, c5]; rfl) | fail) (by first | (simp; done) | fail) (fun d hd => ?_); subst hd; (try simp [hne, del, Nat.add_assoc, hk0, hk1, c1, c2, c4, c5]))
  | (refine CallP.fun_ (hix) (by first | rfl | fail) (by first | assumption | (simp; done) | fail) (by first | (simp [hne, del, Nat.add_assoc, hk0, hk1, c1, c2, c4, c5]; done) | (simp [hne, del, Nat.add_assoc, hk0, hk1, c1, c2, c4, c5]; rfl) | fail) (by first | (simp; done) | fail) (fun d hd => ?_); subst hd; (try simp [hne, del, Nat.add_assoc, hk0, hk1, c1, c2, c4, c5]))
  | fail)
        (refine hpan _ _ ⟨{ n := _, env := [], obs := [(i, pOb l q')], next := nx }, (Wk.cut rfl (by simp [hn]) (by simp [wkO, zaa, getK, zab, zac, Ob.under, D.under, zad, zae, hi, hne, zab, zac, zaa, getK]) (by simp [wkU, zak, zaa, getK, D.under, hi, hne, zab, zac, zaa, getK]) (by simp [wkE, zak, zaa, getK, hi, hne, zab, zac, zaa, getK])), by simp [hn], ?_⟩; try simp)
        exact PPost.zaB h3
       ·repeat' (first
  | (refine zeK (fun nx' h' => hb nx' (by simp at h'; omega)) (by first | (simp [hne, del, Nat.add_assoc, hk0, hk1, c1, c2, c4, zaa, getK, zab, zac, zax, zaP]; done) | fail) (by rfl) (by first | assumption | simp) (by rfl) (by simp) ?_ ?_; rintro env' ob' n' hn' ⟨q', rfl⟩; refine ⟨_, Wk.refl _, ?_⟩)
  | (refine zdX rfl (by simp) ?_; simp)
  | (refine zag ?_; simp [hne, del, Nat.add_assoc, hk0, hk1, c1, c2, c4])
  | (refine zaN rfl ?_; simp [hne, del, Nat.add_assoc, hk0, hk1, c1, c2, c4])
  | (refine zaj ?_; simp [hne, del, Nat.add_assoc, hk0, hk1, c1, c2, c4])
  | (refine ⟨by omega, ?_⟩)
  | (refine zah ?_; simp [hne, del, Nat.add_assoc, hk0, hk1, c1, c2, c4])
  | (refine zai ?_; simp [hne, del, Nat.add_assoc, hk0, hk1, c1, c2, c4])
  | (refine zeL (hC _ (zcI [i] nx (by simp <;> omega) (by simp <;> omega) (by apply Exists.intro; apply And.intro; (focus (repeat' (first | exact KF.nil | exact KL.nil | apply KF.cons | apply KL.cons 0 rfl | apply KL.cons 1 rfl | apply KL.cons 2 rfl | apply KL.cons 3 rfl | apply KL.cons 4 rfl | apply KL.cons 5 rfl | apply KL.cons 6 rfl | apply KL.cons 7 rfl | apply KL.cons 8 rfl | apply KL.cons 9 rfl))); kernel_rfl))) rfl; done)
  | (refine zaM rfl (by kernel_rfl) (by first | (simp [hn]; done) | (simp [hn]; omega) | fail) fun C k hC hk => ?_; simp [hne, del, Nat.add_assoc, hk0, hk1, c1, c2, c4])
  | (refine zau ?_; simp [hne, del, Nat.add_assoc, hk0, hk1, c1, c2, c4])
  | (refine zaq ?_; simp only [zan])
  | (refine CallP.fun_ (hop) (by first | rfl | fail) (by first | assumption | (simp; done) | fail) (by first | (simp [hne, del, Nat.add_assoc, hk0, hk1, c1, c2, c4]; done) | (simp [hne, del, Nat.add_assoc, hk0, hk1, c1, c2, c4]; rfl) | fail) (by first | (simp; done) | fail) (fun d hd => ?_); subst hd; (try simp [hne, del, Nat.add_assoc, hk0, hk1, c1, c2, c4]))
  | (refine CallP.fun_ (hix) (by first | rfl | fail) (by first | assumption | (simp; done) | fail) (by first | (simp [hne, del, Nat.add_assoc, hk0, hk1, c1, c2, c4]; done) | (simp [hne, del, Nat.add_assoc, hk0, hk1, c1, c2, c4]; rfl) | fail) (by first | (simp; done) | fail) (fun d hd => ?_); subst hd; (try simp [hne, del, Nat.add_assoc, hk0, hk1, c1, c2, c4]))
  | fail)
        (refine hpan _ _ ⟨{ n := _, env := [], obs := [(i, pOb l q')], next := nx }, (Wk.cut rfl (by simp [hn]) (by simp [wkO, zaa, getK, zab, zac, Ob.under, D.under, zad, zae, hi, hne, zab, zac, zaa, getK]) (by simp [wkU, zak, zaa, getK, D.under, hi, hne, zab, zac, zaa, getK]) (by simp [wkE, zak, zaa, getK, hi, hne, zab, zac, zaa, getK])), by simp [hn], ?_⟩; try simp)
        exact PPost.zaB h3
      | ok e2 q2 =>
       have hb := fun nx' h => zcS (hb nx' h) hr1
       obtain ⟨g1a, g1b⟩ := (zb8 hl g).1 _ _ _ _ hr1 hqb
       rw [hr1] at h3
       by_cases c4 : own = 4
       ·have c5 : ¬ x.form = 4 := fun h => c3 ⟨c4, h⟩
        repeat' (first
  | (refine zf4 (fun nx' h' => hb nx' (by simp at h'; omega)) (by first | (simp [hne, del, Nat.add_assoc, hk0, hk1, c1, c2, c4, c5, zaa, getK, zab, zac, zax, zaP]; done) | fail) (by rfl) (by first | assumption | simp) (by rfl) (by simp [D.under, Ob.under]) (by simp) ?_; (try simp [hne, del, Nat.add_assoc, hk0, hk1, c1, c2, c4, c5]))
  | (refine zag ?_; simp [hne, del, Nat.add_assoc, hk0, hk1, c1, c2, c4, c5])
  | (refine zaN rfl ?_; simp [hne, del, Nat.add_assoc, hk0, hk1, c1, c2, c4, c5])
  | (refine zbu rfl ?_; simp [hne, del, Nat.add_assoc, hk0, hk1, c1, c2, c4, c5])
  | (refine zaj ?_; simp [hne, del, Nat.add_assoc, hk0, hk1, c1, c2, c4, c5])
  | (refine ⟨by omega, ?_⟩)
  | (refine zah ?_; simp [hne, del, Nat.add_assoc, hk0, hk1, c1, c2, c4, c5])
  | (refine zai ?_; simp [hne, del, Nat.add_assoc, hk0, hk1, c1, c2, c4, c5])
  | (refine zaS (hC _ (zcI [i] nx (by simp <;> omega) (by simp <;> omega) (by apply Exists.intro; apply And.intro; (focus (repeat' (first | exact KF.nil | exact KL.nil | apply KF.cons | apply KL.cons 0 rfl | apply KL.cons 1 rfl | apply KL.cons 2 rfl | apply KL.cons 3 rfl | apply KL.cons 4 rfl | apply KL.cons 5 rfl | apply KL.cons 6 rfl | apply KL.cons 7 rfl | apply KL.cons 8 rfl | apply KL.cons 9 rfl))); kernel_rfl))) (hk _ ?_); clear hC hk C k; simp only [zan])
  | (refine zaM rfl (by kernel_rfl) (by first | (simp [hn]; done) | (simp [hn]; omega) | fail) fun C k hC hk => ?_; simp [hne, del, Nat.add_assoc, hk0, hk1, c1, c2, c4, c5])
  | (refine zau ?_; simp [hne, del, Nat.add_assoc, hk0, hk1, c1, c2, c4, c5])
  | (refine zap ?_; simp [hne, del, Nat.add_assoc, hk0, hk1, c1, c2, c4, c5])
  | (refine zaq ?_; simp only [zan])
  | (refine ⟨?_, by omega⟩)
  | (intro hc <;> (try (exfalso; omega)))
  | (refine CallP.fun_ (hop) (by first | rfl | fail) (by first | assumption | (simp; done) | fail) (by first | (simp [hne, del, Nat.add_assoc, hk0, hk1, c1, c2, c4, c5]; done) | (simp [hne, del, Nat.add_assoc, hk0, hk1, c1, c2, c4, c5]; rfl) | fail) (by first | (simp; done) | fail) (fun d hd => ?_); subst hd; (try simp [hne, del, Nat.add_assoc, hk0, hk1, c1, c2, c4, c5]))
  | (refine CallP.fun_ (hix) (by first | rfl | fail) (by first | assumption | (simp; done) | fail) (by first | (simp [hne, del, Nat.add_assoc, hk0, hk1, c1, c2, c4, c5]; done) | (simp [hne, del, Nat.add_assoc, hk0, hk1, c1, c2, c4, c5]; rfl) | fail) (by first | (simp; done) | fail) (fun d hd => ?_); subst hd; (try simp [hne, del, Nat.add_assoc, hk0, hk1, c1, c2, c4, c5]))
  | fail)
        have hi3 : i < nx + 3 := by omega
        refine LoopW.next ⟨(.mk x.op 0 0 [] [e, e2], x.form, q2, g), g1b, (by show 4 * (l.length - q2) + 2 ≤ g; omega), (by show g ≤ f; omega), h3⟩ (by show g < g + 1; omega) ?_
        refine Wk.trans (Wk.frzN 1 _) ?_
        simp [hne, Nat.add_assoc, frzN, frz1, zaE, zaD, St.frz, St.frzS, frzS, fv, za3, za4, za9, zaH, zaz, zay, del, frz, zba]
        exact (Wk.cut rfl (by simp [hn, St.lp]) (by simp [wkO, St.lp, zaa, getK, Ob.under, D.under, zad, zae, hi, hi3, hne, Exp.row_eq, Exp.op, Exp.n, Exp.unit, Exp.s, Exp.args]) (by simp [wkU, St.lp, zak, zaa, getK, D.under, hi, hi3, hne, Exp.row_eq, Exp.op, Exp.n, Exp.unit, Exp.s, Exp.args]) (by simp [wkE, St.lp, zak, zaa, getK, hi, hi3, hne, Exp.row_eq, Exp.op, Exp.n, Exp.unit, Exp.s, Exp.args] <;> (try (intros; simp_all; done)) <;> (try (intros; omega)) <;> (try grind)))
       ·repeat' (first
  | (refine zf4 (fun nx' h' => hb nx' (by simp at h'; omega)) (by first | (simp [hne, del, Nat.add_assoc, hk0, hk1, c1, c2, c4, zaa, getK, zab, zac, zax, zaP]; done) | fail) (by rfl) (by first | assumption | simp) (by rfl) (by simp [D.under, Ob.under]) (by simp) ?_; (try simp [hne, del, Nat.add_assoc, hk0, hk1, c1, c2, c4]))
  | (refine zag ?_; simp [hne, del, Nat.add_assoc, hk0, hk1, c1, c2, c4])
  | (refine zaN rfl ?_; simp [hne, del, Nat.add_assoc, hk0, hk1, c1, c2, c4])
  | (refine zbu rfl ?_; simp [hne, del, Nat.add_assoc, hk0, hk1, c1, c2, c4])
  | (refine zaj ?_; simp [hne, del, Nat.add_assoc, hk0, hk1, c1, c2, c4])
  | (refine ⟨by omega, ?_⟩)
  | (refine zah ?_; simp [hne, del, Nat.add_assoc, hk0, hk1, c1, c2, c4])
  | (refine zai ?_; simp [hne, del, Nat.add_assoc, hk0, hk1, c1, c2, c4])
  | (refine zaS (hC _ (zcI [i] nx (by simp <;> omega) (by simp <;> omega) (by apply Exists.intro; apply And.intro; (focus (repeat' (first | exact KF.nil | exact KL.nil | apply KF.cons | apply KL.cons 0 rfl | apply KL.cons 1 rfl | apply KL.cons 2 rfl | apply KL.cons 3 rfl | apply KL.cons 4 rfl | apply KL.cons 5 rfl | apply KL.cons 6 rfl | apply KL.cons 7 rfl | apply KL.cons 8 rfl | apply KL.cons 9 rfl))); kernel_rfl))) (hk _ ?_); clear hC hk C k; simp only [zan])
  | (refine zaM rfl (by kernel_rfl) (by first | (simp [hn]; done) | (simp [hn]; omega) | fail) fun C k hC hk => ?_; simp [hne, del, Nat.add_assoc, hk0, hk1, c1, c2, c4])
  | (refine zau ?_; simp [hne, del, Nat.add_assoc, hk0, hk1, c1, c2, c4])
  | (refine zap ?_; simp [hne, del, Nat.add_assoc, hk0, hk1, c1, c2, c4])
  | (refine zaq ?_; simp only [zan])
  | (refine CallP.fun_ (hop) (by first | rfl | fail) (by first | assumption | (simp; done) | fail) (by first | (simp [hne, del, Nat.add_assoc, hk0, hk1, c1, c2, c4]; done) | (simp [hne, del, Nat.add_assoc, hk0, hk1, c1, c2, c4]; rfl) | fail) (by first | (simp; done) | fail) (fun d hd => ?_); subst hd; (try simp [hne, del, Nat.add_assoc, hk0, hk1, c1, c2, c4]))
  | (refine CallP.fun_ (hix) (by first | rfl | fail) (by first | assumption | (simp; done) | fail) (by first | (simp [hne, del, Nat.add_assoc, hk0, hk1, c1, c2, c4]; done) | (simp [hne, del, Nat.add_assoc, hk0, hk1, c1, c2, c4]; rfl) | fail) (by first | (simp; done) | fail) (fun d hd => ?_); subst hd; (try simp [hne, del, Nat.add_assoc, hk0, hk1, c1, c2, c4]))
  | fail)
        have hi3 : i < nx + 3 := by omega
        refine LoopW.next ⟨(.mk x.op 0 0 [] [e, e2], x.form, q2, g), g1b, (by show 4 * (l.length - q2) + 2 ≤ g; omega), (by show g ≤ f; omega), h3⟩ (by show g < g + 1; omega) ?_
        refine Wk.trans (Wk.frzN 1 _) ?_
        simp [hne, Nat.add_assoc, frzN, frz1, zaE, zaD, St.frz, St.frzS, frzS, fv, za3, za4, za9, zaH, zaz, zay, del, frz, zba]
        exact (Wk.cut rfl (by simp [hn, St.lp]) (by simp [wkO, St.lp, zaa, getK, Ob.under, D.under, zad, zae, hi, hi3, hne, Exp.row_eq, Exp.op, Exp.n, Exp.unit, Exp.s, Exp.args]) (by simp [wkU, St.lp, zak, zaa, getK, D.under, hi, hi3, hne, Exp.row_eq, Exp.op, Exp.n, Exp.unit, Exp.s, Exp.args]) (by simp [wkE, St.lp, zak, zaa, getK, hi, hi3, hne, Exp.row_eq, Exp.op, Exp.n, Exp.unit, Exp.s, Exp.args] <;> (try (intros; simp_all; done)) <;> (try (intros; omega)) <;> (try grind)))
theorem zn5 (s : List UInt8) (l : List Tok) (nx : Nat) (h : zkT s = .ok l) :
  RetX Tryz.prog 61 [.u (.str s)] [] nx (fun r o n => r = .val (.tup [.ptr nx 0, .u (.int .i64 0), .u (.int .i64 0)]) ∧ o = [(nx, pOb l 0)] ∧ n = nx + 1) := by
 have h1 := zlG s
 rw [h] at h1
 simp only [zgv] at h1
 (refine RetX.of_bodyW Tryz.func61 rfl (by simp) fun Γ hn hpan => ?_); simp only [entry, List.zipIdx_cons, List.zipIdx_nil, List.map_cons, List.map_nil, Nat.zero_add, Tryz.ntmps61]
 repeat' (first
  | (refine zag ?_; simp)
  | (refine zaj ?_; simp)
  | (refine zah ?_; simp)
  | (refine zas ?_; simp only [zan])
  | (refine CallP.fun_ (h1) (by first | rfl | fail) (by first | assumption | (simp; done) | fail) (by first | (simp; done) | (simp; rfl) | fail) (by first | (simp; done) | fail) (fun d hd => ?_); subst hd; (try simp))
  | fail)
 (refine EndW.here ?_; (first | (refine EndOK.fin (.inr rfl) ?_) | (refine EndOK.fin (.inl rfl) ?_)); simp [zaC, zaf, Tryz.results61]; refine FinOK.here (by simp) ?_; try simp)
theorem zmN (s : List UInt8) (p : Nat) (e : Int) (nx : Nat) (h : zkT s = .error (p, e)) :
  RetX Tryz.prog 61 [.u (.str s)] [] nx (fun r o n => r = .val (.tup [.ptr nx 0, .u (.int .i64 p), .u (.int .i64 e)]) ∧ o = [(nx, pOb [] 0)] ∧ n = nx + 1) := by
 have h1 := zlG s
 rw [h] at h1
 simp only [zgv] at h1
 (refine RetX.of_bodyW Tryz.func61 rfl (by simp) fun Γ hn hpan => ?_); simp only [entry, List.zipIdx_cons, List.zipIdx_nil, List.map_cons, List.map_nil, Nat.zero_add, Tryz.ntmps61]
 repeat' (first
  | (refine zag ?_; simp)
  | (refine zaj ?_; simp)
  | (refine zah ?_; simp)
  | (refine zas ?_; simp only [zan])
  | (refine CallP.fun_ (h1) (by first | rfl | fail) (by first | assumption | (simp; done) | fail) (by first | (simp; done) | (simp; rfl) | fail) (by first | (simp; done) | fail) (fun d hd => ?_); subst hd; (try simp))
  | fail)
 (refine EndW.here ?_; (first | (refine EndOK.fin (.inr rfl) ?_) | (refine EndOK.fin (.inl rfl) ?_)); simp [zaC, zaf, Tryz.results61]; refine FinOK.here (by simp) ?_; try simp)
theorem zjh (i j nx : Nat) (hi : i < nx) (hj : j < nx) (hij : i ≠ j) (p e : Int) :
  RetX Tryz.prog 63 [.u (.oth .nilIface), .ptr i 0, .ptr j 0] [(i, .box [.u (.int .i64 p)]), (j, .box [.u (.int .i64 e)])] nx
   (fun r o n => r = .val (.u (.bool false)) ∧ o = [(i, .box [.u (.int .i64 p)]), (j, .box [.u (.int .i64 e)])] ∧ n = nx) := by
 have hne := zaQ hi
 have hne2 := zaQ hj
 (refine RetX.of_bodyW Tryz.func63 rfl (by simp) fun Γ hn hpan => ?_); simp only [entry, List.zipIdx_cons, List.zipIdx_nil, List.map_cons, List.map_nil, Nat.zero_add, Tryz.ntmps63]
 repeat' (first
  | (refine zag ?_; simp [hne, hne2, hij, Ne.symm hij])
  | (refine zaj ?_; simp [hne, hne2, hij, Ne.symm hij])
  | (refine zah ?_; simp [hne, hne2, hij, Ne.symm hij])
  | fail)
 refine ⟨[.int .i64 0, .int .i64 0], rfl, ?_⟩
 repeat' (first
  | (refine zag ?_; simp [hne, hne2, hij, Ne.symm hij])
  | (refine zaj ?_; simp [hne, hne2, hij, Ne.symm hij])
  | (refine zah ?_; simp [hne, hne2, hij, Ne.symm hij])
  | (refine zai ?_; simp [hne, hne2, hij, Ne.symm hij])
  | (refine zas ?_; simp only [zan])
  | (refine zaq ?_; simp only [zan])
  | fail)
 (refine EndW.here ?_; (first | (refine EndOK.fin (.inr rfl) ?_) | (refine EndOK.fin (.inl rfl) ?_)); simp [zaC, zaf, Tryz.results63, hne, hne2, hij, Ne.symm hij, hi, hj]; refine FinOK.cut [(i, .box [.u (.int .i64 p)]), (j, .box [.u (.int .i64 e)])] (nx) (by simp [zaa, getK, zab, zac, Ob.under, D.under, zad, zae, hne, hne2, hij, Ne.symm hij, hi, hj] <;> omega) (by simp [D.under]) (by simp [hn]) ?_; try simp)
theorem zjg (i j nx : Nat) (hi : i < nx) (hj : j < nx) (hij : i ≠ j) (p e pos err : Int) :
  RetX Tryz.prog 63 [.u (.oth (.iface 194 (.agg #[.int .i64 pos, .int .i64 err]))), .ptr i 0, .ptr j 0] [(i, .box [.u (.int .i64 p)]), (j, .box [.u (.int .i64 e)])] nx
   (fun r o n => r = .val (.u (.bool true)) ∧ o = [(i, .box [.u (.int .i64 pos)]), (j, .box [.u (.int .i64 err)])] ∧ n = nx) := by
 have hne := zaQ hi
 have hne2 := zaQ hj
 (refine RetX.of_bodyW Tryz.func63 rfl (by simp) fun Γ hn hpan => ?_); simp only [entry, List.zipIdx_cons, List.zipIdx_nil, List.map_cons, List.map_nil, Nat.zero_add, Tryz.ntmps63]
 repeat' (first
  | (refine zag ?_; simp [hne, hne2, hij, Ne.symm hij])
  | (refine zaN rfl ?_; simp [hne, hne2, hij, Ne.symm hij])
  | (refine zbu rfl ?_; simp [hne, hne2, hij, Ne.symm hij])
  | (refine zaj ?_; simp [hne, hne2, hij, Ne.symm hij])
  | (refine zah ?_; simp [hne, hne2, hij, Ne.symm hij])
  | (refine zai ?_; simp [hne, hne2, hij, Ne.symm hij])
  | (refine zaS (hC _ (zcI [i, j] nx (by simp <;> omega) (by simp <;> omega) (by apply Exists.intro; apply And.intro; (focus (repeat' (first | exact KF.nil | exact KL.nil | apply KF.cons | apply KL.cons 0 rfl | apply KL.cons 1 rfl | apply KL.cons 2 rfl | apply KL.cons 3 rfl | apply KL.cons 4 rfl | apply KL.cons 5 rfl | apply KL.cons 6 rfl | apply KL.cons 7 rfl | apply KL.cons 8 rfl | apply KL.cons 9 rfl))); kernel_rfl))) (hk _ ?_); clear hC hk C k; simp only [zan])
  | (refine zaM rfl (by kernel_rfl) (by first | (simp [hn]; done) | (simp [hn]; omega) | fail) fun C k hC hk => ?_; simp [hne, hne2, hij, Ne.symm hij])
  | (refine zas ?_; simp only [zan])
  | (refine zaq ?_; simp only [zan])
  | fail)
 (refine EndW.here ?_; (first | (refine EndOK.fin (.inr rfl) ?_) | (refine EndOK.fin (.inl rfl) ?_)); simp [zaC, zaf, Tryz.results63, hne, hne2, hij, Ne.symm hij, hi, hj]; refine FinOK.cut [(i, .box [.u (.int .i64 pos)]), (j, .box [.u (.int .i64 err)])] (nx) (by simp [zaa, getK, zab, zac, Ob.under, D.under, zad, zae, hne, hne2, hij, Ne.symm hij, hi, hj] <;> omega) (by simp [D.under]) (by simp [hn]) ?_; try simp)
end Go.Proofs.YtepiegcjnaohjaaGreatDoor
namespace Go.Proofs.YtepiegcjnaohjaaGreatDoor
open Go Go.VL
theorem ziU {l : List Tok} (hl : TokOK l) {f p : Nat} (hE : zfi l f) (hf : 4 * (l.length - p) ≤ f) {t : Tok} (ht : l[p]? = some t) (hk : ¬ t.kind = 2) (h1 : isB l p [116, 114, 117, 101] = false) (h2 : isB l p [102, 97, 108, 115, 101] = false)
  (h3 : isB l p [109, 105, 110] = true) (h4 : isB l p [109, 97, 120] = false) {i nx : Nat} (hi : i < nx) :
  RetX Tryz.prog 283 [.ptr i 0] [(i, pOb l p)] nx (PPost l i nx zdD (zaW l (f + 1) p)) := zgn hl hE hf ht hk h1 h2 (.inr ⟨h3, h4⟩) hi
end Go.Proofs.YtepiegcjnaohjaaGreatDoor
namespace Go.Proofs.YtepiegcjnaohjaaGreatDoor
open Go Go.VL
attribute [local simp] HS zcR zb9 evPure opd uOf zaI St.put St.at getK binD binI binS binB nilD aggD zg9 zit lookD lookR zcz rangeS Go.VL.nextD Go.VL.nextS zcB ziI ziG zga zb6 mkV zbi zbh zcK zbg zbs zbB mapEff zdf zf6 Key.kk shiftI arith unD convD zdK loadD cellsAt fieldAddrD fieldD indexAddrD indexSlD arrAddr indexD sliceD cutD lenD minmaxD nilCheckD buildD fillD zbQ zcV zex setAll zcF zer zcs zhq zcq St.add zaU zbO rowsOf zdE zco zax zac zaa zby zdg za8 entry zbq zbv valD zb7 zcp zgE zdc zdd zbU zbJ zaA zaY zbt delAll effD St.effS zc4 zbj zbb zc5 zbk zbd zcm zbc za0 zcn zcW zbP zch zbw zcf zcg zaP mkD zbR zbF zbI zaA zcr D.ids Op.operands Call.operands zbN makeIfD makeFuncD typeAssertD zis zdw zdx zhx zcA IntKind.bits zcC List.take_of_length_le List.range_succ
attribute [local irreducible] V G H HD HD2 HD4 zmv RetX zan Eff CallP CallV EndOK Fun Ret FinOK LoopI LoopW EndW
theorem zhO {l : List Tok} (hl : TokOK l) {f p : Nat} {t : Tok} (ht : l[p]? = some t) (hk : ¬ t.kind = 2) (h1 : isB l p [116, 114, 117, 101] = false) (h2 : isB l p [102, 97, 108, 115, 101] = false)
  (h3 : isB l p [109, 105, 110] = false) (h4 : isB l p [109, 97, 120] = false) (h5 : isB l p [40] = false) {i nx : Nat} (hi : i < nx) :
  RetX Tryz.prog 283 [.ptr i 0] [(i, pOb l p)] nx (PPost l i nx zdD (zaW l (f + 1) p)) := by
 have hne := zaQ hi
 have hp := (List.getElem?_eq_some_iff.1 ht).1
 have hnx := zbS l p t ht hl.len
 have hll := hl.len
 rw [zaW, ht]
 have hh1 := fun nx' (h : nx ≤ nx') => za7 l p [116, 114, 117, 101] i nx' (by omega) hp hl.len
 have hh2 := fun nx' (h : nx ≤ nx') => za7 l p [102, 97, 108, 115, 101] i nx' (by omega) hp hl.len
 have hm1 := zdC l p [109, 105, 110] hp hl.len
 have hm2 := zdC l p [109, 97, 120] hp hl.len
 have hh3 := fun nx' (h : nx ≤ nx') => za7 l p [40] i nx' (by omega) hp hl.len
 have hnm := zfp t.text
 have hc1 := fun nx' (h : nx ≤ nx') => zd9 l p 12 i nx' (by omega)
 have hc2 := fun nx' (h : nx ≤ nx') => zcT l p t 12 i nx' (by omega) ht hl.len
 simp only [hk, h1, h2, h3, h4, h5, if_false, if_true, Bool.false_eq_true, or_self] at hh1 hh2 hm1 hm2 hh3 ⊢
 by_cases hw : t.kind = 1
 ·cases hb : zdu t.text with
  | true =>
   simp only [hb, hw, and_self, if_true] at hnm ⊢
   (refine RetX.of_bodyW Tryz.func283 rfl (by simp) fun Γ hn hpan => ?_); simp only [entry, List.zipIdx_cons, List.zipIdx_nil, List.map_cons, List.map_nil, Nat.zero_add, Tryz.ntmps283]
   repeat' (first
  | (refine zag ?_; simp [hne, hk, hw, del, Nat.add_assoc])
  | (refine zaj ?_; simp [hne, hk, hw, del, Nat.add_assoc])
  | (refine ⟨by omega, ?_⟩)
  | (refine zah ?_; simp [hne, hk, hw, del, Nat.add_assoc])
  | (refine zai ?_; simp [hne, hk, hw, del, Nat.add_assoc])
  | (refine zas ?_; simp only [zan])
  | (refine zaq ?_; simp only [zan])
  | (refine CallP.fun_ (hnx) (by first | rfl | fail) (by first | assumption | (simp; done) | fail) (by first | (simp [hne, hk, hw, del, Nat.add_assoc]; done) | (simp [hne, hk, hw, del, Nat.add_assoc]; rfl) | fail) (by first | (simp; done) | fail) (fun d hd => ?_); subst hd; (try simp [hne, hk, hw, del, Nat.add_assoc]))
  | (refine CallP.fun_ (hm1) (by first | rfl | fail) (by first | assumption | (simp; done) | fail) (by first | (simp [hne, hk, hw, del, Nat.add_assoc]; done) | (simp [hne, hk, hw, del, Nat.add_assoc]; rfl) | fail) (by first | (simp; done) | fail) (fun d hd => ?_); subst hd; (try simp [hne, hk, hw, del, Nat.add_assoc]))
  | (refine CallP.fun_ (hm2) (by first | rfl | fail) (by first | assumption | (simp; done) | fail) (by first | (simp [hne, hk, hw, del, Nat.add_assoc]; done) | (simp [hne, hk, hw, del, Nat.add_assoc]; rfl) | fail) (by first | (simp; done) | fail) (fun d hd => ?_); subst hd; (try simp [hne, hk, hw, del, Nat.add_assoc]))
  | (refine CallP.fun_ (hnm) (by first | rfl | fail) (by first | assumption | (simp; done) | fail) (by first | (simp [hne, hk, hw, del, Nat.add_assoc]; done) | (simp [hne, hk, hw, del, Nat.add_assoc]; rfl) | fail) (by first | (simp; done) | fail) (fun d hd => ?_); subst hd; (try simp [hne, hk, hw, del, Nat.add_assoc]))
  | (refine CallP.ok1 (hh1 _ (by first | omega | (simp; done) | (simp; omega) | fail)) (by first | (simp [hne, hk, hw, del, Nat.add_assoc, zaa, getK, zab, zac]; done) | fail) (by rfl) (by first | assumption | (simp; done) | fail) (by rfl) (by simp) ?_; (try simp [hne, hk, hw, del, Nat.add_assoc]))
  | (refine CallP.ok1 (hh2 _ (by first | omega | (simp; done) | (simp; omega) | fail)) (by first | (simp [hne, hk, hw, del, Nat.add_assoc, zaa, getK, zab, zac]; done) | fail) (by rfl) (by first | assumption | (simp; done) | fail) (by rfl) (by simp) ?_; (try simp [hne, hk, hw, del, Nat.add_assoc]))
  | (refine CallP.ok1 (hh3 _ (by first | omega | (simp; done) | (simp; omega) | fail)) (by first | (simp [hne, hk, hw, del, Nat.add_assoc, zaa, getK, zab, zac]; done) | fail) (by rfl) (by first | assumption | (simp; done) | fail) (by rfl) (by simp) ?_; (try simp [hne, hk, hw, del, Nat.add_assoc]))
  | (refine CallP.ok1 (hc1 _ (by first | omega | (simp; done) | (simp; omega) | fail)) (by first | (simp [hne, hk, hw, del, Nat.add_assoc, zaa, getK, zab, zac]; done) | fail) (by rfl) (by first | assumption | (simp; done) | fail) (by rfl) (by simp) ?_; (try simp [hne, hk, hw, del, Nat.add_assoc]))
  | fail)
   refine EndW.norm ?_
   simp [St.norm, za1, zbz, zbL, zbM, hne]
   (refine EndW.here ?_; (first | (refine EndOK.fin (.inr rfl) ?_) | (refine EndOK.fin (.inl rfl) ?_)); simp [zaC, zaf, Tryz.results283, hne, hi]; refine FinOK.cut [(i, pOb l (p + 1))] (nx) (by simp [zaa, getK, zab, zac, Ob.under, D.under, zad, zae, hne, hi] <;> omega) (by simp [D.under]) (by simp [hn]) ?_; try simp)
   exact PPost.zb2 rfl (by simp [Exp.row]) rfl
  | false =>
   simp only [hb, hw, Bool.false_eq_true, and_false, if_false] at hnm ⊢
   (refine RetX.of_bodyW Tryz.func283 rfl (by simp) fun Γ hn hpan => ?_); simp only [entry, List.zipIdx_cons, List.zipIdx_nil, List.map_cons, List.map_nil, Nat.zero_add, Tryz.ntmps283]
   repeat' (first
  | (refine zag ?_; simp [hne, hk, hw, del, Nat.add_assoc])
  | (refine zaj ?_; simp [hne, hk, hw, del, Nat.add_assoc])
  | (refine zah ?_; simp [hne, hk, hw, del, Nat.add_assoc])
  | (refine zai ?_; simp [hne, hk, hw, del, Nat.add_assoc])
  | (refine zaq ?_; simp only [zan])
  | (refine CallP.fun_ (hnx) (by first | rfl | fail) (by first | assumption | (simp; done) | fail) (by first | (simp [hne, hk, hw, del, Nat.add_assoc]; done) | (simp [hne, hk, hw, del, Nat.add_assoc]; rfl) | fail) (by first | (simp; done) | fail) (fun d hd => ?_); subst hd; (try simp [hne, hk, hw, del, Nat.add_assoc]))
  | (refine CallP.fun_ (hm1) (by first | rfl | fail) (by first | assumption | (simp; done) | fail) (by first | (simp [hne, hk, hw, del, Nat.add_assoc]; done) | (simp [hne, hk, hw, del, Nat.add_assoc]; rfl) | fail) (by first | (simp; done) | fail) (fun d hd => ?_); subst hd; (try simp [hne, hk, hw, del, Nat.add_assoc]))
  | (refine CallP.fun_ (hm2) (by first | rfl | fail) (by first | assumption | (simp; done) | fail) (by first | (simp [hne, hk, hw, del, Nat.add_assoc]; done) | (simp [hne, hk, hw, del, Nat.add_assoc]; rfl) | fail) (by first | (simp; done) | fail) (fun d hd => ?_); subst hd; (try simp [hne, hk, hw, del, Nat.add_assoc]))
  | (refine CallP.fun_ (hnm) (by first | rfl | fail) (by first | assumption | (simp; done) | fail) (by first | (simp [hne, hk, hw, del, Nat.add_assoc]; done) | (simp [hne, hk, hw, del, Nat.add_assoc]; rfl) | fail) (by first | (simp; done) | fail) (fun d hd => ?_); subst hd; (try simp [hne, hk, hw, del, Nat.add_assoc]))
  | (refine CallP.ok1 (hh1 _ (by first | omega | (simp; done) | (simp; omega) | fail)) (by first | (simp [hne, hk, hw, del, Nat.add_assoc, zaa, getK, zab, zac]; done) | fail) (by rfl) (by first | assumption | (simp; done) | fail) (by rfl) (by simp) ?_; (try simp [hne, hk, hw, del, Nat.add_assoc]))
  | (refine CallP.ok1 (hh2 _ (by first | omega | (simp; done) | (simp; omega) | fail)) (by first | (simp [hne, hk, hw, del, Nat.add_assoc, zaa, getK, zab, zac]; done) | fail) (by rfl) (by first | assumption | (simp; done) | fail) (by rfl) (by simp) ?_; (try simp [hne, hk, hw, del, Nat.add_assoc]))
  | (refine CallP.ok1 (hh3 _ (by first | omega | (simp; done) | (simp; omega) | fail)) (by first | (simp [hne, hk, hw, del, Nat.add_assoc, zaa, getK, zab, zac]; done) | fail) (by rfl) (by first | assumption | (simp; done) | fail) (by rfl) (by simp) ?_; (try simp [hne, hk, hw, del, Nat.add_assoc]))
  | (refine CallP.zed (hc2 _ (by first | omega | (simp; done) | (simp; omega) | fail)) (by first | (simp [hne, hk, hw, del, Nat.add_assoc, zaa, getK, zab, zac]; done) | fail) (by rfl) (by first | assumption | (simp; done) | fail) (by rfl) (by simp) ?_; rintro ob' ⟨q', rfl⟩; refine ⟨_, Wk.refl _, ?_⟩)
  | fail)
   (refine hpan _ _ ⟨{ n := _, env := [], obs := [(i, pOb l q')], next := nx }, (Wk.cut rfl (by simp [hn]) (by simp [wkO, zaa, getK, zab, zac, Ob.under, D.under, zad, zae, hi, hne, zab, zac, zaa, getK]) (by simp [wkU, zak, zaa, getK, D.under, hi, hne, zab, zac, zaa, getK]) (by simp [wkE, zak, zaa, getK, hi, hne, zab, zac, zaa, getK])), by simp [hn], ?_⟩; try simp)
   exact PPost.zaB rfl
 ·simp only [hw, false_and, if_false]
  (refine RetX.of_bodyW Tryz.func283 rfl (by simp) fun Γ hn hpan => ?_); simp only [entry, List.zipIdx_cons, List.zipIdx_nil, List.map_cons, List.map_nil, Nat.zero_add, Tryz.ntmps283]
  repeat' (first
  | (refine zag ?_; simp [hne, hk, hw, del, Nat.add_assoc])
  | (refine zaj ?_; simp [hne, hk, hw, del, Nat.add_assoc])
  | (refine zah ?_; simp [hne, hk, hw, del, Nat.add_assoc])
  | (refine zai ?_; simp [hne, hk, hw, del, Nat.add_assoc])
  | (refine zaq ?_; simp only [zan])
  | (refine CallP.fun_ (hnx) (by first | rfl | fail) (by first | assumption | (simp; done) | fail) (by first | (simp [hne, hk, hw, del, Nat.add_assoc]; done) | (simp [hne, hk, hw, del, Nat.add_assoc]; rfl) | fail) (by first | (simp; done) | fail) (fun d hd => ?_); subst hd; (try simp [hne, hk, hw, del, Nat.add_assoc]))
  | (refine CallP.fun_ (hm1) (by first | rfl | fail) (by first | assumption | (simp; done) | fail) (by first | (simp [hne, hk, hw, del, Nat.add_assoc]; done) | (simp [hne, hk, hw, del, Nat.add_assoc]; rfl) | fail) (by first | (simp; done) | fail) (fun d hd => ?_); subst hd; (try simp [hne, hk, hw, del, Nat.add_assoc]))
  | (refine CallP.fun_ (hm2) (by first | rfl | fail) (by first | assumption | (simp; done) | fail) (by first | (simp [hne, hk, hw, del, Nat.add_assoc]; done) | (simp [hne, hk, hw, del, Nat.add_assoc]; rfl) | fail) (by first | (simp; done) | fail) (fun d hd => ?_); subst hd; (try simp [hne, hk, hw, del, Nat.add_assoc]))
  | (refine CallP.ok1 (hh1 _ (by first | omega | (simp; done) | (simp; omega) | fail)) (by first | (simp [hne, hk, hw, del, Nat.add_assoc, zaa, getK, zab, zac]; done) | fail) (by rfl) (by first | assumption | (simp; done) | fail) (by rfl) (by simp) ?_; (try simp [hne, hk, hw, del, Nat.add_assoc]))
  | (refine CallP.ok1 (hh2 _ (by first | omega | (simp; done) | (simp; omega) | fail)) (by first | (simp [hne, hk, hw, del, Nat.add_assoc, zaa, getK, zab, zac]; done) | fail) (by rfl) (by first | assumption | (simp; done) | fail) (by rfl) (by simp) ?_; (try simp [hne, hk, hw, del, Nat.add_assoc]))
  | (refine CallP.ok1 (hh3 _ (by first | omega | (simp; done) | (simp; omega) | fail)) (by first | (simp [hne, hk, hw, del, Nat.add_assoc, zaa, getK, zab, zac]; done) | fail) (by rfl) (by first | assumption | (simp; done) | fail) (by rfl) (by simp) ?_; (try simp [hne, hk, hw, del, Nat.add_assoc]))
  | (refine CallP.zed (hc2 _ (by first | omega | (simp; done) | (simp; omega) | fail)) (by first | (simp [hne, hk, hw, del, Nat.add_assoc, zaa, getK, zab, zac]; done) | fail) (by rfl) (by first | assumption | (simp; done) | fail) (by rfl) (by simp) ?_; rintro ob' ⟨q', rfl⟩; refine ⟨_, Wk.refl _, ?_⟩)
  | fail)
  (refine hpan _ _ ⟨{ n := _, env := [], obs := [(i, pOb l q')], next := nx }, (Wk.cut rfl (by simp [hn]) (by simp [wkO, zaa, getK, zab, zac, Ob.under, D.under, zad, zae, hi, hne, zab, zac, zaa, getK]) (by simp [wkU, zak, zaa, getK, D.under, hi, hne, zab, zac, zaa, getK]) (by simp [wkE, zak, zaa, getK, hi, hne, zab, zac, zaa, getK])), by simp [hn], ?_⟩; try simp)
  exact PPost.zaB rfl
theorem zjH {l : List Tok} {p : Nat} {w : List UInt8} {t : Tok} (ht : l[p]? = some t) (h : isB l p w = true) : t.text = w := by
 unfold isB at h
 rw [ht] at h
 simp only [Bool.and_eq_true, decide_eq_true_eq] at h
 exact h.2
theorem zhN {l : List Tok} (hl : TokOK l) {f : Nat} (hE : zfi l f) : zgH l (f + 1) := by
 intro p i nx hi hp hf
 obtain ⟨t, ht⟩ : ∃ t, l[p]? = some t := ⟨_, List.getElem?_eq_getElem hp⟩
 by_cases hk : t.kind = 2
 ·exact ziT hl ht hk hi
 cases h1 : isB l p [116, 114, 117, 101] with
 | true => exact zhM hl ht hk h1 hi
 | false =>
 cases h2 : isB l p [102, 97, 108, 115, 101] with
 | true => exact zgU hl ht hk h1 h2 hi
 | false =>
 cases h3 : isB l p [109, 105, 110] with
 | true =>
  cases h4 : isB l p [109, 97, 120] with
  | true => exact absurd ((zjH ht h3).symm.trans (zjH ht h4)) (by decide)
  | false => exact ziU hl hE (by omega) ht hk h1 h2 h3 h4 hi
 | false =>
 cases h4 : isB l p [109, 97, 120] with
 | true => exact ziV hl hE (by omega) ht hk h1 h2 h3 h4 hi
 | false =>
 cases h5 : isB l p [40] with
 | true => exact zgT hl hE (by omega) ht hk h1 h2 h3 h4 h5 hi
 | false => exact zhO hl ht hk h1 h2 h3 h4 h5 hi
end Go.Proofs.YtepiegcjnaohjaaGreatDoor
namespace Go.VL
open Go
/-- A slice within a struct that came in has a length that an int holds. -/
theorem zpd {P : Program} {Γ : Ctx} {c : Code} {s : St} {Q : Exit → St → Prop} {x j : Nat} {cells : List U} {rows : List (List U)} (hx : getK s.env x = some (.u (.agg cells))) (hj : cells[j]? = some (.sl rows)) (h : rows.length ≤ 9223372036854775807 → V P Γ c s Q) : V P Γ c s Q :=
 zmr (fun K a w hs => by
  have hr := (hs.getK hx).2
  obtain ⟨vs, hl, _, hr⟩ := zcZ hr
  have hr := hr j _ hj
  generalize vs.getD j undef = v at hr
  cases hr with
  | slE => simp
  | sl _ b o sz c f hc hcx => unfold maxLen at hcx; omega) h
end Go.VL
namespace Go.Proofs.YtepiegcjnaohjaaGreatDoor
open Go Go.VL
attribute [local simp] zcR zb9 evPure opd uOf zaI St.put St.at getK binD binI binS binB nilD aggD zg9 zit lookD lookR zcz rangeS Go.VL.nextD Go.VL.nextS zcB ziI ziG zga zb6 mkV zbi zbh zcK zbg zbs zbB mapEff zdf zf6 Key.kk shiftI arith unD convD zdK loadD cellsAt fieldAddrD fieldD indexAddrD indexSlD arrAddr indexD sliceD cutD lenD minmaxD nilCheckD buildD fillD zbQ zcV zex setAll zcF zer zcs zhq zcq St.add zaU zbO rowsOf zdE zco zax zac zaa zby zdg za8 entry zbq zbv valD zb7 zcp zgE zdc zdd zbU zbJ zaA zaY zbt delAll effD St.effS zc4 zbj zbb zc5 zbk zbd zcm zbc za0 zcn zcW zbP zch zbw zcf zcg zaP mkD zbR zbF zbI zaA zcr D.ids Op.operands Call.operands zbN makeIfD makeFuncD typeAssertD zis zdw zdx zhx zcA IntKind.bits zcC List.take_of_length_le List.range_succ
attribute [local irreducible] V G H HD HD2 zan Eff CallP CallV EndOK Fun Ret FinOK LoopI LoopW EndW
theorem zlk {l : List Tok} (hl : TokOK l) : ∀ f, zfi l f ∧ zoz l f ∧ zgH l f := by
 intro f
 induction f using Nat.strongRecOn with
 | _ f ih =>
  cases f with
  | zero => exact ⟨fun p form i nx _ _ h => by omega, fun p form i nx _ _ h => by omega, fun p i nx _ _ h => by omega⟩
  | succ f =>
   obtain ⟨h1, h2, h3⟩ := ih f (by omega)
   exact ⟨zne hl (fun g hg => (ih g (by omega)).1) h2, ziW hl h1 h3, zhN hl h1⟩
def Exp.lev : Exp → Int
 | .mk _ _ _ _ args => (args.map fun e => e.lev).foldl max 0 + 1
theorem Exp.zf5 (e : Exp) : e.lev = (e.args.map Exp.lev).foldl max 0 + 1 := by
 cases e with
 | mk op n u s args => rw [Exp.lev]; rfl
theorem zbW : ∀ (l : List Int) (a : Int), a ≤ l.foldl max a ∧ ∀ x ∈ l, x ≤ l.foldl max a
 | [], a => ⟨by simp, fun x h => by simp at h⟩
 | b :: l, a => by
  obtain ⟨h1, h2⟩ := zbW l (max a b)
  refine ⟨by simp only [List.foldl_cons]; omega, fun x hx => ?_⟩
  rcases List.mem_cons.1 hx with rfl | hx
  ·simp only [List.foldl_cons]; omega
  ·exact h2 x hx
theorem Exp.lev_pos (e : Exp) : 1 ≤ e.lev := by
 rw [Exp.zf5]
 have := (zbW (e.args.map Exp.lev) 0).1
 omega
theorem Exp.zjq {e x : Exp} (h : x ∈ e.args) : SizeOf.sizeOf x < SizeOf.sizeOf e := by
 cases e with
 | mk op n u s args =>
  have := List.sizeOf_lt_of_mem h
  simp only [Exp.args] at this
  simp only [Exp.mk.sizeOf_spec]
  omega
theorem zkn : ∀ (n : Nat) (e : Exp), SizeOf.sizeOf e ≤ n → e.lev ≤ 1000000000 → Fun Tryz.prog 204 [.u (.agg e.row)] (· = .u (.int .i64 e.lev)) := by
 intro n
 induction n with
 | zero =>
  intro e h
  cases e with
  | mk op n u s args => simp only [Exp.mk.sizeOf_spec] at h; omega
 | succ n ih =>
  intro e hs he
  have hx : ∀ x ∈ e.args, Fun Tryz.prog 204 [.u (.agg [.int .i64 x.op, .int .i64 x.n, .int .i64 x.unit, .str x.s, .sl (x.args.map Exp.row)])] (· = .u (.int .i64 x.lev)) := fun x hx => by
   rw [← Exp.row_eq]
   refine ih x (by have := Exp.zjq hx; omega) ?_
   have := (zbW (e.args.map Exp.lev) 0).2 x.lev (List.mem_map.2 ⟨x, hx, rfl⟩)
   rw [Exp.zf5] at he
   omega
  have hlb : ∀ k, ((e.args.map Exp.lev).take k).foldl max 0 ≤ 1000000000 := fun k => by
   rw [← List.map_take]
   rw [Exp.zf5] at he
   have h2 : (e.args.map Exp.lev).foldl max 0 = (e.args.drop k |>.map Exp.lev).foldl max ((e.args.take k |>.map Exp.lev).foldl max 0) := by
    rw [← List.foldl_append, ← List.map_append, List.take_append_drop]
   have := (zbW (e.args.drop k |>.map Exp.lev) ((e.args.take k |>.map Exp.lev).foldl max 0)).1
   omega
  rw [Exp.row_eq, Exp.zf5]
  generalize hA : e.args = A at *
  rw [Exp.zf5, hA] at he
  (refine Fun.of_body Tryz.func204 rfl (by simp) fun Γ hn => ?_); simp only [entry, List.zipIdx_cons, List.zipIdx_nil, List.map_cons, List.map_nil, Nat.zero_add, Tryz.ntmps204]
  refine zpd (x := 0) (j := 4) rfl rfl fun hl => ?_
  simp at hl
  repeat' (first
  | (refine zag ?_; simp)
  | (refine zaj ?_; simp)
  | (refine zah ?_; simp)
  | (refine zau ?_; simp)
  | fail)
  refine zbr (α := { k : Nat // k ≤ A.length }) [0, 1, 2, 7, 8] (fun k => [(9, .u (.int .i64 k.1)), (3, .u (.int .i64 (((A.map Exp.lev).take k.1).foldl max 0)))]) (fun k => A.length - k.1) ⟨0, by omega⟩ ?_ ?_
  ·exact (Wk.env rfl rfl rfl (by simp [wkE, St.lp, zak, zaa, getK] <;> (try (intros; simp_all; done)) <;> (try (intros; omega)) <;> (try grind)))
  rintro ⟨k, hk⟩
  simp [St.lp, St.only, zak, zaa, getK]
  rcases hy : A[k]? with _ | y
  ·have hge : A.length ≤ k := by simpa using hy
   have hb := hlb k
   rw [List.take_of_length_le (by simpa using hge : (A.map Exp.lev).length ≤ k)] at hb ⊢
   have hb0 := (zbW (A.map Exp.lev) 0).1
   generalize (A.map Exp.lev).foldl max 0 = M at *
   repeat' (first
  | (refine zag ?_; simp [hy])
  | (refine zaj ?_; simp [hy])
  | (refine ⟨by omega, ?_⟩)
  | (refine zah ?_; simp [hy])
  | (refine zas ?_; simp only [zan])
  | (refine zaZ ?_; simp [zan])
  | (intro hc <;> (try (exfalso; omega)))
  | fail)
   (refine EndOK.val (.inr rfl) ?_; simp [zaC, zaf, zaw, Tryz.results204])
  ·have hlt : k < A.length := (List.getElem?_eq_some_iff.1 hy).1
   have hfn := hx y (List.mem_of_getElem? hy)
   have ht : ((A.map Exp.lev).take (k + 1)).foldl max 0 = max (((A.map Exp.lev).take k).foldl max 0) y.lev := by
    rw [List.take_add_one, List.getElem?_map, hy]
    simp
   have hb := hlb (k + 1)
   rw [ht] at hb
   have hb0 := (zbW ((A.map Exp.lev).take k) 0).1
   generalize hM : ((A.map Exp.lev).take k).foldl max 0 = M at *
   have hyp := y.lev_pos
   repeat' (first
  | (refine zag ?_; simp [hy, Exp.row_eq])
  | (refine zaj ?_; simp [hy, Exp.row_eq])
  | (refine ⟨by omega, ?_⟩)
  | (refine zah ?_; simp [hy, Exp.row_eq])
  | (refine zap ?_; simp [hy, Exp.row_eq])
  | (refine zaq ?_; simp only [zan])
  | (refine ⟨?_, by omega⟩)
  | (intro hc <;> (try (exfalso; omega)))
  | (refine CallP.fun_ (hfn) (by first | rfl | fail) (by first | assumption | (simp; done) | fail) (by first | (simp [hy, Exp.row_eq]; done) | (simp [hy, Exp.row_eq]; rfl) | fail) (by first | (simp; done) | fail) (fun d hd => ?_); subst hd; (try simp [hy, Exp.row_eq]))
  | fail)
   refine LoopW.next ⟨k + 1, hlt⟩ (by show A.length - (k + 1) < A.length - k; omega) ?_
   exact (Wk.cut rfl (by simp [hn, St.lp]) (by simp [wkO, St.lp, zaa, getK, Ob.under, D.under, zad, zae, ht]) (by simp [wkU, St.lp, zak, zaa, getK, D.under, ht]) (by simp [wkE, St.lp, zak, zaa, getK, ht] <;> (try (intros; simp_all; done)) <;> (try (intros; omega)) <;> (try grind)))
end Go.Proofs.YtepiegcjnaohjaaGreatDoor
namespace Go.Proofs.YtepiegcjnaohjaaGreatDoor
open Go Go.VL
def zoK (l : List Tok) (p : Nat) (least most : Int) : PR Int := match l[p]? with
 | none => .stop 0 0
 | some t => if t.kind = 2 then if least ≤ t.n ∧ t.n ≤ most then .ok t.n (p + 1) else .stop t.pos 3 else .stop t.pos 12
def zdh (l : List Tok) (p : Nat) (word : W8) (least most : Int) (behind : List W8) : PR Int :=
 if isB l p word = true then (zoK l (p + 1) least most).bind fun n q => (zbA l q behind).bind fun _ r => .ok n r else .ok 0 p
def zdA (l : List Tok) (p : Nat) : PR Exp := (zdF l (4 * l.length + 3) p 0).bind fun e q =>
 if isB l q [59] = true then if e.lev ≤ 12 then .ok e (q + 1) else .stop (zcQ l q) 6 else .stop (zcQ l q) 12
def zi7 (l : List Tok) (p : Nat) : PR (Int × Bool) := (zbA l p [[99, 105, 114, 99, 108, 101]]).bind fun _ q =>
 if isB l q [114, 111, 116, 97, 116, 105, 110, 103] = true then (zbA l (q + 1) [[59]]).bind fun _ r => .ok (0, false) r
 else if isB l q [115, 97, 118, 105, 110, 103] = true then (zbA l (q + 1) [[59]]).bind fun _ r => .ok (2, false) r
 else (zbA l q [[98, 105, 100, 100, 105, 110, 103]]).bind fun _ r => if isB l r [115, 101, 97, 108, 101, 100] = true then (zbA l (r + 1) [[59]]).bind fun _ r => .ok (1, true) r else (zbA l r [[59]]).bind fun _ r => .ok (1, false) r
def ordersW : List W8 := [[106, 111, 105, 110], [100, 114, 97, 119], [110, 101, 101, 100]]
def zfI (l : List Tok) (p : Nat) : PR Int :=
 if isB l p [111, 114, 100, 101, 114] = true then match ordersW.findIdx? fun w => isB l (p + 1) w with
  | some i => (zbA l (p + 2) [[59]]).bind fun _ r => .ok i r
  | none => .stop (zcQ l (p + 1)) 12
 else .ok 0 p
def zfP (l : List Tok) : Nat → Nat → List Let → PR (List Let)
 | 0, _, _ => .stop 0 0
 | f + 1, p, acc => if isB l p [108, 101, 116] = true then
   if acc.length < 20 then match l[p + 1]? with
    | none => .stop 0 0
    | some t => if t.kind = 1 ∧ zdu t.text = true then
          if (acc.any fun x => decide (x.name = t.text)) = true then .stop t.pos 5
          else (zbA l (p + 2) [[61]]).bind fun _ q => (zdA l q).bind fun e r => zfP l f r (acc ++ [⟨t.text, e⟩])
     else .stop t.pos 12
   else .stop (zcQ l p) 6
  else .ok acc p
def nothingE : Exp := .mk 0 0 3 [] []
def zdb (l : List Tok) (p : Nat) (word : W8) : PR Exp := if isB l p word = true then zdA l (p + 1) else .ok nothingE p
def zi3 (l : List Tok) (p : Nat) (word : W8) : PR Unit := if isB l p word = true then .ok () p else .stop (zcQ l p) 12
def zon (l : List Tok) (p : Nat) : PR Unit := match l[p]? with | some t => if t.kind = 0 then .ok () p else .stop t.pos 12 | none => .stop 0 0
def zor (l : List Tok) : PR By :=
 (zi7 l 0).bind fun k p => (zi3 l p [112, 101, 114, 105, 111, 100]).bind fun _ p => (zdh l p [112, 101, 114, 105, 111, 100] 1 1000 [[100, 97, 121, 115], [59]]).bind fun period p =>
 (zi3 l p [108, 97, 115, 116]).bind fun _ p => (zdh l p [108, 97, 115, 116] 1 1000 [[59]]).bind fun last p =>
 (zdh l p [103, 114, 97, 99, 101] 0 1000 [[100, 97, 121, 115], [59]]).bind fun grace p => (zdh l p [119, 97, 105, 116] 0 1000 [[100, 97, 121, 115], [59]]).bind fun wait p =>
 (zfI l p).bind fun order p => (zdh l p [98, 97, 99, 107, 115] 0 60 [[59]]).bind fun backs p => (zdh l p [118, 111, 105, 99, 101, 115] 0 1000 [[112, 101, 114], [109, 105, 108, 108, 101], [59]]).bind fun voices p =>
 (zdh l p [106, 117, 114, 121] 0 60 [[59]]).bind fun jury p => (zdh l p [102, 117, 110, 100] 0 1000 [[112, 101, 114], [109, 105, 108, 108, 101], [59]]).bind fun fund p =>
 (zfP l 21 p []).bind fun lets p => (zbA l p [[100, 117, 101]]).bind fun _ p => (zdA l p).bind fun due p =>
 (zdb l p [102, 105, 110, 101]).bind fun fine p => (zdb l p [112, 97, 121]).bind fun pay p => (zdb l p [99, 111, 118, 101, 114]).bind fun cover p => (zdb l p [104, 111, 108, 100]).bind fun hold p =>
 (zon l p).bind fun _ p => .ok ⟨k.1, period, grace, wait, last, order, k.2, backs, voices, jury, fund, lets, due, fine, pay, cover, hold⟩ p
/-- What may stand at a place: no other word. -/
def StopAt (l : List Tok) (p : Nat) (S : List W8) : Prop := ∀ v, v ∉ S → isB l p v = false
theorem StopAt.head {l p} {w : W8} {b : List W8} (h : Reads l p (w :: b)) : StopAt l p [w] := fun v hv => by
 rw [h.isB]; exact decide_eq_false fun e => hv (by simp [e])
end Go.Proofs.YtepiegcjnaohjaaGreatDoor
namespace Go.Proofs.YtepiegcjnaohjaaGreatDoor
open Go Go.VL
theorem zly {l : List Tok} {p q : Nat} {w : W8} {x : Unit} (h : zi3 l p w = .ok x q) : q = p ∧ isB l p w = true := by
 unfold zi3 at h
 split at h
 ·cases h; exact ⟨rfl, by assumption⟩
 ·cases h
def zkU (l : List Tok) (p : Nat) (b : Bool) (e : Int) : PR Unit := if b = true then .ok () p else .stop (zcQ l p) e
theorem zfZ (l : List Tok) (p : Nat) (b : Bool) (e : Int) (i nx : Nat) (hi : i < nx) (hp : p < l.length) (hl : TokOK l) :
  RetX Tryz.prog 123 [.ptr i 0, .u (.bool b), .u (.int .i64 e)] [(i, pOb l p)] nx (PPost l i nx (fun _ => .tup []) (zkU l p b e)) := by
 obtain ⟨t, ht⟩ : ∃ t, l[p]? = some t := ⟨_, List.getElem?_eq_getElem hp⟩
 have hpa : zcQ l p = t.pos := by unfold zcQ; rw [ht]
 unfold zkU
 cases b with
 | true => exact zd9 l p e i nx hi
 | false => rw [if_neg (by simp), hpa]; exact zcT l p t e i nx hi ht hl.len
theorem zjz (l : List Tok) (p : Nat) (w : W8) (i nx : Nat) (hi : i < nx) (hp : p < l.length) (hl : TokOK l) :
  RetX Tryz.prog 123 [.ptr i 0, .u (.bool (isB l p w)), .u (.int .i64 12)] [(i, pOb l p)] nx (PPost l i nx (fun _ => .tup []) (zi3 l p w)) := zfZ l p (isB l p w) 12 i nx hi hp hl
theorem zmj {l : List Tok} {p q : Nat} {b : Bool} {e : Int} {x : Unit} (h : zkU l p b e = .ok x q) : q = p ∧ b = true := by
 unfold zkU at h
 split at h
 ·cases h; exact ⟨rfl, by assumption⟩
 ·cases h
theorem zom {l : List Tok} {p : Nat} {t : Tok} (ht : l[p]? = some t) (i nx : Nat) (hi : i < nx) (hl : TokOK l) :
  RetX Tryz.prog 123 [.ptr i 0, .u (.bool (decide (t.kind = 0))), .u (.int .i64 12)] [(i, pOb l p)] nx (PPost l i nx (fun _ => .tup []) (zon l p)) := by
 have h := zfZ l p (decide (t.kind = 0)) 12 i nx hi (List.getElem?_eq_some_iff.1 ht).1 hl
 have e : zkU l p (decide (t.kind = 0)) 12 = zon l p := by
  unfold zkU zon zcQ
  rw [ht]
  simp
 rwa [e] at h
theorem zo6 {l : List Tok} {p q : Nat} {x : Unit} (h : zon l p = .ok x q) : q = p := by
 unfold zon at h
 split at h
 ·split at h
  ·cases h; rfl
  ·cases h
 ·cases h
/-- A step of the lets, by the parser's own checks. -/
theorem zko {l : List Tok} {f p : Nat} {acc : List Let} {t : Tok} (ht : l[p + 1]? = some t) : zfP l (f + 1) p acc = if isB l p [108, 101, 116] = true then
  (zkU l p (decide ((acc.length : Int) < 20)) 6).bind fun _ _ => (zkU l (p + 1) (decide (t.kind = 1) && zdu t.text) 12).bind fun _ _ =>
  (zkU l (p + 1) (!(acc.any fun x => decide (x.name = t.text))) 5).bind fun _ _ => (zbA l (p + 2) [[61]]).bind fun _ q => (zdA l q).bind fun e r => zfP l f r (acc ++ [⟨t.text, e⟩])
  else .ok acc p := by
 have hpa : zcQ l (p + 1) = t.pos := by unfold zcQ; rw [ht]
 rw [zfP, ht]
 unfold zkU
 rw [hpa]
 by_cases h1 : isB l p [108, 101, 116] = true
 ·rw [if_pos h1, if_pos h1]
  by_cases h2 : acc.length < 20
  ·rw [if_pos h2, if_pos (by simp; omega), PR.zaR]
   simp only
   by_cases h3 : t.kind = 1 ∧ zdu t.text = true
   ·have e3 : (decide (t.kind = 1) && zdu t.text) = true := by simp [h3]
    rw [if_pos h3, e3]
    simp only [if_true, PR.zaR]
    by_cases h4 : (acc.any fun x => decide (x.name = t.text)) = true
    ·have e4 : (!acc.any fun x => decide (x.name = t.text)) = false := by rw [h4]; rfl
     rw [if_pos h4, e4]
     rfl
    ·have e4 : (!acc.any fun x => decide (x.name = t.text)) = true := by simpa using h4
     rw [if_neg h4, e4]
     rfl
   ·have e3 : (decide (t.kind = 1) && zdu t.text) = false := by simpa using h3
    rw [if_neg h3, e3]
    rfl
  ·have e2 : decide ((acc.length : Int) < 20) = false := by simp; omega
   rw [if_neg h2, e2]
   rfl
 ·rw [if_neg h1, if_neg h1]
theorem zlL {l : List Tok} {f p : Nat} {acc : List Let} (h : ¬ isB l p [108, 101, 116] = true) : zfP l (f + 1) p acc = .ok acc p := by rw [zfP, if_neg h]
theorem PR.zdn {α β γ : Type} {r : PR α} {f : α → Nat → PR β} {g : β → Nat → PR γ} : (r.bind f).bind g = r.bind fun a p => (f a p).bind g := by cases r <;> rfl
/-- The lets as the rows of a slice. -/
def zfg (acc : List Let) : List (List U) := acc.map fun l => [.str l.name, .int .i64 l.body.op, .int .i64 l.body.n, .int .i64 l.body.unit, .str l.body.s, .sl (l.body.args.map Exp.row)]
theorem zlM (acc : List Let) : (zfg acc).length = acc.length := by simp [zfg]
theorem zkp (acc : List Let) (s : W8) (e : Exp) : zfg (acc ++ [⟨s, e⟩]) = zfg acc ++ [[.str s, .int .i64 e.op, .int .i64 e.n, .int .i64 e.unit, .str e.s, .sl (e.args.map Exp.row)]] := by simp [zfg]
abbrev byD (b : By) : D := .u (.agg (zao b))
end Go.Proofs.YtepiegcjnaohjaaGreatDoor
namespace Go.Proofs.YtepiegcjnaohjaaGreatDoor
open Go Go.VL
attribute [local simp] HS zcR zb9 evPure opd uOf zaI St.put St.at getK binD binI binS binB nilD aggD zg9 zit lookD lookR zcz rangeS Go.VL.nextD Go.VL.nextS zcB ziI ziG zga zb6 mkV zbi zbh zcK zbg zbs zbB mapEff zdf zf6 Key.kk shiftI arith unD convD zdK loadD cellsAt fieldAddrD fieldD indexAddrD indexSlD arrAddr indexD sliceD cutD lenD minmaxD nilCheckD buildD fillD zbQ zcV zex setAll zcF zer zcs zhq zcq St.add zaU zbO rowsOf zdE zco zax zac zaa zby zdg za8 entry zbq zbv valD zb7 zcp zgE zdc zdd zbU zbJ zaA zaY zbt delAll effD St.effS zc4 zbj zbb zc5 zbk zbd zcm zbc za0 zcn zcW zbP zch zbw zcf zcg zaP mkD zbR zbF zbI zaA zcr D.ids Op.operands Call.operands zbN makeIfD makeFuncD typeAssertD zis zdw zdx zhx zcA IntKind.bits zcC List.take_of_length_le List.range_succ
attribute [local irreducible] V G H HD HD2 HD4 zmv RetX zan Eff CallP CallV EndOK Fun Ret FinOK LoopI LoopW EndW
theorem zlH {s : List UInt8} : ∀ (f p : Nat) (l : List Tok), zlI f s p = .ok l → s.length < p + f → p ≤ s.length →
  (∀ (i : Nat) (t : Tok), l[i]? = some t → t.kind ≠ 0 → i + 1 < l.length) ∧ l.length ≤ s.length - p + 1 ∧ 0 < l.length
 | 0, p, l, _, h2, h3 => by omega
 | f + 1, p, l, h, h2, h3 => by
  rw [zlI] at h
  have hle := zcX zbG (s.drop p)
  rw [List.length_drop] at hle
  split at h
  ·cases h
   refine ⟨fun i t hi hk => ?_, by simp, by simp⟩
   rcases i with _ | i
   ·simp at hi
    subst hi
    exact absurd rfl hk
   ·simp at hi
  ·rename_i c r hd
   have hdl : (s.drop (p + zb1 zbG (s.drop p))).length = r.length + 1 := by rw [hd]; rfl
   rw [List.length_drop] at hdl
   split at h
   ·cases h
   ·rename_i t ht
    obtain ⟨ht1, ht2⟩ := zeR ht
    simp only [List.length_cons] at ht2
    split at h
    ·cases h
    ·rename_i l' hl'
     cases h
     obtain ⟨g1, g2, g3⟩ := zlH f _ l' hl' (by omega) (by omega)
     refine ⟨fun i t' hi hk => ?_, by simp only [List.length_cons]; omega, by simp⟩
     rcases i with _ | i
     ·simp; exact g3
     ·simp only [List.getElem?_cons_succ] at hi
      have := g1 i t' hi hk
      simp only [List.length_cons]
      omega
theorem zn9 {s : List UInt8} {l : List Tok} (h : zkT s = .ok l) : TokOK l ∧ l.length ≤ 2001 ∧ 0 < l.length := by
 unfold zkT at h
 split at h
 ·cases h
 ·obtain ⟨g1, g2, g3⟩ := zlH _ _ _ h (by omega) (by omega)
  exact ⟨⟨g1, by omega⟩, by omega, g3⟩
theorem Exp.ziD {op n u : Int} {s : List UInt8} {args : List Exp} {B : Int} (h : ∀ x ∈ args, x.lev ≤ B) (h0 : 0 ≤ B) : (Exp.mk op n u s args).lev ≤ B + 1 := by
 rw [Exp.zf5]
 simp only [Exp.args]
 have : ∀ (l : List Int) (a : Int), a ≤ B → (∀ x ∈ l, x ≤ B) → l.foldl max a ≤ B := by
  intro l
  induction l with
  | nil => intro a ha _; exact ha
  | cons b l ih => intro a ha hl; exact ih _ (by have := hl b (by simp); omega) fun x hx => hl x (by simp [hx])
 have := this (args.map Exp.lev) 0 h0 (fun x hx => by obtain ⟨y, hy, rfl⟩ := List.mem_map.1 hx; exact h y hy)
 omega
theorem zhU {l : List Tok} : ∀ (f : Nat),
  (∀ p form e q, zdF l f p form = .ok e q → e.lev ≤ f * f + 1) ∧
  (∀ form e own p e' q, zeb l f form e own p = .ok e' q → e'.lev ≤ max e.lev (f * f + 1) + f) ∧
  (∀ p form e q, zbn l f p form = .ok e q → e.1.lev ≤ f * f + 1) ∧
  (∀ p e q, zaW l f p = .ok e q → e.lev ≤ f * f + 1)
 | 0 => ⟨fun _ _ _ _ h => by simp [zdF] at h, fun _ _ _ _ _ _ h => by simp [zeb] at h, fun _ _ _ _ h => by simp [zbn] at h, fun _ _ _ h => by simp [zaW] at h⟩
 | f + 1 => by
  obtain ⟨he, hlo, hpr, hpm⟩ := zhU f
  have hsq : ((f + 1 : Nat) : Int) * ((f + 1 : Nat) : Int) = (f : Int) * f + 2 * f + 1 := by
   rw [show ((f + 1 : Nat) : Int) = (f : Int) + 1 by omega, Int.add_mul, Int.mul_add]; omega
  rw [hsq]
  have h0 : (0 : Int) ≤ (f : Int) * f := Int.mul_nonneg (by omega) (by omega)
  generalize hF : (f : Int) * f = F at *
  refine ⟨fun p form e q h => ?_, fun form e own p e' q h => ?_, fun p form e q h => ?_, fun p e q h => ?_⟩
  ·rw [zdF] at h
   obtain ⟨a, r, h1, h2⟩ := PR.zaG h
   have g1 := hpr _ _ _ _ h1
   have g2 := hlo _ _ _ _ _ _ h2
   omega
  ·rw [zeb] at h
   split at h
   ·cases h; omega
   ·split at h
    ·cases h; omega
    ·obtain ⟨a, r, h1, h2⟩ := PR.zaG h
     have g1 := he _ _ _ _ h1
     have g2 := hlo _ _ _ _ _ _ h2
     rename_i x _ _
     have g3 := Exp.ziD (op := x.op) (n := 0) (u := 0) (s := []) (args := [e, a]) (B := max e.lev (F + 1)) (by
      intro y hy
      simp only [List.mem_cons, List.not_mem_nil, or_false] at hy
      rcases hy with rfl | rfl <;> omega) (by omega)
     omega
  ·rw [zbn] at h
   split at h
   ·obtain ⟨a, r, h1, h⟩ := PR.zaG h
    obtain ⟨_, r2, h2, h⟩ := PR.zaG h
    obtain ⟨b, r3, h3, h⟩ := PR.zaG h
    obtain ⟨_, r4, h4, h⟩ := PR.zaG h
    obtain ⟨c, r5, h5, h⟩ := PR.zaG h
    cases h
    have g1 := he _ _ _ _ h1
    have g3 := he _ _ _ _ h3
    have g5 := he _ _ _ _ h5
    have := Exp.ziD (op := 13) (n := 0) (u := 0) (s := []) (args := [a, b, c]) (B := F + 1) (by
     intro y hy
     simp only [List.mem_cons, List.not_mem_nil, or_false] at hy
     rcases hy with rfl | rfl | rfl <;> omega) (by omega)
    simp only
    omega
   ·split at h
    ·obtain ⟨a, r, h1, h⟩ := PR.zaG h
     cases h
     have g1 := he _ _ _ _ h1
     have := Exp.ziD (op := 12) (n := 0) (u := 0) (s := []) (args := [a]) (B := F + 1) (by
      intro y hy
      simp only [List.mem_cons, List.not_mem_nil, or_false] at hy
      rcases hy with rfl; omega) (by omega)
     simp only
     omega
    ·obtain ⟨a, r, h1, h⟩ := PR.zaG h
     cases h
     have g1 := hpm _ _ _ h1
     simp only
     omega
  ·have leaf : ∀ (op n u : Int) (s : List UInt8), (Exp.mk op n u s []).lev ≤ F + 2 * f + 1 + 1 := fun op n u s => by
    have := Exp.ziD (op := op) (n := n) (u := u) (s := s) (args := []) (B := 0) (by simp) (by omega)
    omega
   rw [zaW] at h
   split at h
   ·cases h
   ·split at h
    ·obtain ⟨a, r, h1, h⟩ := PR.zaG h
     cases h; exact leaf ..
    split at h
    ·cases h; exact leaf ..
    split at h
    ·cases h; exact leaf ..
    split at h
    ·obtain ⟨_, r2, h2, h⟩ := PR.zaG h
     obtain ⟨a, r3, h3, h⟩ := PR.zaG h
     obtain ⟨_, r4, h4, h⟩ := PR.zaG h
     obtain ⟨b, r5, h5, h⟩ := PR.zaG h
     obtain ⟨_, r6, h6, h⟩ := PR.zaG h
     have g3 := he _ _ _ _ h3
     have g5 := he _ _ _ _ h5
     have := Exp.ziD (op := if isB l p [109, 97, 120] = true then 7 else 6) (n := 0) (u := 0) (s := []) (args := [a, b]) (B := F + 1) (by
      intro y hy
      simp only [List.mem_cons, List.not_mem_nil, or_false] at hy
      rcases hy with rfl | rfl <;> omega) (by omega)
     cases h
     omega
    split at h
    ·obtain ⟨a, r3, h3, h⟩ := PR.zaG h
     obtain ⟨_, r4, h4, h⟩ := PR.zaG h
     cases h
     have g3 := he _ _ _ _ h3
     omega
    split at h
    ·cases h; exact leaf ..
    ·cases h
def zo1 (l : List Tok) (p : Nat) : Int := match l[p]? with | some t => t.kind | none => 0
def zft : Exp := .mk 0 0 0 [] []
theorem zkg (l : List Tok) (p : Nat) (a b : Int) (i nx : Nat) (hi : i < nx) (hp : p < l.length) (hl : TokOK l) :
  RetX Tryz.prog 201 [.ptr i 0, zg3 a, zg3 b] [(i, pOb l p)] nx (PPost l i nx zg3 (zoK l p a b)) := by
 have hne := zaQ hi
 obtain ⟨t, ht⟩ : ∃ t, l[p]? = some t := ⟨_, List.getElem?_eq_getElem hp⟩
 have hnx := zbS l p t ht hl.len
 have hll := hl.len
 have hc1 := fun e nx' (h : nx ≤ nx') => zd9 l p e i nx' (by omega)
 have hc2 := fun e nx' (h : nx ≤ nx') => zcT l p t e i nx' (by omega) ht hl.len
 rw [zoK, ht]
 by_cases hk2 : t.kind = 2
 ·simp only [hk2, if_true]
  by_cases h1 : a ≤ t.n
  ·by_cases h2 : t.n ≤ b
   ·simp only [h1, h2, and_self, if_true]
    (refine RetX.of_bodyW Tryz.func201 rfl (by simp) fun Γ hn hpan => ?_); simp only [entry, List.zipIdx_cons, List.zipIdx_nil, List.map_cons, List.map_nil, Nat.zero_add, Tryz.ntmps201]
    repeat' (first
  | (refine zag ?_; simp [hne, hk2, h1, h2, del])
  | (refine zaj ?_; simp [hne, hk2, h1, h2, del])
  | (refine ⟨by omega, ?_⟩)
  | (refine zah ?_; simp [hne, hk2, h1, h2, del])
  | (refine zas ?_; simp only [zan])
  | (refine CallP.fun_ (hnx) (by first | rfl | fail) (by first | assumption | (simp; done) | fail) (by first | (simp [hne, hk2, h1, h2, del]; done) | (simp [hne, hk2, h1, h2, del]; rfl) | fail) (by first | (simp; done) | fail) (fun d hd => ?_); subst hd; (try simp [hne, hk2, h1, h2, del]))
  | (refine CallP.ok1 (hc1 _ _ (by first | omega | (simp; done) | (simp; omega) | fail)) (by first | (simp [hne, hk2, h1, h2, del, zaa, getK, zab, zac]; done) | fail) (by rfl) (by first | assumption | (simp; done) | fail) (by rfl) (by simp) ?_; (try simp [hne, hk2, h1, h2, del]))
  | fail)
    (refine EndW.here ?_; (first | (refine EndOK.fin (.inr rfl) ?_) | (refine EndOK.fin (.inl rfl) ?_)); simp [zaC, zaf, Tryz.results201, hne, hi]; refine FinOK.cut [(i, pOb l (p + 1))] (nx) (by simp [zaa, getK, zab, zac, Ob.under, D.under, zad, zae, hne, hi] <;> omega) (by simp [D.under]) (by simp [hn]) ?_; try simp)
    exact PPost.zb2 rfl rfl rfl
   ·simp only [h1, h2, and_false, if_false]
    (refine RetX.of_bodyW Tryz.func201 rfl (by simp) fun Γ hn hpan => ?_); simp only [entry, List.zipIdx_cons, List.zipIdx_nil, List.map_cons, List.map_nil, Nat.zero_add, Tryz.ntmps201]
    repeat' (first
  | (refine zag ?_; simp [hne, hk2, h1, h2, del])
  | (refine zaj ?_; simp [hne, hk2, h1, h2, del])
  | (refine zah ?_; simp [hne, hk2, h1, h2, del])
  | (refine CallP.fun_ (hnx) (by first | rfl | fail) (by first | assumption | (simp; done) | fail) (by first | (simp [hne, hk2, h1, h2, del]; done) | (simp [hne, hk2, h1, h2, del]; rfl) | fail) (by first | (simp; done) | fail) (fun d hd => ?_); subst hd; (try simp [hne, hk2, h1, h2, del]))
  | (refine CallP.ok1 (hc1 _ _ (by first | omega | (simp; done) | (simp; omega) | fail)) (by first | (simp [hne, hk2, h1, h2, del, zaa, getK, zab, zac]; done) | fail) (by rfl) (by first | assumption | (simp; done) | fail) (by rfl) (by simp) ?_; (try simp [hne, hk2, h1, h2, del]))
  | (refine CallP.zed (hc2 _ _ (by first | omega | (simp; done) | (simp; omega) | fail)) (by first | (simp [hne, hk2, h1, h2, del, zaa, getK, zab, zac]; done) | fail) (by rfl) (by first | assumption | (simp; done) | fail) (by rfl) (by simp) ?_; rintro ob' ⟨q', rfl⟩; refine ⟨_, Wk.refl _, ?_⟩)
  | fail)
    (refine hpan _ _ ⟨{ n := _, env := [], obs := [(i, pOb l q')], next := nx }, (Wk.cut rfl (by simp [hn]) (by simp [wkO, zaa, getK, zab, zac, Ob.under, D.under, zad, zae, hi, hne, zab, zac, zaa, getK]) (by simp [wkU, zak, zaa, getK, D.under, hi, hne, zab, zac, zaa, getK]) (by simp [wkE, zak, zaa, getK, hi, hne, zab, zac, zaa, getK])), by simp [hn], ?_⟩; try simp)
    exact PPost.zaB (by simp [PR.bind, *])
  ·simp only [h1, false_and, if_false]
   (refine RetX.of_bodyW Tryz.func201 rfl (by simp) fun Γ hn hpan => ?_); simp only [entry, List.zipIdx_cons, List.zipIdx_nil, List.map_cons, List.map_nil, Nat.zero_add, Tryz.ntmps201]
   repeat' (first
  | (refine zag ?_; simp [hne, hk2, h1, del])
  | (refine zaj ?_; simp [hne, hk2, h1, del])
  | (refine zah ?_; simp [hne, hk2, h1, del])
  | (refine CallP.fun_ (hnx) (by first | rfl | fail) (by first | assumption | (simp; done) | fail) (by first | (simp [hne, hk2, h1, del]; done) | (simp [hne, hk2, h1, del]; rfl) | fail) (by first | (simp; done) | fail) (fun d hd => ?_); subst hd; (try simp [hne, hk2, h1, del]))
  | (refine CallP.ok1 (hc1 _ _ (by first | omega | (simp; done) | (simp; omega) | fail)) (by first | (simp [hne, hk2, h1, del, zaa, getK, zab, zac]; done) | fail) (by rfl) (by first | assumption | (simp; done) | fail) (by rfl) (by simp) ?_; (try simp [hne, hk2, h1, del]))
  | (refine CallP.zed (hc2 _ _ (by first | omega | (simp; done) | (simp; omega) | fail)) (by first | (simp [hne, hk2, h1, del, zaa, getK, zab, zac]; done) | fail) (by rfl) (by first | assumption | (simp; done) | fail) (by rfl) (by simp) ?_; rintro ob' ⟨q', rfl⟩; refine ⟨_, Wk.refl _, ?_⟩)
  | fail)
   (refine hpan _ _ ⟨{ n := _, env := [], obs := [(i, pOb l q')], next := nx }, (Wk.cut rfl (by simp [hn]) (by simp [wkO, zaa, getK, zab, zac, Ob.under, D.under, zad, zae, hi, hne, zab, zac, zaa, getK]) (by simp [wkU, zak, zaa, getK, D.under, hi, hne, zab, zac, zaa, getK]) (by simp [wkE, zak, zaa, getK, hi, hne, zab, zac, zaa, getK])), by simp [hn], ?_⟩; try simp)
   exact PPost.zaB (by simp [PR.bind, *])
 ·simp only [hk2, if_false]
  (refine RetX.of_bodyW Tryz.func201 rfl (by simp) fun Γ hn hpan => ?_); simp only [entry, List.zipIdx_cons, List.zipIdx_nil, List.map_cons, List.map_nil, Nat.zero_add, Tryz.ntmps201]
  repeat' (first
  | (refine zag ?_; simp [hne, hk2, del])
  | (refine zaj ?_; simp [hne, hk2, del])
  | (refine zah ?_; simp [hne, hk2, del])
  | (refine CallP.fun_ (hnx) (by first | rfl | fail) (by first | assumption | (simp; done) | fail) (by first | (simp [hne, hk2, del]; done) | (simp [hne, hk2, del]; rfl) | fail) (by first | (simp; done) | fail) (fun d hd => ?_); subst hd; (try simp [hne, hk2, del]))
  | (refine CallP.zed (hc2 _ _ (by first | omega | (simp; done) | (simp; omega) | fail)) (by first | (simp [hne, hk2, del, zaa, getK, zab, zac]; done) | fail) (by rfl) (by first | assumption | (simp; done) | fail) (by rfl) (by simp) ?_; rintro ob' ⟨q', rfl⟩; refine ⟨_, Wk.refl _, ?_⟩)
  | fail)
  (refine hpan _ _ ⟨{ n := _, env := [], obs := [(i, pOb l q')], next := nx }, (Wk.cut rfl (by simp [hn]) (by simp [wkO, zaa, getK, zab, zac, Ob.under, D.under, zad, zae, hi, hne, zab, zac, zaa, getK]) (by simp [wkU, zak, zaa, getK, D.under, hi, hne, zab, zac, zaa, getK]) (by simp [wkE, zak, zaa, getK, hi, hne, zab, zac, zaa, getK])), by simp [hn], ?_⟩; try simp)
  exact PPost.zaB (by simp [PR.bind, *])
theorem zlr {l : List Tok} (hl : TokOK l) {p q : Nat} {a b n : Int} (h : zoK l p a b = .ok n q) : p ≤ q ∧ q < l.length := by
 unfold zoK at h
 split at h
 ·cases h
 ·rename_i t ht
  split at h
  ·rename_i hk2
   split at h
   ·cases h
    exact ⟨by omega, hl.fin p t ht (by omega)⟩
   ·cases h
  ·cases h
theorem zc0 (l : List Tok) (p : Nat) (w : List UInt8) (a b : Int) (ws : List (List UInt8)) (i nx : Nat) (hi : i < nx) (hp : p < l.length) (hl : TokOK l) (hw : ws.length ≤ 100) :
  RetX Tryz.prog 125 [.ptr i 0, .u (.str w), zg3 a, zg3 b, .u (.sl (ws.map fun w => [.str w]))] [(i, pOb l p)] nx (PPost l i nx zg3 (zdh l p w a b ws)) := by
 have hne := zaQ hi
 have hh1 := fun nx' (h : nx ≤ nx') => za7 l p w i nx' (by omega) hp hl.len
 rw [zdh]
 cases hb : isB l p w with
 | false =>
  simp only [hb, Bool.false_eq_true, if_false] at hh1 ⊢
  (refine RetX.of_bodyW Tryz.func125 rfl (by simp) fun Γ hn hpan => ?_); simp only [entry, List.zipIdx_cons, List.zipIdx_nil, List.map_cons, List.map_nil, Nat.zero_add, Tryz.ntmps125]
  repeat' (first
  | (refine zag ?_; simp [hne, del])
  | (refine zaj ?_; simp [hne, del])
  | (refine zah ?_; simp [hne, del])
  | (refine zai ?_; simp [hne, del])
  | (refine zas ?_; simp only [zan])
  | (refine CallP.ok1 (hh1 _ (by first | omega | (simp; done) | (simp; omega) | fail)) (by first | (simp [hne, del, zaa, getK, zab, zac]; done) | fail) (by rfl) (by first | assumption | (simp; done) | fail) (by rfl) (by simp) ?_; (try simp [hne, del]))
  | fail)
  (refine EndW.here ?_; (first | (refine EndOK.fin (.inr rfl) ?_) | (refine EndOK.fin (.inl rfl) ?_)); simp [zaC, zaf, Tryz.results125, hne, hi]; refine FinOK.cut [(i, pOb l p)] (nx) (by simp [zaa, getK, zab, zac, Ob.under, D.under, zad, zae, hne, hi] <;> omega) (by simp [D.under]) (by simp [hn]) ?_; try simp)
  exact PPost.zb2 rfl rfl rfl
 | true =>
  have hp2 := za2 hl hb
  simp only [hb, if_true] at hh1 ⊢
  have hn1 := fun nx' (h : nx ≤ nx') => zkg l (p + 1) a b i nx' (by omega) hp2 hl
  cases hr0 : zoK l (p + 1) a b with
  | stop pos e =>
   simp only [hr0] at hn1
   (refine RetX.of_bodyW Tryz.func125 rfl (by simp) fun Γ hn hpan => ?_); simp only [entry, List.zipIdx_cons, List.zipIdx_nil, List.map_cons, List.map_nil, Nat.zero_add, Tryz.ntmps125]
   repeat' (first
  | (refine zag ?_; simp [hne, del])
  | (refine zaj ?_; simp [hne, del])
  | (refine zah ?_; simp [hne, del])
  | (refine zai ?_; simp [hne, del])
  | (refine zaq ?_; simp only [zan])
  | (refine CallP.ok1 (hh1 _ (by first | omega | (simp; done) | (simp; omega) | fail)) (by first | (simp [hne, del, zaa, getK, zab, zac]; done) | fail) (by rfl) (by first | assumption | (simp; done) | fail) (by rfl) (by simp) ?_; (try simp [hne, del]))
  | (refine CallP.zed (hn1 _ (by first | omega | (simp; done) | (simp; omega) | fail)) (by first | (simp [hne, del, zaa, getK, zab, zac]; done) | fail) (by rfl) (by first | assumption | (simp; done) | fail) (by rfl) (by simp) ?_; rintro ob' ⟨q', rfl⟩; refine ⟨_, Wk.refl _, ?_⟩)
  | fail)
   (refine hpan _ _ ⟨{ n := _, env := [], obs := [(i, pOb l q')], next := nx }, (Wk.cut rfl (by simp [hn]) (by simp [wkO, zaa, getK, zab, zac, Ob.under, D.under, zad, zae, hi, hne, zab, zac, zaa, getK]) (by simp [wkU, zak, zaa, getK, D.under, hi, hne, zab, zac, zaa, getK]) (by simp [wkE, zak, zaa, getK, hi, hne, zab, zac, zaa, getK])), by simp [hn], ?_⟩; try simp)
   exact PPost.zaB (by simp [PR.bind, *])
  | ok n q0 =>
   simp only [hr0] at hn1
   obtain ⟨g0a, g0b⟩ := zlr hl hr0
   have hw1 := fun nx' (h : nx ≤ nx') => zgK l q0 ws i nx' (by omega) g0b hl hw
   cases hr1 : zbA l q0 ws with
   | stop pos e =>
    simp only [hr1] at hw1
    (refine RetX.of_bodyW Tryz.func125 rfl (by simp) fun Γ hn hpan => ?_); simp only [entry, List.zipIdx_cons, List.zipIdx_nil, List.map_cons, List.map_nil, Nat.zero_add, Tryz.ntmps125]
    repeat' (first
  | (refine zag ?_; simp [hne, del])
  | (refine zaj ?_; simp [hne, del])
  | (refine zah ?_; simp [hne, del])
  | (refine zai ?_; simp [hne, del])
  | (refine zaq ?_; simp only [zan])
  | (refine CallP.ok1 (hh1 _ (by first | omega | (simp; done) | (simp; omega) | fail)) (by first | (simp [hne, del, zaa, getK, zab, zac]; done) | fail) (by rfl) (by first | assumption | (simp; done) | fail) (by rfl) (by simp) ?_; (try simp [hne, del]))
  | (refine CallP.ok1 (hn1 _ (by first | omega | (simp; done) | (simp; omega) | fail)) (by first | (simp [hne, del, zaa, getK, zab, zac]; done) | fail) (by rfl) (by first | assumption | (simp; done) | fail) (by rfl) (by simp) ?_; (try simp [hne, del]))
  | (refine CallP.zed (hw1 _ (by first | omega | (simp; done) | (simp; omega) | fail)) (by first | (simp [hne, del, zaa, getK, zab, zac]; done) | fail) (by rfl) (by first | assumption | (simp; done) | fail) (by rfl) (by simp) ?_; rintro ob' ⟨q', rfl⟩; refine ⟨_, Wk.refl _, ?_⟩)
  | fail)
    (refine hpan _ _ ⟨{ n := _, env := [], obs := [(i, pOb l q')], next := nx }, (Wk.cut rfl (by simp [hn]) (by simp [wkO, zaa, getK, zab, zac, Ob.under, D.under, zad, zae, hi, hne, zab, zac, zaa, getK]) (by simp [wkU, zak, zaa, getK, D.under, hi, hne, zab, zac, zaa, getK]) (by simp [wkE, zak, zaa, getK, hi, hne, zab, zac, zaa, getK])), by simp [hn], ?_⟩; try simp)
    exact PPost.zaB (by simp [PR.bind, *])
   | ok u q =>
    simp only [hr1] at hw1
    (refine RetX.of_bodyW Tryz.func125 rfl (by simp) fun Γ hn hpan => ?_); simp only [entry, List.zipIdx_cons, List.zipIdx_nil, List.map_cons, List.map_nil, Nat.zero_add, Tryz.ntmps125]
    repeat' (first
  | (refine zag ?_; simp [hne, del])
  | (refine zaj ?_; simp [hne, del])
  | (refine zah ?_; simp [hne, del])
  | (refine zai ?_; simp [hne, del])
  | (refine zas ?_; simp only [zan])
  | (refine zaq ?_; simp only [zan])
  | (refine CallP.ok1 (hh1 _ (by first | omega | (simp; done) | (simp; omega) | fail)) (by first | (simp [hne, del, zaa, getK, zab, zac]; done) | fail) (by rfl) (by first | assumption | (simp; done) | fail) (by rfl) (by simp) ?_; (try simp [hne, del]))
  | (refine CallP.ok1 (hn1 _ (by first | omega | (simp; done) | (simp; omega) | fail)) (by first | (simp [hne, del, zaa, getK, zab, zac]; done) | fail) (by rfl) (by first | assumption | (simp; done) | fail) (by rfl) (by simp) ?_; (try simp [hne, del]))
  | (refine CallP.ok1 (hw1 _ (by first | omega | (simp; done) | (simp; omega) | fail)) (by first | (simp [hne, del, zaa, getK, zab, zac]; done) | fail) (by rfl) (by first | assumption | (simp; done) | fail) (by rfl) (by simp) ?_; (try simp [hne, del]))
  | fail)
    (refine EndW.here ?_; (first | (refine EndOK.fin (.inr rfl) ?_) | (refine EndOK.fin (.inl rfl) ?_)); simp [zaC, zaf, Tryz.results125, hne, hi]; refine FinOK.cut [(i, pOb l q)] (nx) (by simp [zaa, getK, zab, zac, Ob.under, D.under, zad, zae, hne, hi] <;> omega) (by simp [D.under]) (by simp [hn]) ?_; try simp)
    exact PPost.zb2 (by simp [PR.bind, *]) rfl rfl
theorem zc1 {l : List Tok} (hl : TokOK l) {p q : Nat} {w : List UInt8} {a b n : Int} {ws : List (List UInt8)} (h : zdh l p w a b ws = .ok n q) (hp : p < l.length) : p ≤ q ∧ q < l.length := by
 unfold zdh at h
 split at h
 ·obtain ⟨m, r, h1, h⟩ := PR.zaG h
  have g1 := zlr hl h1
  obtain ⟨m2, r2, h2, h⟩ := PR.zaG h
  have g2 := zaV hl _ h2 g1.2
  cases h
  exact ⟨by omega, g2.2⟩
 ·cases h; exact ⟨by omega, hp⟩
theorem zfu (l : List Tok) (p : Nat) (i nx : Nat) (hi : i < nx) (hp : p < l.length) (hl : TokOK l) (hl2 : l.length ≤ 2001) :
  RetX Tryz.prog 130 [.ptr i 0] [(i, pOb l p)] nx (PPost l i nx zdD (zdA l p)) := by
 have hne := zaQ hi
 have hll := hl.len
 rw [zdA]
 have hE := fun nx' (h : nx ≤ nx') => (zlk hl (4 * l.length + 3)).1 p 0 i nx' (by omega) hp (by omega) (by omega) (by omega)
 cases hr : zdF l (4 * l.length + 3) p 0 with
 | stop pos e =>
  simp only [hr] at hE
  (refine RetX.of_bodyW Tryz.func130 rfl (by simp) fun Γ hn hpan => ?_); simp only [entry, List.zipIdx_cons, List.zipIdx_nil, List.map_cons, List.map_nil, Nat.zero_add, Tryz.ntmps130]
  repeat' (first
  | (refine zag ?_; simp [hne, del])
  | (refine zaj ?_; simp [hne, del])
  | (refine zah ?_; simp [hne, del])
  | (refine CallP.zed (hE _ (by first | omega | (simp; done) | (simp; omega) | fail)) (by first | (simp [hne, del, zaa, getK, zab, zac]; done) | fail) (by rfl) (by first | assumption | (simp; done) | fail) (by rfl) (by simp) ?_; rintro ob' ⟨q', rfl⟩; refine ⟨_, Wk.refl _, ?_⟩)
  | fail)
  (refine hpan _ _ ⟨{ n := _, env := [], obs := [(i, pOb l q')], next := nx }, (Wk.cut rfl (by simp [hn]) (by simp [wkO, zaa, getK, zab, zac, Ob.under, D.under, zad, zae, hi, hne, zab, zac, zaa, getK]) (by simp [wkU, zak, zaa, getK, D.under, hi, hne, zab, zac, zaa, getK]) (by simp [wkE, zak, zaa, getK, hi, hne, zab, zac, zaa, getK])), by simp [hn], ?_⟩; try simp)
  exact PPost.zaB (by simp [PR.bind, *])
 | ok y q =>
  have hEx := fun nx' h => zcS (hE nx' h) hr
  obtain ⟨g0a, g0b⟩ := (zb8 hl _).1 _ _ _ _ hr hp
  have hlev := (zhU (l := l) _).1 _ _ _ _ hr
  have hlev2 : y.lev ≤ 1000000000 := by
   have h1 : ((4 * l.length + 3 : Nat) : Int) * ((4 * l.length + 3 : Nat) : Int) ≤ 8007 * 8007 := Int.mul_le_mul (by omega) (by omega) (by omega) (by omega)
   omega
  have hlv := zkn (SizeOf.sizeOf y) y (Nat.le_refl _) hlev2
  rw [Exp.row_eq] at hlv
  obtain ⟨t, ht⟩ : ∃ t, l[q]? = some t := ⟨_, List.getElem?_eq_getElem g0b⟩
  have his := zdC l q [59] g0b hl.len
  have hpa : zcQ l q = t.pos := by unfold zcQ; rw [ht]
  have hc1 := fun e nx' (h : nx ≤ nx') => zd9 l q e i nx' (by omega)
  have hc2 := fun e nx' (h : nx ≤ nx') => zcT l q t e i nx' (by omega) ht hl.len
  rw [PR.zaR, hpa]
  cases hb : isB l q [59] with
  | false =>
   simp only [hb, Bool.false_eq_true, if_false] at his ⊢
   (refine RetX.of_bodyW Tryz.func130 rfl (by simp) fun Γ hn hpan => ?_); simp only [entry, List.zipIdx_cons, List.zipIdx_nil, List.map_cons, List.map_nil, Nat.zero_add, Tryz.ntmps130]
   repeat' (first
  | (refine zag ?_; simp [hne, del])
  | (refine zaj ?_; simp [hne, del])
  | (refine zah ?_; simp [hne, del])
  | (refine CallP.fun_ (his) (by first | rfl | fail) (by first | assumption | (simp; done) | fail) (by first | (simp [hne, del]; done) | (simp [hne, del]; rfl) | fail) (by first | (simp; done) | fail) (fun d hd => ?_); subst hd; (try simp [hne, del]))
  | (refine CallP.ok1 (hEx _ (by first | omega | (simp; done) | (simp; omega) | fail)) (by first | (simp [hne, del, zaa, getK, zab, zac]; done) | fail) (by rfl) (by first | assumption | (simp; done) | fail) (by rfl) (by simp) ?_; (try simp [hne, del]))
  | (refine CallP.zed (hc2 _ _ (by first | omega | (simp; done) | (simp; omega) | fail)) (by first | (simp [hne, del, zaa, getK, zab, zac]; done) | fail) (by rfl) (by first | assumption | (simp; done) | fail) (by rfl) (by simp) ?_; rintro ob' ⟨q', rfl⟩; refine ⟨_, Wk.refl _, ?_⟩)
  | fail)
   (refine hpan _ _ ⟨{ n := _, env := [], obs := [(i, pOb l q')], next := nx }, (Wk.cut rfl (by simp [hn]) (by simp [wkO, zaa, getK, zab, zac, Ob.under, D.under, zad, zae, hi, hne, zab, zac, zaa, getK]) (by simp [wkU, zak, zaa, getK, D.under, hi, hne, zab, zac, zaa, getK]) (by simp [wkE, zak, zaa, getK, hi, hne, zab, zac, zaa, getK])), by simp [hn], ?_⟩; try simp)
   exact PPost.zaB (by simp [PR.bind, *])
  | true =>
   have hq2 := za2 hl hb
   simp only [hb, if_true] at his ⊢
   by_cases hv : y.lev ≤ 12
   ·simp only [hv, if_true]
    (refine RetX.of_bodyW Tryz.func130 rfl (by simp) fun Γ hn hpan => ?_); simp only [entry, List.zipIdx_cons, List.zipIdx_nil, List.map_cons, List.map_nil, Nat.zero_add, Tryz.ntmps130]
    repeat' (first
  | (refine zag ?_; simp [hne, del, hv])
  | (refine zaj ?_; simp [hne, del, hv])
  | (refine ⟨by omega, ?_⟩)
  | (refine zah ?_; simp [hne, del, hv])
  | (refine zas ?_; simp only [zan])
  | (refine CallP.fun_ (his) (by first | rfl | fail) (by first | assumption | (simp; done) | fail) (by first | (simp [hne, del, hv]; done) | (simp [hne, del, hv]; rfl) | fail) (by first | (simp; done) | fail) (fun d hd => ?_); subst hd; (try simp [hne, del, hv]))
  | (refine CallP.fun_ (hlv) (by first | rfl | fail) (by first | assumption | (simp; done) | fail) (by first | (simp [hne, del, hv]; done) | (simp [hne, del, hv]; rfl) | fail) (by first | (simp; done) | fail) (fun d hd => ?_); subst hd; (try simp [hne, del, hv]))
  | (refine CallP.ok1 (hEx _ (by first | omega | (simp; done) | (simp; omega) | fail)) (by first | (simp [hne, del, hv, zaa, getK, zab, zac]; done) | fail) (by rfl) (by first | assumption | (simp; done) | fail) (by rfl) (by simp) ?_; (try simp [hne, del, hv]))
  | (refine CallP.ok1 (hc1 _ _ (by first | omega | (simp; done) | (simp; omega) | fail)) (by first | (simp [hne, del, hv, zaa, getK, zab, zac]; done) | fail) (by rfl) (by first | assumption | (simp; done) | fail) (by rfl) (by simp) ?_; (try simp [hne, del, hv]))
  | fail)
    refine EndW.norm ?_
    simp [St.norm, za1, zbz, zbL, zbM, hne, Nat.add_assoc]
    (refine EndW.here ?_; (first | (refine EndOK.fin (.inr rfl) ?_) | (refine EndOK.fin (.inl rfl) ?_)); simp [zaC, zaf, Tryz.results130, hne, hi]; refine FinOK.cut [(i, pOb l (q + 1))] (nx) (by simp [zaa, getK, zab, zac, Ob.under, D.under, zad, zae, hne, hi] <;> omega) (by simp [D.under]) (by simp [hn]) ?_; try simp)
    exact PPost.zb2 rfl (by simp [Exp.row_eq]) rfl
   ·simp only [hv, if_false]
    (refine RetX.of_bodyW Tryz.func130 rfl (by simp) fun Γ hn hpan => ?_); simp only [entry, List.zipIdx_cons, List.zipIdx_nil, List.map_cons, List.map_nil, Nat.zero_add, Tryz.ntmps130]
    repeat' (first
  | (refine zag ?_; simp [hne, del, hv])
  | (refine zaj ?_; simp [hne, del, hv])
  | (refine zah ?_; simp [hne, del, hv])
  | (refine CallP.fun_ (his) (by first | rfl | fail) (by first | assumption | (simp; done) | fail) (by first | (simp [hne, del, hv]; done) | (simp [hne, del, hv]; rfl) | fail) (by first | (simp; done) | fail) (fun d hd => ?_); subst hd; (try simp [hne, del, hv]))
  | (refine CallP.fun_ (hlv) (by first | rfl | fail) (by first | assumption | (simp; done) | fail) (by first | (simp [hne, del, hv]; done) | (simp [hne, del, hv]; rfl) | fail) (by first | (simp; done) | fail) (fun d hd => ?_); subst hd; (try simp [hne, del, hv]))
  | (refine CallP.ok1 (hEx _ (by first | omega | (simp; done) | (simp; omega) | fail)) (by first | (simp [hne, del, hv, zaa, getK, zab, zac]; done) | fail) (by rfl) (by first | assumption | (simp; done) | fail) (by rfl) (by simp) ?_; (try simp [hne, del, hv]))
  | (refine CallP.ok1 (hc1 _ _ (by first | omega | (simp; done) | (simp; omega) | fail)) (by first | (simp [hne, del, hv, zaa, getK, zab, zac]; done) | fail) (by rfl) (by first | assumption | (simp; done) | fail) (by rfl) (by simp) ?_; (try simp [hne, del, hv]))
  | (refine CallP.zed (hc2 _ _ (by first | omega | (simp; done) | (simp; omega) | fail)) (by first | (simp [hne, del, hv, zaa, getK, zab, zac]; done) | fail) (by rfl) (by first | assumption | (simp; done) | fail) (by rfl) (by simp) ?_; rintro ob' ⟨q', rfl⟩; refine ⟨_, Wk.refl _, ?_⟩)
  | fail)
    (refine hpan _ _ ⟨{ n := _, env := [], obs := [(i, pOb l q')], next := nx }, (Wk.cut rfl (by simp [hn]) (by simp [wkO, zaa, getK, zab, zac, Ob.under, D.under, zad, zae, hi, hne, zab, zac, zaa, getK]) (by simp [wkU, zak, zaa, getK, D.under, hi, hne, zab, zac, zaa, getK]) (by simp [wkE, zak, zaa, getK, hi, hne, zab, zac, zaa, getK])), by simp [hn], ?_⟩; try simp)
    exact PPost.zaB (by simp [PR.bind, *])
theorem zfw {l : List Tok} (hl : TokOK l) {p q : Nat} {e : Exp} (h : zdA l p = .ok e q) (hp : p < l.length) : p ≤ q ∧ q < l.length := by
 unfold zdA at h
 obtain ⟨y, r, h1, h⟩ := PR.zaG h
 have g1 := (zb8 hl _).1 _ _ _ _ h1 hp
 split at h
 ·rename_i hb
  split at h
  ·cases h
   exact ⟨by omega, za2 hl hb⟩
  ·cases h
 ·cases h
theorem zi2 : Fun Tryz.prog 72 [] (· = .u (.agg nothingE.row)) := by
 simp only [nothingE, Exp.row, List.map_nil]
 (refine Fun.of_bodyW Tryz.func72 rfl (by simp) fun Γ hn => ?_); simp only [entry, List.zipIdx_cons, List.zipIdx_nil, List.map_cons, List.map_nil, Nat.zero_add, Tryz.ntmps72]
 repeat' (first
  | (refine zag ?_; simp)
  | (refine zaj ?_; simp)
  | (refine zah ?_; simp)
  | (refine zas ?_; simp only [zan])
  | fail)
 refine EndW.norm ?_
 simp [St.norm, za1, zbz, zbL, zbM]
 refine EndW.here ?_
 (refine EndOK.val (.inr rfl) ?_; simp [zaC, zaf, zaw, Tryz.results72])
theorem zd7 (l : List Tok) (p : Nat) (w : List UInt8) (i nx : Nat) (hi : i < nx) (hp : p < l.length) (hl : TokOK l) (hl2 : l.length ≤ 2001) :
  RetX Tryz.prog 131 [.ptr i 0, .u (.str w)] [(i, pOb l p)] nx (PPost l i nx zdD (zdb l p w)) := by
 have hne := zaQ hi
 have hh1 := fun nx' (h : nx ≤ nx') => za7 l p w i nx' (by omega) hp hl.len
 rw [zdb]
 cases hb : isB l p w with
 | false =>
  have h0 := zi2
  simp only [nothingE, Exp.row, List.map_nil] at h0
  simp only [hb, Bool.false_eq_true, if_false] at hh1 ⊢
  (refine RetX.of_bodyW Tryz.func131 rfl (by simp) fun Γ hn hpan => ?_); simp only [entry, List.zipIdx_cons, List.zipIdx_nil, List.map_cons, List.map_nil, Nat.zero_add, Tryz.ntmps131]
  repeat' (first
  | (refine zag ?_; simp [hne, del])
  | (refine zaj ?_; simp [hne, del])
  | (refine zah ?_; simp [hne, del])
  | (refine zai ?_; simp [hne, del])
  | (refine zas ?_; simp only [zan])
  | (refine zaq ?_; simp only [zan])
  | (refine CallP.fun_ (h0) (by first | rfl | fail) (by first | assumption | (simp; done) | fail) (by first | (simp [hne, del]; done) | (simp [hne, del]; rfl) | fail) (by first | (simp; done) | fail) (fun d hd => ?_); subst hd; (try simp [hne, del]))
  | (refine CallP.ok1 (hh1 _ (by first | omega | (simp; done) | (simp; omega) | fail)) (by first | (simp [hne, del, zaa, getK, zab, zac]; done) | fail) (by rfl) (by first | assumption | (simp; done) | fail) (by rfl) (by simp) ?_; (try simp [hne, del]))
  | fail)
  refine EndW.norm ?_
  simp [St.norm, za1, zbz, zbL, zbM, hne, Nat.add_assoc]
  (refine EndW.here ?_; (first | (refine EndOK.fin (.inr rfl) ?_) | (refine EndOK.fin (.inl rfl) ?_)); simp [zaC, zaf, Tryz.results131, hne, hi]; refine FinOK.cut [(i, pOb l p)] (nx) (by simp [zaa, getK, zab, zac, Ob.under, D.under, zad, zae, hne, hi] <;> omega) (by simp [D.under]) (by simp [hn]) ?_; try simp)
  exact PPost.zb2 rfl (by simp [nothingE, Exp.row]) rfl
 | true =>
  have hp2 := za2 hl hb
  simp only [hb, if_true] at hh1 ⊢
  have hn1 := fun nx' (h : nx ≤ nx') => zfu l (p + 1) i nx' (by omega) hp2 hl hl2
  cases hr0 : zdA l (p + 1) with
  | stop pos e =>
   simp only [hr0] at hn1
   (refine RetX.of_bodyW Tryz.func131 rfl (by simp) fun Γ hn hpan => ?_); simp only [entry, List.zipIdx_cons, List.zipIdx_nil, List.map_cons, List.map_nil, Nat.zero_add, Tryz.ntmps131]
   repeat' (first
  | (refine zag ?_; simp [hne, del])
  | (refine zaj ?_; simp [hne, del])
  | (refine zah ?_; simp [hne, del])
  | (refine zai ?_; simp [hne, del])
  | (refine CallP.ok1 (hh1 _ (by first | omega | (simp; done) | (simp; omega) | fail)) (by first | (simp [hne, del, zaa, getK, zab, zac]; done) | fail) (by rfl) (by first | assumption | (simp; done) | fail) (by rfl) (by simp) ?_; (try simp [hne, del]))
  | (refine CallP.zed (hn1 _ (by first | omega | (simp; done) | (simp; omega) | fail)) (by first | (simp [hne, del, zaa, getK, zab, zac]; done) | fail) (by rfl) (by first | assumption | (simp; done) | fail) (by rfl) (by simp) ?_; rintro ob' ⟨q', rfl⟩; refine ⟨_, Wk.refl _, ?_⟩)
  | fail)
   (refine hpan _ _ ⟨{ n := _, env := [], obs := [(i, pOb l q')], next := nx }, (Wk.cut rfl (by simp [hn]) (by simp [wkO, zaa, getK, zab, zac, Ob.under, D.under, zad, zae, hi, hne, zab, zac, zaa, getK]) (by simp [wkU, zak, zaa, getK, D.under, hi, hne, zab, zac, zaa, getK]) (by simp [wkE, zak, zaa, getK, hi, hne, zab, zac, zaa, getK])), by simp [hn], ?_⟩; try simp)
   exact PPost.zaB (by simp [PR.bind, *])
  | ok n q0 =>
   have hn1 := fun nx' h => zcS (hn1 nx' h) hr0
   (refine RetX.of_bodyW Tryz.func131 rfl (by simp) fun Γ hn hpan => ?_); simp only [entry, List.zipIdx_cons, List.zipIdx_nil, List.map_cons, List.map_nil, Nat.zero_add, Tryz.ntmps131]
   repeat' (first
  | (refine zag ?_; simp [hne, del])
  | (refine zaj ?_; simp [hne, del])
  | (refine zah ?_; simp [hne, del])
  | (refine zai ?_; simp [hne, del])
  | (refine zas ?_; simp only [zan])
  | (refine CallP.ok1 (hh1 _ (by first | omega | (simp; done) | (simp; omega) | fail)) (by first | (simp [hne, del, zaa, getK, zab, zac]; done) | fail) (by rfl) (by first | assumption | (simp; done) | fail) (by rfl) (by simp) ?_; (try simp [hne, del]))
  | (refine CallP.ok1 (hn1 _ (by first | omega | (simp; done) | (simp; omega) | fail)) (by first | (simp [hne, del, zaa, getK, zab, zac]; done) | fail) (by rfl) (by first | assumption | (simp; done) | fail) (by rfl) (by simp) ?_; (try simp [hne, del]))
  | fail)
   refine EndW.norm ?_
   simp [St.norm, za1, zbz, zbL, zbM, hne, Nat.add_assoc]
   (refine EndW.here ?_; (first | (refine EndOK.fin (.inr rfl) ?_) | (refine EndOK.fin (.inl rfl) ?_)); simp [zaC, zaf, Tryz.results131, hne, hi]; refine FinOK.cut [(i, pOb l q0)] (nx) (by simp [zaa, getK, zab, zac, Ob.under, D.under, zad, zae, hne, hi] <;> omega) (by simp [D.under]) (by simp [hn]) ?_; try simp)
   exact PPost.zb2 rfl (by simp [Exp.row_eq]) rfl
theorem zd8 {l : List Tok} (hl : TokOK l) {p q : Nat} {w : List UInt8} {e : Exp} (h : zdb l p w = .ok e q) (hp : p < l.length) : p ≤ q ∧ q < l.length := by
 unfold zdb at h
 split at h
 ·rename_i hb
  have := zfw hl h (za2 hl hb)
  exact ⟨by omega, this.2⟩
 ·cases h; exact ⟨by omega, hp⟩
end Go.Proofs.YtepiegcjnaohjaaGreatDoor
