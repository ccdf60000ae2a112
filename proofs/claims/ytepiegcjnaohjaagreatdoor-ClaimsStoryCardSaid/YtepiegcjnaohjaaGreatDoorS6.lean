/- Texts joined by a program of mine: Zb Zc Zd Ze#p Yu Mi#p Ze Mi My Mj Mk Mm Ml. -/
import Derived.Test.YtepiegcjnaohjaaGreatDoorS5
set_option linter.all false
set_option maxRecDepth 100000
set_option maxHeartbeats 8000000
namespace Go.Proofs.YtepiegcjnaohjaaGreatDoor
open Go Go.VL
attribute [local simp] HS zcR zb9 evPure opd uOf zaI St.put St.at getK binD binI binS binB nilD aggD zg9 zit lookD lookR zcz rangeS Go.VL.nextD Go.VL.nextS zcB ziI ziG zga zb6 mkV zbi zbh zcK zbg zbs zbB mapEff zdf zf6 Key.kk shiftI arith unD convD zdK loadD cellsAt fieldAddrD fieldD indexAddrD indexSlD arrAddr indexD sliceD cutD lenD minmaxD nilCheckD buildD fillD zbQ zcV zex setAll zcF zer zcs zhq zcq St.add zaU zbO rowsOf zdE zco zax zac zaa zby zdg za8 entry zbq zbv valD zb7 zcp zgE zdc zdd zbU zbJ zaA zaY zbt delAll effD St.effS zc4 zbj zbb zc5 zbk zbd zcm zbc za0 zcn zcW zbP zch zbw zcf zcg zaP mkD zbR zbF zbI zaA zcr D.ids Op.operands Call.operands zbN makeIfD makeFuncD typeAssertD zis zdw zdx zhx zcA IntKind.bits zcC List.take_of_length_le List.range_succ
attribute [local irreducible] V G H HD HD2 HD4 zmv RetX zan Eff CallP CallV EndOK Fun Ret FinOK LoopI LoopW EndW
/-- A call of one of the parser's functions, both ways. -/
theorem _root_.Go.VL.CallP.pp {P : Program} {Γ : Ctx} {s : St} {k : St → Prop} {dst : Option Tmp} {fop : Operand} {args : List Operand} {f caps} {ds : List D} {α : Type} {l : List Tok} {i : Nat} {ob : Ob} {val : α → D} {r : PR α}
  (hret : RetX P f ds [(i, ob)] s.next (PPost l i s.next val r)) (hj : getK s.obs i = some ob) (hf : zaA (opd s fop) = some (f, caps)) (hc : zal P f = true) (hds : args.map (opd s) ++ caps = ds) (hp : zaI dst s)
  (hk : ∀ a q, r = .ok a q → k (({ s with obs := del s.obs i ++ [(i, pOb l q)], next := s.next } : St).put dst (val a)))
  (hx : ∀ pos e q, r = .stop pos e → ∃ s2, Wk Γ { s with obs := del s.obs i ++ [(i, pOb l q)], next := s.next } s2 ∧ Γ.pan (chP pos e) s2) : CallP P Γ fop args dst s k :=
 CallP.x1 hret hj hf hc hds hp (fun d o1 nx' _ h => by
  cases r with
  | ok a q => obtain ⟨h1, h2, h3⟩ := h; cases h1; subst h2; subst h3; exact hk a q rfl
  | stop pos e => obtain ⟨h1, _⟩ := h; cases h1) (fun ch o1 nx' _ h => by
  cases r with
  | ok a q => obtain ⟨h1, _⟩ := h; cases h1
  | stop pos e => obtain ⟨h1, ⟨ob', ⟨q, rfl⟩, h2⟩, h3⟩ := h; cases h1; subst h2; subst h3; exact hx pos e q rfl)
abbrev kbD (x : Int × Bool) : D := .tup [.u (.int .i64 x.1), .u (.bool x.2)]
theorem zm3 (l : List Tok) (p : Nat) (i nx : Nat) (hi : i < nx) (hp : p < l.length) (hl : TokOK l) :
  RetX Tryz.prog 122 [.ptr i 0] [(i, pOb l p)] nx (PPost l i nx kbD (zi7 l p)) := by
 have hne := zaQ hi
 have hll := hl.len
 generalize hR : zi7 l p = R
 rw [zi7] at hR
 (refine RetX.of_bodyW Tryz.func122 rfl (by simp) fun Γ hn hpan => ?_); simp only [entry, List.zipIdx_cons, List.zipIdx_nil, List.map_cons, List.map_nil, Nat.zero_add, Tryz.ntmps122]
 repeat' (first
  | (refine zag ?_; simp [hne])
  | (refine zaj ?_; simp [hne])
  | (refine zah ?_; simp [hne])
  | (refine zaF (by first | rfl | fail) ?_; simp [hne, frzN, frz1, zaE, zaD, St.frz, St.frzS, frzS, fv, za3, za4, za9, zaH, zaz, zay, del, frz, zba])
  | fail)
 (refine CallP.pp (zeh hl [99, 105, 114, 99, 108, 101] (q := p) (i := i) (by first | omega | (simp; done) | (simp; omega) | fail) hp) (by first | (simp [hi, hne, Nat.add_assoc, zaa, getK, zab, zac]; done) | fail) (by rfl) (by first | assumption | (simp; done) | fail) (by rfl) (by simp) (fun v1 q1 h1 => ?_) (fun pos e q' h1 => ⟨_, Wk.refl _, ?_⟩); rotate_left 1; (focus (rw [h1, PR.zaK] at hR; (refine hpan _ _ ⟨{ n := _, env := [], obs := [(i, pOb l q')], next := nx }, (Wk.cut rfl (by simp [hn]) (by simp [wkO, zaa, getK, zab, zac, Ob.under, D.under, zad, zae, hi, hne, Nat.add_assoc, zab, zac, zaa, getK]) (by simp [wkU, zak, zaa, getK, D.under, hi, hne, Nat.add_assoc, zab, zac, zaa, getK]) (by simp [wkE, zak, zaa, getK, hi, hne, Nat.add_assoc, zab, zac, zaa, getK])), by simp [hn], ?_⟩; try simp); exact PPost.zaB hR.symm)); rw [h1, PR.zaR] at hR; (try simp [hi, hne, Nat.add_assoc]))
 obtain ⟨_, g1⟩ := zaV hl _ h1 hp
 have hh1 := fun nx' (h : nx ≤ nx') => za7 l q1 [114, 111, 116, 97, 116, 105, 110, 103] i nx' (by omega) g1 hl.len
 have hh2 := fun nx' (h : nx ≤ nx') => za7 l q1 [115, 97, 118, 105, 110, 103] i nx' (by omega) g1 hl.len
 by_cases c1 : isB l q1 [114, 111, 116, 97, 116, 105, 110, 103] = true
 ·have g2 := za2 hl c1
  rw [if_pos c1] at hR
  simp only [c1, if_true] at hh1
  repeat' (first
  | (refine zag ?_; simp [hne, del, Nat.add_assoc])
  | (refine zaj ?_; simp [hne, del, Nat.add_assoc])
  | (refine zah ?_; simp [hne, del, Nat.add_assoc])
  | (refine zai ?_; simp [hne, del, Nat.add_assoc])
  | (refine CallP.ok1 (hh1 _ (by first | omega | (simp; done) | (simp; omega) | fail)) (by first | (simp [hne, del, Nat.add_assoc, zaa, getK, zab, zac]; done) | fail) (by rfl) (by first | assumption | (simp; done) | fail) (by rfl) (by simp) ?_; (try simp [hne, del, Nat.add_assoc]))
  | (refine zaF (by first | rfl | fail) ?_; simp [hne, del, Nat.add_assoc, frzN, frz1, zaE, zaD, St.frz, St.frzS, frzS, fv, za3, za4, za9, zaH, zaz, zay, del, frz, zba])
  | fail)
  (refine CallP.pp (zeh hl [59] (q := q1 + 1) (i := i) (by first | omega | (simp; done) | (simp; omega) | fail) g2) (by first | (simp [hi, hne, Nat.add_assoc, zaa, getK, zab, zac]; done) | fail) (by rfl) (by first | assumption | (simp; done) | fail) (by rfl) (by simp) (fun v2 q2 h2 => ?_) (fun pos e q' h2 => ⟨_, Wk.refl _, ?_⟩); rotate_left 1; (focus (rw [h2, PR.zaK] at hR; (refine hpan _ _ ⟨{ n := _, env := [], obs := [(i, pOb l q')], next := nx }, (Wk.cut rfl (by simp [hn]) (by simp [wkO, zaa, getK, zab, zac, Ob.under, D.under, zad, zae, hi, hne, Nat.add_assoc, zab, zac, zaa, getK]) (by simp [wkU, zak, zaa, getK, D.under, hi, hne, Nat.add_assoc, zab, zac, zaa, getK]) (by simp [wkE, zak, zaa, getK, hi, hne, Nat.add_assoc, zab, zac, zaa, getK])), by simp [hn], ?_⟩; try simp); exact PPost.zaB hR.symm)); rw [h2, PR.zaR] at hR; (try simp [hi, hne, Nat.add_assoc]))
  repeat' (first
  | (refine zag ?_; simp [hne, del, Nat.add_assoc])
  | (refine zaj ?_; simp [hne, del, Nat.add_assoc])
  | (refine zah ?_; simp [hne, del, Nat.add_assoc])
  | (refine zas ?_; simp only [zan])
  | fail)
  (refine EndW.here ?_; (first | (refine EndOK.fin (.inr rfl) ?_) | (refine EndOK.fin (.inl rfl) ?_)); simp [zaC, zaf, Tryz.results122, hne, hi]; refine FinOK.cut [(i, pOb l q2)] (nx) (by simp [zaa, getK, zab, zac, Ob.under, D.under, zad, zae, hne, hi] <;> omega) (by simp [D.under]) (by simp [hn]) ?_; try simp)
  exact PPost.zb2 hR.symm rfl rfl
 ·rw [if_neg c1] at hR
  simp only [c1, Bool.false_eq_true, if_false] at hh1
  by_cases c2 : isB l q1 [115, 97, 118, 105, 110, 103] = true
  ·have g2 := za2 hl c2
   rw [if_pos c2] at hR
   simp only [c2, if_true] at hh2
   repeat' (first
  | (refine zag ?_; simp [hne, del, Nat.add_assoc])
  | (refine zaj ?_; simp [hne, del, Nat.add_assoc])
  | (refine zah ?_; simp [hne, del, Nat.add_assoc])
  | (refine zai ?_; simp [hne, del, Nat.add_assoc])
  | (refine CallP.ok1 (hh1 _ (by first | omega | (simp; done) | (simp; omega) | fail)) (by first | (simp [hne, del, Nat.add_assoc, zaa, getK, zab, zac]; done) | fail) (by rfl) (by first | assumption | (simp; done) | fail) (by rfl) (by simp) ?_; (try simp [hne, del, Nat.add_assoc]))
  | (refine CallP.ok1 (hh2 _ (by first | omega | (simp; done) | (simp; omega) | fail)) (by first | (simp [hne, del, Nat.add_assoc, zaa, getK, zab, zac]; done) | fail) (by rfl) (by first | assumption | (simp; done) | fail) (by rfl) (by simp) ?_; (try simp [hne, del, Nat.add_assoc]))
  | (refine zaF (by first | rfl | fail) ?_; simp [hne, del, Nat.add_assoc, frzN, frz1, zaE, zaD, St.frz, St.frzS, frzS, fv, za3, za4, za9, zaH, zaz, zay, del, frz, zba])
  | fail)
   (refine CallP.pp (zeh hl [59] (q := q1 + 1) (i := i) (by first | omega | (simp; done) | (simp; omega) | fail) g2) (by first | (simp [hi, hne, Nat.add_assoc, zaa, getK, zab, zac]; done) | fail) (by rfl) (by first | assumption | (simp; done) | fail) (by rfl) (by simp) (fun v2 q2 h2 => ?_) (fun pos e q' h2 => ⟨_, Wk.refl _, ?_⟩); rotate_left 1; (focus (rw [h2, PR.zaK] at hR; (refine hpan _ _ ⟨{ n := _, env := [], obs := [(i, pOb l q')], next := nx }, (Wk.cut rfl (by simp [hn]) (by simp [wkO, zaa, getK, zab, zac, Ob.under, D.under, zad, zae, hi, hne, Nat.add_assoc, zab, zac, zaa, getK]) (by simp [wkU, zak, zaa, getK, D.under, hi, hne, Nat.add_assoc, zab, zac, zaa, getK]) (by simp [wkE, zak, zaa, getK, hi, hne, Nat.add_assoc, zab, zac, zaa, getK])), by simp [hn], ?_⟩; try simp); exact PPost.zaB hR.symm)); rw [h2, PR.zaR] at hR; (try simp [hi, hne, Nat.add_assoc]))
   repeat' (first
  | (refine zag ?_; simp [hne, del, Nat.add_assoc])
  | (refine zaj ?_; simp [hne, del, Nat.add_assoc])
  | (refine zah ?_; simp [hne, del, Nat.add_assoc])
  | (refine zas ?_; simp only [zan])
  | fail)
   (refine EndW.here ?_; (first | (refine EndOK.fin (.inr rfl) ?_) | (refine EndOK.fin (.inl rfl) ?_)); simp [zaC, zaf, Tryz.results122, hne, hi]; refine FinOK.cut [(i, pOb l q2)] (nx) (by simp [zaa, getK, zab, zac, Ob.under, D.under, zad, zae, hne, hi] <;> omega) (by simp [D.under]) (by simp [hn]) ?_; try simp)
   exact PPost.zb2 hR.symm rfl rfl
  ·rw [if_neg c2] at hR
   simp only [c2, Bool.false_eq_true, if_false] at hh2
   repeat' (first
  | (refine zag ?_; simp [hne, del, Nat.add_assoc])
  | (refine zaj ?_; simp [hne, del, Nat.add_assoc])
  | (refine zah ?_; simp [hne, del, Nat.add_assoc])
  | (refine zai ?_; simp [hne, del, Nat.add_assoc])
  | (refine zaq ?_; simp only [zan])
  | (refine CallP.ok1 (hh1 _ (by first | omega | (simp; done) | (simp; omega) | fail)) (by first | (simp [hne, del, Nat.add_assoc, zaa, getK, zab, zac]; done) | fail) (by rfl) (by first | assumption | (simp; done) | fail) (by rfl) (by simp) ?_; (try simp [hne, del, Nat.add_assoc]))
  | (refine CallP.ok1 (hh2 _ (by first | omega | (simp; done) | (simp; omega) | fail)) (by first | (simp [hne, del, Nat.add_assoc, zaa, getK, zab, zac]; done) | fail) (by rfl) (by first | assumption | (simp; done) | fail) (by rfl) (by simp) ?_; (try simp [hne, del, Nat.add_assoc]))
  | (refine zaF (by first | rfl | fail) ?_; simp [hne, del, Nat.add_assoc, frzN, frz1, zaE, zaD, St.frz, St.frzS, frzS, fv, za3, za4, za9, zaH, zaz, zay, del, frz, zba])
  | fail)
   (refine CallP.pp (zeh hl [98, 105, 100, 100, 105, 110, 103] (q := q1) (i := i) (by first | omega | (simp; done) | (simp; omega) | fail) g1) (by first | (simp [hi, hne, Nat.add_assoc, zaa, getK, zab, zac]; done) | fail) (by rfl) (by first | assumption | (simp; done) | fail) (by rfl) (by simp) (fun v2 q2 h2 => ?_) (fun pos e q' h2 => ⟨_, Wk.refl _, ?_⟩); rotate_left 1; (focus (rw [h2, PR.zaK] at hR; (refine hpan _ _ ⟨{ n := _, env := [], obs := [(i, pOb l q')], next := nx }, (Wk.cut rfl (by simp [hn]) (by simp [wkO, zaa, getK, zab, zac, Ob.under, D.under, zad, zae, hi, hne, Nat.add_assoc, zab, zac, zaa, getK]) (by simp [wkU, zak, zaa, getK, D.under, hi, hne, Nat.add_assoc, zab, zac, zaa, getK]) (by simp [wkE, zak, zaa, getK, hi, hne, Nat.add_assoc, zab, zac, zaa, getK])), by simp [hn], ?_⟩; try simp); exact PPost.zaB hR.symm)); rw [h2, PR.zaR] at hR; (try simp [hi, hne, Nat.add_assoc]))
   obtain ⟨_, g2⟩ := zaV hl _ h2 g1
   have hh3 := fun nx' (h : nx ≤ nx') => za7 l q2 [115, 101, 97, 108, 101, 100] i nx' (by omega) g2 hl.len
   by_cases c3 : isB l q2 [115, 101, 97, 108, 101, 100] = true
   ·have g3 := za2 hl c3
    rw [if_pos c3] at hR
    simp only [c3, if_true] at hh3
    repeat' (first
  | (refine zag ?_; simp [hne, del, Nat.add_assoc])
  | (refine zaj ?_; simp [hne, del, Nat.add_assoc])
  | (refine zah ?_; simp [hne, del, Nat.add_assoc])
  | (refine CallP.ok1 (hh3 _ (by first | omega | (simp; done) | (simp; omega) | fail)) (by first | (simp [hne, del, Nat.add_assoc, zaa, getK, zab, zac]; done) | fail) (by rfl) (by first | assumption | (simp; done) | fail) (by rfl) (by simp) ?_; (try simp [hne, del, Nat.add_assoc]))
  | (refine zaF (by first | rfl | fail) ?_; simp [hne, del, Nat.add_assoc, frzN, frz1, zaE, zaD, St.frz, St.frzS, frzS, fv, za3, za4, za9, zaH, zaz, zay, del, frz, zba])
  | fail)
    (refine CallP.pp (zeh hl [59] (q := q2 + 1) (i := i) (by first | omega | (simp; done) | (simp; omega) | fail) g3) (by first | (simp [hi, hne, Nat.add_assoc, zaa, getK, zab, zac]; done) | fail) (by rfl) (by first | assumption | (simp; done) | fail) (by rfl) (by simp) (fun v3 q3 h3 => ?_) (fun pos e q' h3 => ⟨_, Wk.refl _, ?_⟩); rotate_left 1; (focus (rw [h3, PR.zaK] at hR; (refine hpan _ _ ⟨{ n := _, env := [], obs := [(i, pOb l q')], next := nx }, (Wk.cut rfl (by simp [hn]) (by simp [wkO, zaa, getK, zab, zac, Ob.under, D.under, zad, zae, hi, hne, Nat.add_assoc, zab, zac, zaa, getK]) (by simp [wkU, zak, zaa, getK, D.under, hi, hne, Nat.add_assoc, zab, zac, zaa, getK]) (by simp [wkE, zak, zaa, getK, hi, hne, Nat.add_assoc, zab, zac, zaa, getK])), by simp [hn], ?_⟩; try simp); exact PPost.zaB hR.symm)); rw [h3, PR.zaR] at hR; (try simp [hi, hne, Nat.add_assoc]))
    repeat' (first
  | (refine zag ?_; simp [hne, del, Nat.add_assoc])
  | (refine zaj ?_; simp [hne, del, Nat.add_assoc])
  | (refine zah ?_; simp [hne, del, Nat.add_assoc])
  | (refine zas ?_; simp only [zan])
  | fail)
    (refine EndW.here ?_; (first | (refine EndOK.fin (.inr rfl) ?_) | (refine EndOK.fin (.inl rfl) ?_)); simp [zaC, zaf, Tryz.results122, hne, hi]; refine FinOK.cut [(i, pOb l q3)] (nx) (by simp [zaa, getK, zab, zac, Ob.under, D.under, zad, zae, hne, hi] <;> omega) (by simp [D.under]) (by simp [hn]) ?_; try simp)
    exact PPost.zb2 hR.symm rfl rfl
   ·rw [if_neg c3] at hR
    simp only [c3, Bool.false_eq_true, if_false] at hh3
    repeat' (first
  | (refine zag ?_; simp [hne, del, Nat.add_assoc])
  | (refine zaj ?_; simp [hne, del, Nat.add_assoc])
  | (refine zah ?_; simp [hne, del, Nat.add_assoc])
  | (refine CallP.ok1 (hh3 _ (by first | omega | (simp; done) | (simp; omega) | fail)) (by first | (simp [hne, del, Nat.add_assoc, zaa, getK, zab, zac]; done) | fail) (by rfl) (by first | assumption | (simp; done) | fail) (by rfl) (by simp) ?_; (try simp [hne, del, Nat.add_assoc]))
  | (refine zaF (by first | rfl | fail) ?_; simp [hne, del, Nat.add_assoc, frzN, frz1, zaE, zaD, St.frz, St.frzS, frzS, fv, za3, za4, za9, zaH, zaz, zay, del, frz, zba])
  | fail)
    (refine CallP.pp (zeh hl [59] (q := q2) (i := i) (by first | omega | (simp; done) | (simp; omega) | fail) g2) (by first | (simp [hi, hne, Nat.add_assoc, zaa, getK, zab, zac]; done) | fail) (by rfl) (by first | assumption | (simp; done) | fail) (by rfl) (by simp) (fun v3 q3 h3 => ?_) (fun pos e q' h3 => ⟨_, Wk.refl _, ?_⟩); rotate_left 1; (focus (rw [h3, PR.zaK] at hR; (refine hpan _ _ ⟨{ n := _, env := [], obs := [(i, pOb l q')], next := nx }, (Wk.cut rfl (by simp [hn]) (by simp [wkO, zaa, getK, zab, zac, Ob.under, D.under, zad, zae, hi, hne, Nat.add_assoc, zab, zac, zaa, getK]) (by simp [wkU, zak, zaa, getK, D.under, hi, hne, Nat.add_assoc, zab, zac, zaa, getK]) (by simp [wkE, zak, zaa, getK, hi, hne, Nat.add_assoc, zab, zac, zaa, getK])), by simp [hn], ?_⟩; try simp); exact PPost.zaB hR.symm)); rw [h3, PR.zaR] at hR; (try simp [hi, hne, Nat.add_assoc]))
    repeat' (first
  | (refine zag ?_; simp [hne, del, Nat.add_assoc])
  | (refine zaj ?_; simp [hne, del, Nat.add_assoc])
  | (refine zah ?_; simp [hne, del, Nat.add_assoc])
  | (refine zas ?_; simp only [zan])
  | fail)
    (refine EndW.here ?_; (first | (refine EndOK.fin (.inr rfl) ?_) | (refine EndOK.fin (.inl rfl) ?_)); simp [zaC, zaf, Tryz.results122, hne, hi]; refine FinOK.cut [(i, pOb l q3)] (nx) (by simp [zaa, getK, zab, zac, Ob.under, D.under, zad, zae, hne, hi] <;> omega) (by simp [D.under]) (by simp [hn]) ?_; try simp)
    exact PPost.zb2 hR.symm rfl rfl
theorem zm5 {l : List Tok} (hl : TokOK l) {p q : Nat} {x : Int × Bool} (h : zi7 l p = .ok x q) (hp : p < l.length) : p ≤ q ∧ q < l.length := by
 unfold zi7 at h
 obtain ⟨_, r1, h1, h⟩ := PR.zaG h
 have g1 := zaV hl _ h1 hp
 split at h
 ·rename_i hb
  obtain ⟨_, r2, h2, h⟩ := PR.zaG h
  have g2 := zaV hl _ h2 (za2 hl hb)
  cases h
  exact ⟨by omega, g2.2⟩
 ·split at h
  ·rename_i hb
   obtain ⟨_, r2, h2, h⟩ := PR.zaG h
   have g2 := zaV hl _ h2 (za2 hl hb)
   cases h
   exact ⟨by omega, g2.2⟩
  ·obtain ⟨_, r2, h2, h⟩ := PR.zaG h
   have g2 := zaV hl _ h2 g1.2
   split at h
   ·rename_i hb
    obtain ⟨_, r3, h3, h⟩ := PR.zaG h
    have g3 := zaV hl _ h3 (za2 hl hb)
    cases h
    exact ⟨by omega, g3.2⟩
   ·obtain ⟨_, r3, h3, h⟩ := PR.zaG h
    have g3 := zaV hl _ h3 g2.2
    cases h
    exact ⟨by omega, g3.2⟩
theorem zkd : Fun Tryz.prog 74 [] (· = .u (.sl (ordersW.map fun w => [.str w]))) := by
 simp only [ordersW, List.map_cons, List.map_nil]
 (refine Fun.of_bodyW Tryz.func74 rfl (by simp) fun Γ hn => ?_); simp only [entry, List.zipIdx_cons, List.zipIdx_nil, List.map_cons, List.map_nil, Nat.zero_add, Tryz.ntmps74]
 repeat' (first
  | (refine zag ?_; simp [zbv, zbq])
  | (refine zaj ?_; simp [zbv, zbq])
  | (refine zah ?_; simp [zbv, zbq])
  | (refine zas ?_; simp only [zan])
  | fail)
 (refine EndW.frzN 1 ?_; simp [frzN, frz1, zaE, zaD, St.frz, St.frzS, frzS, fv, za3, za4, za9, zaH, zaz, zay, del, frz, zba])
 refine EndW.here ?_
 (refine EndOK.val (.inr rfl) ?_; simp [zaC, zaf, zaw, Tryz.results74])
/-- The first of words that stands at a place is read. -/
def atW (l : List Tok) (q : Nat) (ws : List W8) : Option Nat := ws.findIdx? fun w => isB l q w
theorem zkx (l : List Tok) (q : Nat) (ws : List W8) (i nx : Nat) (hi : i < nx) (hq : q < l.length) (hl : TokOK l) :
  RetX Tryz.prog 202 [.u (.sl (ws.map fun w => [.str w])), .bnd (.func 200) [.ptr i 0]] [(i, pOb l q)] nx
   (fun r o n => r = .val (match atW l q ws with | some j => zg3 j | none => zg3 (-1)) ∧ o = [(i, pOb l (if (atW l q ws).isSome then q + 1 else q))] ∧ n = nx) := by
 have hne := zaQ hi
 generalize hA : atW l q ws = A
 (refine RetX.of_bodyW Tryz.func202 rfl (by simp) fun Γ hn hpan => ?_); simp only [entry, List.zipIdx_cons, List.zipIdx_nil, List.map_cons, List.map_nil, Nat.zero_add, Tryz.ntmps202]
 refine zjl (x := 0) rfl fun hll => ?_
 simp at hll
 repeat' (first
  | (refine zag ?_; simp)
  | (refine zaj ?_; simp)
  | (refine zah ?_; simp)
  | (refine zau ?_; simp)
  | fail)
 refine zde (α := { j : Nat // j ≤ ws.length ∧ ∀ w ∈ ws.take j, isB l q w = false }) [0, 1, 7] (fun x => [(8, .u (.int .i64 x.1))]) (fun x => [(i, pOb l q)]) nx (fun x => ws.length - x.1) ⟨0, by omega, by simp⟩ ?_ ?_
 ·exact (Wk.cut rfl (by simp [hn, St.lp]) (by simp [wkO, St.lp, zaa, getK, Ob.under, D.under, zad, zae, hi]) (by simp [wkU, St.lp, zak, zaa, getK, D.under, hi]) (by simp [wkE, St.lp, zak, zaa, getK, hi] <;> (try (intros; simp_all; done)) <;> (try (intros; omega)) <;> (try grind)))
 rintro ⟨j, h1, h2⟩
 simp [St.lp, St.only, zak, zaa, getK]
 rcases hx : ws[j]? with _ | w
 ·have hge : ws.length ≤ j := by simpa using hx
  rw [List.take_of_length_le hge] at h2
  have hn0 : atW l q ws = none := by
   unfold atW
   rw [List.findIdx?_eq_none_iff]
   exact h2
  rw [hn0] at hA
  subst hA
  repeat' (first
  | (refine zag ?_; simp [hx])
  | (refine zaj ?_; simp [hx])
  | (refine ⟨by omega, ?_⟩)
  | (refine zah ?_; simp [hx])
  | (refine zas ?_; simp only [zan])
  | (refine zaZ ?_; simp [zan])
  | (intro hc <;> (try (exfalso; omega)))
  | fail)
  (refine EndW.here ?_; (first | (refine EndOK.fin (.inr rfl) ?_) | (refine EndOK.fin (.inl rfl) ?_)); simp [zaC, zaf, Tryz.results202]; refine FinOK.here (by simp) ?_; try simp)
 ·have hlt : j < ws.length := (List.getElem?_eq_some_iff.1 hx).1
  have hh := za7 l q w i nx hi hq hl.len
  cases hb : isB l q w with
  | false =>
   rw [hb, if_neg (by simp)] at hh
   repeat' (first
  | (refine zag ?_; simp [hx])
  | (refine zaj ?_; simp [hx])
  | (refine zah ?_; simp [hx])
  | (refine zaq ?_; simp only [zan])
  | (refine ⟨?_, by omega⟩)
  | (intro hc <;> (try (exfalso; omega)))
  | fail)
   refine CallP.bok hh (by simp [zaa, getK]) rfl (by first | assumption | simp) rfl (by simp) ?_
   repeat' (first
  | (refine zag ?_; simp [hx])
  | (refine zaj ?_; simp [hx])
  | (refine ⟨by omega, ?_⟩)
  | (refine zai ?_; simp [hx])
  | (refine zap ?_; simp [hx])
  | (refine zaq ?_; simp only [zan])
  | fail)
   refine LoopW.next ⟨j + 1, by omega, zbE hx h2 hb⟩ (by simp; omega) ?_
   exact (Wk.cut rfl (by simp [hn, St.lp]) (by simp [wkO, St.lp, zaa, getK, Ob.under, D.under, zad, zae, hi, zab, zac, zaa, getK]) (by simp [wkU, St.lp, zak, zaa, getK, D.under, hi, zab, zac, zaa, getK]) (by simp [wkE, St.lp, zak, zaa, getK, hi, zab, zac, zaa, getK] <;> (try (intros; simp_all; done)) <;> (try (intros; omega)) <;> (try grind)))
  | true =>
   rw [hb, if_pos rfl] at hh
   have hn0 : atW l q ws = some j := by
    unfold atW
    rw [List.findIdx?_eq_some_iff_getElem]
    obtain ⟨h3, h4⟩ := List.getElem?_eq_some_iff.1 hx
    refine ⟨h3, by rw [h4]; exact hb, fun k hk => ?_⟩
    have := h2 ws[k] (by rw [List.mem_take_iff_getElem]; exact ⟨k, by omega, rfl⟩)
    simp [this]
   rw [hn0] at hA
   subst hA
   repeat' (first
  | (refine zag ?_; simp [hx])
  | (refine zaj ?_; simp [hx])
  | (refine zah ?_; simp [hx])
  | (refine zaq ?_; simp only [zan])
  | (refine ⟨?_, by omega⟩)
  | (intro hc <;> (try (exfalso; omega)))
  | fail)
   refine CallP.bok hh (by simp [zaa, getK]) rfl (by first | assumption | simp) rfl (by simp) ?_
   repeat' (first
  | (refine zag ?_; simp [hx])
  | (refine zaj ?_; simp [hx])
  | (refine zah ?_; simp [hx])
  | (refine zai ?_; simp [hx])
  | (refine zas ?_; simp only [zan])
  | fail)
   (refine EndW.here ?_; (first | (refine EndOK.fin (.inr rfl) ?_) | (refine EndOK.fin (.inl rfl) ?_)); simp [zaC, zaf, Tryz.results202]; refine FinOK.here (by simp) ?_; try simp)
theorem zlm (l : List Tok) (p : Nat) (i nx : Nat) (hi : i < nx) (hp : p < l.length) (hl : TokOK l) :
  RetX Tryz.prog 126 [.ptr i 0] [(i, pOb l p)] nx (PPost l i nx zg3 (zfI l p)) := by
 have hne := zaQ hi
 have hll := hl.len
 have hor := zkd
 generalize hR : zfI l p = R
 rw [zfI] at hR
 have hh1 := fun nx' (h : nx ≤ nx') => za7 l p [111, 114, 100, 101, 114] i nx' (by omega) hp hl.len
 by_cases c1 : isB l p [111, 114, 100, 101, 114] = true
 ·have g1 := za2 hl c1
  rw [if_pos c1] at hR
  simp only [c1, if_true] at hh1
  have hix := fun nx' (h : nx ≤ nx') => zkx l (p + 1) ordersW i nx' (by omega) g1 hl
  have hat : atW l (p + 1) ordersW = ordersW.findIdx? fun w => isB l (p + 1) w := rfl
  rw [← hat] at hR
  obtain ⟨t, ht⟩ : ∃ t, l[p + 1]? = some t := ⟨_, List.getElem?_eq_getElem g1⟩
  have hpa : zcQ l (p + 1) = t.pos := by unfold zcQ; rw [ht]
  rw [hpa] at hR
  cases hj : atW l (p + 1) ordersW with
  | none =>
   have hc2 := fun e nx' (h : nx ≤ nx') => zcT l (p + 1) t e i nx' (by omega) ht hl.len
   rw [hj] at hR hix
   simp only [Option.isSome_none, Bool.false_eq_true, if_false] at hR hix
   (refine RetX.of_bodyW Tryz.func126 rfl (by simp) fun Γ hn hpan => ?_); simp only [entry, List.zipIdx_cons, List.zipIdx_nil, List.map_cons, List.map_nil, Nat.zero_add, Tryz.ntmps126]
   repeat' (first
  | (refine zag ?_; simp [hne, del, Nat.add_assoc])
  | (refine zaj ?_; simp [hne, del, Nat.add_assoc])
  | (refine zah ?_; simp [hne, del, Nat.add_assoc])
  | (refine zai ?_; simp [hne, del, Nat.add_assoc])
  | (refine zaq ?_; simp only [zan])
  | (refine CallP.fun_ (hor) (by first | rfl | fail) (by first | assumption | (simp; done) | fail) (by first | (simp [hne, del, Nat.add_assoc]; done) | (simp [hne, del, Nat.add_assoc]; rfl) | fail) (by first | (simp; done) | fail) (fun d hd => ?_); subst hd; (try simp [hne, del, Nat.add_assoc]))
  | (refine CallP.ok1 (hh1 _ (by first | omega | (simp; done) | (simp; omega) | fail)) (by first | (simp [hne, del, Nat.add_assoc, zaa, getK, zab, zac]; done) | fail) (by rfl) (by first | assumption | (simp; done) | fail) (by rfl) (by simp) ?_; (try simp [hne, del, Nat.add_assoc]))
  | (refine CallP.ok1 (hix _ (by first | omega | (simp; done) | (simp; omega) | fail)) (by first | (simp [hne, del, Nat.add_assoc, zaa, getK, zab, zac]; done) | fail) (by rfl) (by first | assumption | (simp; done) | fail) (by rfl) (by simp) ?_; (try simp [hne, del, Nat.add_assoc]))
  | (refine CallP.zed (hc2 _ _ (by first | omega | (simp; done) | (simp; omega) | fail)) (by first | (simp [hne, del, Nat.add_assoc, zaa, getK, zab, zac]; done) | fail) (by rfl) (by first | assumption | (simp; done) | fail) (by rfl) (by simp) ?_; rintro ob' ⟨q', rfl⟩; refine ⟨_, Wk.refl _, ?_⟩)
  | fail)
   (refine hpan _ _ ⟨{ n := _, env := [], obs := [(i, pOb l q')], next := nx }, (Wk.cut rfl (by simp [hn]) (by simp [wkO, zaa, getK, zab, zac, Ob.under, D.under, zad, zae, hi, hne, zab, zac, zaa, getK]) (by simp [wkU, zak, zaa, getK, D.under, hi, hne, zab, zac, zaa, getK]) (by simp [wkE, zak, zaa, getK, hi, hne, zab, zac, zaa, getK])), by simp [hn], ?_⟩; try simp)
   exact PPost.zaB hR.symm
  | some j =>
   have g2 : p + 1 + 1 < l.length := by
    unfold atW at hj
    rw [List.findIdx?_eq_some_iff_getElem] at hj
    obtain ⟨_, hb, _⟩ := hj
    exact za2 hl hb
   have hj0 : (0 : Int) ≤ (j : Int) := by omega
   have hc1 := fun e nx' (h : nx ≤ nx') => zd9 l (p + 1 + 1) e i nx' (by omega)
   rw [hj] at hR hix
   simp only [Option.isSome_some, if_true] at hR hix
   (refine RetX.of_bodyW Tryz.func126 rfl (by simp) fun Γ hn hpan => ?_); simp only [entry, List.zipIdx_cons, List.zipIdx_nil, List.map_cons, List.map_nil, Nat.zero_add, Tryz.ntmps126]
   repeat' (first
  | (refine zag ?_; simp [hne, del, Nat.add_assoc, hj0])
  | (refine zaj ?_; simp [hne, del, Nat.add_assoc, hj0])
  | (refine zah ?_; simp [hne, del, Nat.add_assoc, hj0])
  | (refine zai ?_; simp [hne, del, Nat.add_assoc, hj0])
  | (refine zaq ?_; simp only [zan])
  | (refine CallP.fun_ (hor) (by first | rfl | fail) (by first | assumption | (simp; done) | fail) (by first | (simp [hne, del, Nat.add_assoc, hj0]; done) | (simp [hne, del, Nat.add_assoc, hj0]; rfl) | fail) (by first | (simp; done) | fail) (fun d hd => ?_); subst hd; (try simp [hne, del, Nat.add_assoc, hj0]))
  | (refine CallP.ok1 (hh1 _ (by first | omega | (simp; done) | (simp; omega) | fail)) (by first | (simp [hne, del, Nat.add_assoc, hj0, zaa, getK, zab, zac]; done) | fail) (by rfl) (by first | assumption | (simp; done) | fail) (by rfl) (by simp) ?_; (try simp [hne, del, Nat.add_assoc, hj0]))
  | (refine CallP.ok1 (hix _ (by first | omega | (simp; done) | (simp; omega) | fail)) (by first | (simp [hne, del, Nat.add_assoc, hj0, zaa, getK, zab, zac]; done) | fail) (by rfl) (by first | assumption | (simp; done) | fail) (by rfl) (by simp) ?_; (try simp [hne, del, Nat.add_assoc, hj0]))
  | (refine CallP.ok1 (hc1 _ _ (by first | omega | (simp; done) | (simp; omega) | fail)) (by first | (simp [hne, del, Nat.add_assoc, hj0, zaa, getK, zab, zac]; done) | fail) (by rfl) (by first | assumption | (simp; done) | fail) (by rfl) (by simp) ?_; (try simp [hne, del, Nat.add_assoc, hj0]))
  | (refine zaF (by first | rfl | fail) ?_; simp [hne, del, Nat.add_assoc, hj0, frzN, frz1, zaE, zaD, St.frz, St.frzS, frzS, fv, za3, za4, za9, zaH, zaz, zay, del, frz, zba])
  | fail)
   (refine CallP.pp (zeh hl [59] (q := p + 1 + 1) (i := i) (by first | omega | (simp; done) | (simp; omega) | fail) g2) (by first | (simp [hi, hne, Nat.add_assoc, zaa, getK, zab, zac]; done) | fail) (by rfl) (by first | assumption | (simp; done) | fail) (by rfl) (by simp) (fun v2 q2 h2 => ?_) (fun pos e q' h2 => ⟨_, Wk.refl _, ?_⟩); rotate_left 1; (focus (rw [h2, PR.zaK] at hR; (refine hpan _ _ ⟨{ n := _, env := [], obs := [(i, pOb l q')], next := nx }, (Wk.cut rfl (by simp [hn]) (by simp [wkO, zaa, getK, zab, zac, Ob.under, D.under, zad, zae, hi, hne, Nat.add_assoc, zab, zac, zaa, getK]) (by simp [wkU, zak, zaa, getK, D.under, hi, hne, Nat.add_assoc, zab, zac, zaa, getK]) (by simp [wkE, zak, zaa, getK, hi, hne, Nat.add_assoc, zab, zac, zaa, getK])), by simp [hn], ?_⟩; try simp); exact PPost.zaB hR.symm)); rw [h2, PR.zaR] at hR; (try simp [hi, hne, Nat.add_assoc]))
   repeat' (first
  | (refine zag ?_; simp [hne, del])
  | (refine zaj ?_; simp [hne, del])
  | (refine zah ?_; simp [hne, del])
  | (refine zas ?_; simp only [zan])
  | fail)
   (refine EndW.here ?_; (first | (refine EndOK.fin (.inr rfl) ?_) | (refine EndOK.fin (.inl rfl) ?_)); simp [zaC, zaf, Tryz.results126, hne, hi]; refine FinOK.cut [(i, pOb l q2)] (nx) (by simp [zaa, getK, zab, zac, Ob.under, D.under, zad, zae, hne, hi] <;> omega) (by simp [D.under]) (by simp [hn]) ?_; try simp)
   exact PPost.zb2 hR.symm rfl rfl
 ·rw [if_neg c1] at hR
  simp only [c1, Bool.false_eq_true, if_false] at hh1
  (refine RetX.of_bodyW Tryz.func126 rfl (by simp) fun Γ hn hpan => ?_); simp only [entry, List.zipIdx_cons, List.zipIdx_nil, List.map_cons, List.map_nil, Nat.zero_add, Tryz.ntmps126]
  repeat' (first
  | (refine zag ?_; simp [hne, del, Nat.add_assoc])
  | (refine zaj ?_; simp [hne, del, Nat.add_assoc])
  | (refine zah ?_; simp [hne, del, Nat.add_assoc])
  | (refine zai ?_; simp [hne, del, Nat.add_assoc])
  | (refine zas ?_; simp only [zan])
  | (refine CallP.ok1 (hh1 _ (by first | omega | (simp; done) | (simp; omega) | fail)) (by first | (simp [hne, del, Nat.add_assoc, zaa, getK, zab, zac]; done) | fail) (by rfl) (by first | assumption | (simp; done) | fail) (by rfl) (by simp) ?_; (try simp [hne, del, Nat.add_assoc]))
  | fail)
  (refine EndW.here ?_; (first | (refine EndOK.fin (.inr rfl) ?_) | (refine EndOK.fin (.inl rfl) ?_)); simp [zaC, zaf, Tryz.results126, hne, hi]; refine FinOK.cut [(i, pOb l p)] (nx) (by simp [zaa, getK, zab, zac, Ob.under, D.under, zad, zae, hne, hi] <;> omega) (by simp [D.under]) (by simp [hn]) ?_; try simp)
  exact PPost.zb2 hR.symm rfl rfl
theorem zln {l : List Tok} (hl : TokOK l) {p q : Nat} {n : Int} (h : zfI l p = .ok n q) (hp : p < l.length) : p ≤ q ∧ q < l.length := by
 unfold zfI at h
 split at h
 ·split at h
  ·rename_i j hj
   rw [List.findIdx?_eq_some_iff_getElem] at hj
   obtain ⟨_, hb, _⟩ := hj
   obtain ⟨_, r2, h2, h⟩ := PR.zaG h
   have g2 := zaV hl _ h2 (za2 hl hb)
   cases h
   exact ⟨by omega, g2.2⟩
  ·cases h
 ·cases h; exact ⟨by omega, hp⟩
theorem zhF (x : Let) (s : W8) : Fun Tryz.prog 128 (zoa x :: [U.row [.str s] 0].map .u) (· = .u (.bool (decide (x.name = s)))) := by
 simp only [zoa, List.map_cons, List.map_nil]
 (refine Fun.of_body Tryz.func128 rfl (by simp) fun Γ hn => ?_); simp only [entry, List.zipIdx_cons, List.zipIdx_nil, List.map_cons, List.map_nil, Nat.zero_add, Tryz.ntmps128]
 repeat' (first
  | (refine zag ?_; simp)
  | (refine zaj ?_; simp)
  | (refine zah ?_; simp)
  | (refine zas ?_; simp only [zan])
  | fail)
 (refine EndOK.val (.inr rfl) ?_; simp [zaC, zaf, zaw, Tryz.results128])
theorem zk5 (lets : List Let) (s : W8) : Fun Tryz.prog 90 [.u (zgZ lets), .fnc (.func 128) [.u (.row [.str s] 0)]]
  (· = .u (.bool (lets.any fun x => decide (x.name = s)))) :=
 zeI lets 128 [U.row [.str s] 0] _ (fun x _ => zhF x s) (by simp) (fun _ => rfl) (fun _ => rfl)
theorem zkQ (l : List Tok) (hl0 : 0 < l.length) (hl : TokOK l) (hl2 : l.length ≤ 2001) :
  RetX Tryz.prog 64 [.ptr 3 0] [(3, pOb l 0)] 4 (PPost l 3 4 byD (zor l)) := by
 have hi : 3 < 4 := by decide
 have hne := zaQ hi
 have hll := hl.len
 have htE : True := trivial
 generalize hR : zor l = R
 rw [zor] at hR
 (refine RetX.of_bodyW Tryz.func64 rfl (by simp) fun Γ hn hpan => ?_); simp only [entry, List.zipIdx_cons, List.zipIdx_nil, List.map_cons, List.map_nil, Nat.zero_add, Tryz.ntmps64]
 repeat' (first
  | (refine zag ?_; simp [hne])
  | (refine zaj ?_; simp [hne])
  | (refine zah ?_; simp [hne])
  | fail)
 (refine CallP.pp (zm3 l 0 3 _ (by first | omega | (simp; done) | (simp; omega) | fail) hl0 hl) (by first | (simp [hi, hne, del, htE, zaa, getK, zab, zac]; done) | fail) (by rfl) (by first | assumption | (simp; done) | fail) (by rfl) (by simp) (fun kb q1 h1 => ?_) (fun pos e q' h1 => ⟨_, Wk.refl _, ?_⟩); rotate_left 1; (focus (rw [h1, PR.zaK] at hR; (refine hpan _ _ ⟨{ n := _, env := [], obs := [(3, pOb l q')], next := 4 }, (Wk.cut rfl (by simp [hn]) (by simp [wkO, zaa, getK, zab, zac, Ob.under, D.under, zad, zae, hi, hne, del, htE, zab, zac, zaa, getK]) (by simp [wkU, zak, zaa, getK, D.under, hi, hne, del, htE, zab, zac, zaa, getK]) (by simp [wkE, zak, zaa, getK, hi, hne, del, htE, zab, zac, zaa, getK])), by simp [hn], ?_⟩; try simp); exact PPost.zaB hR.symm)); rw [h1, PR.zaR] at hR; (try simp [hi, hne, del, htE]))
 obtain ⟨_, g1⟩ := zm5 hl h1 hl0
 have hm := zdC l q1 [112, 101, 114, 105, 111, 100] g1 hl.len
 repeat' (first
  | (refine zag ?_; simp [hne, del])
  | (refine zaj ?_; simp [hne, del])
  | (refine zah ?_; simp [hne, del])
  | (refine CallP.fun_ (hm) (by first | rfl | fail) (by first | assumption | (simp; done) | fail) (by first | (simp [hne, del]; done) | (simp [hne, del]; rfl) | fail) (by first | (simp; done) | fail) (fun d hd => ?_); subst hd; (try simp [hne, del]))
  | fail)
 (refine CallP.pp (zjz l q1 [112, 101, 114, 105, 111, 100] 3 _ (by first | omega | (simp; done) | (simp; omega) | fail) g1 hl) (by first | (simp [hi, hne, del, htE, zaa, getK, zab, zac]; done) | fail) (by rfl) (by first | assumption | (simp; done) | fail) (by rfl) (by simp) (fun u2 q2 h2 => ?_) (fun pos e q' h2 => ⟨_, Wk.refl _, ?_⟩); rotate_left 1; (focus (rw [h2, PR.zaK] at hR; (refine hpan _ _ ⟨{ n := _, env := [], obs := [(3, pOb l q')], next := 4 }, (Wk.cut rfl (by simp [hn]) (by simp [wkO, zaa, getK, zab, zac, Ob.under, D.under, zad, zae, hi, hne, del, htE, zab, zac, zaa, getK]) (by simp [wkU, zak, zaa, getK, D.under, hi, hne, del, htE, zab, zac, zaa, getK]) (by simp [wkE, zak, zaa, getK, hi, hne, del, htE, zab, zac, zaa, getK])), by simp [hn], ?_⟩; try simp); exact PPost.zaB hR.symm)); rw [h2, PR.zaR] at hR; (try simp [hi, hne, del, htE]))
 obtain ⟨rfl, _⟩ := zly h2
 repeat' (first
  | (refine zag ?_; simp [hne, del])
  | (refine zaj ?_; simp [hne, del])
  | (refine zah ?_; simp [hne, del])
  | (refine zaF (by first | rfl | fail) ?_; simp [hne, del, frzN, frz1, zaE, zaD, St.frz, St.frzS, frzS, fv, za3, za4, za9, zaH, zaz, zay, del, frz, zba])
  | fail)
 (refine CallP.pp (zc0 l q2 [112, 101, 114, 105, 111, 100] 1 1000 [[100, 97, 121, 115], [59]] 3 _ (by first | omega | (simp; done) | (simp; omega) | fail) g1 hl (by simp)) (by first | (simp [hi, hne, del, htE, zaa, getK, zab, zac]; done) | fail) (by rfl) (by first | assumption | (simp; done) | fail) (by rfl) (by simp) (fun period q3 h3 => ?_) (fun pos e q' h3 => ⟨_, Wk.refl _, ?_⟩); rotate_left 1; (focus (rw [h3, PR.zaK] at hR; (refine hpan _ _ ⟨{ n := _, env := [], obs := [(3, pOb l q')], next := 4 }, (Wk.cut rfl (by simp [hn]) (by simp [wkO, zaa, getK, zab, zac, Ob.under, D.under, zad, zae, hi, hne, del, htE, zab, zac, zaa, getK]) (by simp [wkU, zak, zaa, getK, D.under, hi, hne, del, htE, zab, zac, zaa, getK]) (by simp [wkE, zak, zaa, getK, hi, hne, del, htE, zab, zac, zaa, getK])), by simp [hn], ?_⟩; try simp); exact PPost.zaB hR.symm)); rw [h3, PR.zaR] at hR; (try simp [hi, hne, del, htE]))
 obtain ⟨_, g3⟩ := zc1 hl h3 g1
 repeat' (first
  | (refine zag ?_; simp [hne, del])
  | (refine zaj ?_; simp [hne, del])
  | (refine zah ?_; simp [hne, del])
  | fail)
 have hm := zdC l q3 [108, 97, 115, 116] g3 hl.len
 repeat' (first
  | (refine zag ?_; simp [hne, del])
  | (refine CallP.fun_ (hm) (by first | rfl | fail) (by first | assumption | (simp; done) | fail) (by first | (simp [hne, del]; done) | (simp [hne, del]; rfl) | fail) (by first | (simp; done) | fail) (fun d hd => ?_); subst hd; (try simp [hne, del]))
  | fail)
 (refine CallP.pp (zjz l q3 [108, 97, 115, 116] 3 _ (by first | omega | (simp; done) | (simp; omega) | fail) g3 hl) (by first | (simp [hi, hne, del, htE, zaa, getK, zab, zac]; done) | fail) (by rfl) (by first | assumption | (simp; done) | fail) (by rfl) (by simp) (fun u4 q4 h4 => ?_) (fun pos e q' h4 => ⟨_, Wk.refl _, ?_⟩); rotate_left 1; (focus (rw [h4, PR.zaK] at hR; (refine hpan _ _ ⟨{ n := _, env := [], obs := [(3, pOb l q')], next := 4 }, (Wk.cut rfl (by simp [hn]) (by simp [wkO, zaa, getK, zab, zac, Ob.under, D.under, zad, zae, hi, hne, del, htE, zab, zac, zaa, getK]) (by simp [wkU, zak, zaa, getK, D.under, hi, hne, del, htE, zab, zac, zaa, getK]) (by simp [wkE, zak, zaa, getK, hi, hne, del, htE, zab, zac, zaa, getK])), by simp [hn], ?_⟩; try simp); exact PPost.zaB hR.symm)); rw [h4, PR.zaR] at hR; (try simp [hi, hne, del, htE]))
 obtain ⟨rfl, _⟩ := zly h4
 repeat' (first
  | (refine zag ?_; simp [hne, del])
  | (refine zaj ?_; simp [hne, del])
  | (refine zah ?_; simp [hne, del])
  | (refine zaF (by first | rfl | fail) ?_; simp [hne, del, frzN, frz1, zaE, zaD, St.frz, St.frzS, frzS, fv, za3, za4, za9, zaH, zaz, zay, del, frz, zba])
  | fail)
 (refine CallP.pp (zc0 l q4 [108, 97, 115, 116] 1 1000 [[59]] 3 _ (by first | omega | (simp; done) | (simp; omega) | fail) g3 hl (by simp)) (by first | (simp [hi, hne, del, htE, zaa, getK, zab, zac]; done) | fail) (by rfl) (by first | assumption | (simp; done) | fail) (by rfl) (by simp) (fun last q5 h5 => ?_) (fun pos e q' h5 => ⟨_, Wk.refl _, ?_⟩); rotate_left 1; (focus (rw [h5, PR.zaK] at hR; (refine hpan _ _ ⟨{ n := _, env := [], obs := [(3, pOb l q')], next := 4 }, (Wk.cut rfl (by simp [hn]) (by simp [wkO, zaa, getK, zab, zac, Ob.under, D.under, zad, zae, hi, hne, del, htE, zab, zac, zaa, getK]) (by simp [wkU, zak, zaa, getK, D.under, hi, hne, del, htE, zab, zac, zaa, getK]) (by simp [wkE, zak, zaa, getK, hi, hne, del, htE, zab, zac, zaa, getK])), by simp [hn], ?_⟩; try simp); exact PPost.zaB hR.symm)); rw [h5, PR.zaR] at hR; (try simp [hi, hne, del, htE]))
 obtain ⟨_, g5⟩ := zc1 hl h5 g3
 repeat' (first
  | (refine zag ?_; simp [hne, del])
  | (refine zaj ?_; simp [hne, del])
  | (refine zah ?_; simp [hne, del])
  | (refine zaF (by first | rfl | fail) ?_; simp [hne, del, frzN, frz1, zaE, zaD, St.frz, St.frzS, frzS, fv, za3, za4, za9, zaH, zaz, zay, del, frz, zba])
  | fail)
 (refine CallP.pp (zc0 l q5 [103, 114, 97, 99, 101] 0 1000 [[100, 97, 121, 115], [59]] 3 _ (by first | omega | (simp; done) | (simp; omega) | fail) g5 hl (by simp)) (by first | (simp [hi, hne, del, htE, zaa, getK, zab, zac]; done) | fail) (by rfl) (by first | assumption | (simp; done) | fail) (by rfl) (by simp) (fun grace q6 h6 => ?_) (fun pos e q' h6 => ⟨_, Wk.refl _, ?_⟩); rotate_left 1; (focus (rw [h6, PR.zaK] at hR; (refine hpan _ _ ⟨{ n := _, env := [], obs := [(3, pOb l q')], next := 4 }, (Wk.cut rfl (by simp [hn]) (by simp [wkO, zaa, getK, zab, zac, Ob.under, D.under, zad, zae, hi, hne, del, htE, zab, zac, zaa, getK]) (by simp [wkU, zak, zaa, getK, D.under, hi, hne, del, htE, zab, zac, zaa, getK]) (by simp [wkE, zak, zaa, getK, hi, hne, del, htE, zab, zac, zaa, getK])), by simp [hn], ?_⟩; try simp); exact PPost.zaB hR.symm)); rw [h6, PR.zaR] at hR; (try simp [hi, hne, del, htE]))
 obtain ⟨_, g6⟩ := zc1 hl h6 g5
 repeat' (first
  | (refine zag ?_; simp [hne, del])
  | (refine zaj ?_; simp [hne, del])
  | (refine zah ?_; simp [hne, del])
  | (refine zaF (by first | rfl | fail) ?_; simp [hne, del, frzN, frz1, zaE, zaD, St.frz, St.frzS, frzS, fv, za3, za4, za9, zaH, zaz, zay, del, frz, zba])
  | fail)
 (refine CallP.pp (zc0 l q6 [119, 97, 105, 116] 0 1000 [[100, 97, 121, 115], [59]] 3 _ (by first | omega | (simp; done) | (simp; omega) | fail) g6 hl (by simp)) (by first | (simp [hi, hne, del, htE, zaa, getK, zab, zac]; done) | fail) (by rfl) (by first | assumption | (simp; done) | fail) (by rfl) (by simp) (fun wait q7 h7 => ?_) (fun pos e q' h7 => ⟨_, Wk.refl _, ?_⟩); rotate_left 1; (focus (rw [h7, PR.zaK] at hR; (refine hpan _ _ ⟨{ n := _, env := [], obs := [(3, pOb l q')], next := 4 }, (Wk.cut rfl (by simp [hn]) (by simp [wkO, zaa, getK, zab, zac, Ob.under, D.under, zad, zae, hi, hne, del, htE, zab, zac, zaa, getK]) (by simp [wkU, zak, zaa, getK, D.under, hi, hne, del, htE, zab, zac, zaa, getK]) (by simp [wkE, zak, zaa, getK, hi, hne, del, htE, zab, zac, zaa, getK])), by simp [hn], ?_⟩; try simp); exact PPost.zaB hR.symm)); rw [h7, PR.zaR] at hR; (try simp [hi, hne, del, htE]))
 obtain ⟨_, g7⟩ := zc1 hl h7 g6
 repeat' (first
  | (refine zag ?_; simp [hne, del])
  | (refine zaj ?_; simp [hne, del])
  | (refine zah ?_; simp [hne, del])
  | fail)
 (refine CallP.pp (zlm l q7 3 _ (by first | omega | (simp; done) | (simp; omega) | fail) g7 hl) (by first | (simp [hi, hne, del, htE, zaa, getK, zab, zac]; done) | fail) (by rfl) (by first | assumption | (simp; done) | fail) (by rfl) (by simp) (fun order q8 h8 => ?_) (fun pos e q' h8 => ⟨_, Wk.refl _, ?_⟩); rotate_left 1; (focus (rw [h8, PR.zaK] at hR; (refine hpan _ _ ⟨{ n := _, env := [], obs := [(3, pOb l q')], next := 4 }, (Wk.cut rfl (by simp [hn]) (by simp [wkO, zaa, getK, zab, zac, Ob.under, D.under, zad, zae, hi, hne, del, htE, zab, zac, zaa, getK]) (by simp [wkU, zak, zaa, getK, D.under, hi, hne, del, htE, zab, zac, zaa, getK]) (by simp [wkE, zak, zaa, getK, hi, hne, del, htE, zab, zac, zaa, getK])), by simp [hn], ?_⟩; try simp); exact PPost.zaB hR.symm)); rw [h8, PR.zaR] at hR; (try simp [hi, hne, del, htE]))
 obtain ⟨_, g8⟩ := zln hl h8 g7
 repeat' (first
  | (refine zag ?_; simp [hne, del])
  | (refine zaj ?_; simp [hne, del])
  | (refine zah ?_; simp [hne, del])
  | (refine zaF (by first | rfl | fail) ?_; simp [hne, del, frzN, frz1, zaE, zaD, St.frz, St.frzS, frzS, fv, za3, za4, za9, zaH, zaz, zay, del, frz, zba])
  | fail)
 (refine CallP.pp (zc0 l q8 [98, 97, 99, 107, 115] 0 60 [[59]] 3 _ (by first | omega | (simp; done) | (simp; omega) | fail) g8 hl (by simp)) (by first | (simp [hi, hne, del, htE, zaa, getK, zab, zac]; done) | fail) (by rfl) (by first | assumption | (simp; done) | fail) (by rfl) (by simp) (fun backs q9 h9 => ?_) (fun pos e q' h9 => ⟨_, Wk.refl _, ?_⟩); rotate_left 1; (focus (rw [h9, PR.zaK] at hR; (refine hpan _ _ ⟨{ n := _, env := [], obs := [(3, pOb l q')], next := 4 }, (Wk.cut rfl (by simp [hn]) (by simp [wkO, zaa, getK, zab, zac, Ob.under, D.under, zad, zae, hi, hne, del, htE, zab, zac, zaa, getK]) (by simp [wkU, zak, zaa, getK, D.under, hi, hne, del, htE, zab, zac, zaa, getK]) (by simp [wkE, zak, zaa, getK, hi, hne, del, htE, zab, zac, zaa, getK])), by simp [hn], ?_⟩; try simp); exact PPost.zaB hR.symm)); rw [h9, PR.zaR] at hR; (try simp [hi, hne, del, htE]))
 obtain ⟨_, g9⟩ := zc1 hl h9 g8
 repeat' (first
  | (refine zag ?_; simp [hne, del])
  | (refine zaj ?_; simp [hne, del])
  | (refine zah ?_; simp [hne, del])
  | (refine zaF (by first | rfl | fail) ?_; simp [hne, del, frzN, frz1, zaE, zaD, St.frz, St.frzS, frzS, fv, za3, za4, za9, zaH, zaz, zay, del, frz, zba])
  | fail)
 (refine CallP.pp (zc0 l q9 [118, 111, 105, 99, 101, 115] 0 1000 [[112, 101, 114], [109, 105, 108, 108, 101], [59]] 3 _ (by first | omega | (simp; done) | (simp; omega) | fail) g9 hl (by simp)) (by first | (simp [hi, hne, del, htE, zaa, getK, zab, zac]; done) | fail) (by rfl) (by first | assumption | (simp; done) | fail) (by rfl) (by simp) (fun voices q10 h10 => ?_) (fun pos e q' h10 => ⟨_, Wk.refl _, ?_⟩); rotate_left 1; (focus (rw [h10, PR.zaK] at hR; (refine hpan _ _ ⟨{ n := _, env := [], obs := [(3, pOb l q')], next := 4 }, (Wk.cut rfl (by simp [hn]) (by simp [wkO, zaa, getK, zab, zac, Ob.under, D.under, zad, zae, hi, hne, del, htE, zab, zac, zaa, getK]) (by simp [wkU, zak, zaa, getK, D.under, hi, hne, del, htE, zab, zac, zaa, getK]) (by simp [wkE, zak, zaa, getK, hi, hne, del, htE, zab, zac, zaa, getK])), by simp [hn], ?_⟩; try simp); exact PPost.zaB hR.symm)); rw [h10, PR.zaR] at hR; (try simp [hi, hne, del, htE]))
 obtain ⟨_, g10⟩ := zc1 hl h10 g9
 repeat' (first
  | (refine zag ?_; simp [hne, del])
  | (refine zaj ?_; simp [hne, del])
  | (refine zah ?_; simp [hne, del])
  | (refine zaF (by first | rfl | fail) ?_; simp [hne, del, frzN, frz1, zaE, zaD, St.frz, St.frzS, frzS, fv, za3, za4, za9, zaH, zaz, zay, del, frz, zba])
  | fail)
 (refine CallP.pp (zc0 l q10 [106, 117, 114, 121] 0 60 [[59]] 3 _ (by first | omega | (simp; done) | (simp; omega) | fail) g10 hl (by simp)) (by first | (simp [hi, hne, del, htE, zaa, getK, zab, zac]; done) | fail) (by rfl) (by first | assumption | (simp; done) | fail) (by rfl) (by simp) (fun jury q11 h11 => ?_) (fun pos e q' h11 => ⟨_, Wk.refl _, ?_⟩); rotate_left 1; (focus (rw [h11, PR.zaK] at hR; (refine hpan _ _ ⟨{ n := _, env := [], obs := [(3, pOb l q')], next := 4 }, (Wk.cut rfl (by simp [hn]) (by simp [wkO, zaa, getK, zab, zac, Ob.under, D.under, zad, zae, hi, hne, del, htE, zab, zac, zaa, getK]) (by simp [wkU, zak, zaa, getK, D.under, hi, hne, del, htE, zab, zac, zaa, getK]) (by simp [wkE, zak, zaa, getK, hi, hne, del, htE, zab, zac, zaa, getK])), by simp [hn], ?_⟩; try simp); exact PPost.zaB hR.symm)); rw [h11, PR.zaR] at hR; (try simp [hi, hne, del, htE]))
 obtain ⟨_, g11⟩ := zc1 hl h11 g10
 repeat' (first
  | (refine zag ?_; simp [hne, del])
  | (refine zaj ?_; simp [hne, del])
  | (refine zah ?_; simp [hne, del])
  | (refine zaF (by first | rfl | fail) ?_; simp [hne, del, frzN, frz1, zaE, zaD, St.frz, St.frzS, frzS, fv, za3, za4, za9, zaH, zaz, zay, del, frz, zba])
  | fail)
 (refine CallP.pp (zc0 l q11 [102, 117, 110, 100] 0 1000 [[112, 101, 114], [109, 105, 108, 108, 101], [59]] 3 _ (by first | omega | (simp; done) | (simp; omega) | fail) g11 hl (by simp)) (by first | (simp [hi, hne, del, htE, zaa, getK, zab, zac]; done) | fail) (by rfl) (by first | assumption | (simp; done) | fail) (by rfl) (by simp) (fun fund q12 h12 => ?_) (fun pos e q' h12 => ⟨_, Wk.refl _, ?_⟩); rotate_left 1; (focus (rw [h12, PR.zaK] at hR; (refine hpan _ _ ⟨{ n := _, env := [], obs := [(3, pOb l q')], next := 4 }, (Wk.cut rfl (by simp [hn]) (by simp [wkO, zaa, getK, zab, zac, Ob.under, D.under, zad, zae, hi, hne, del, htE, zab, zac, zaa, getK]) (by simp [wkU, zak, zaa, getK, D.under, hi, hne, del, htE, zab, zac, zaa, getK]) (by simp [wkE, zak, zaa, getK, hi, hne, del, htE, zab, zac, zaa, getK])), by simp [hn], ?_⟩; try simp); exact PPost.zaB hR.symm)); rw [h12, PR.zaR] at hR; (try simp [hi, hne, del, htE]))
 obtain ⟨_, g12⟩ := zc1 hl h12 g11
 repeat' (first
  | (refine zag ?_; simp [hne, del])
  | (refine zaj ?_; simp [hne, del])
  | (refine zah ?_; simp [hne, del])
  | fail)
 refine zoP _ (Wk.ownC 5 _ 11 137 6 (by decide) rfl rfl) ?_
 simp [St.ownC]
 refine zde (α := { x : Nat × List Let × Nat // x.1 < l.length ∧ x.2.1.length + x.2.2 = 21 ∧ x.2.1.length ≤ 20 ∧ zfP l 21 q12 [] = zfP l x.2.2 x.1 x.2.1 }) [0, 2, 3] (fun x => [])
  (fun x => [(5, .box [.u (.int .i64 kb.1), .u (.int .i64 period), .u (.int .i64 grace), .u (.int .i64 wait), .u (.int .i64 last), .u (.int .i64 order), .u (.bool kb.2), .u (.int .i64 backs), .u (.int .i64 voices), .u (.int .i64 jury), .u (.int .i64 fund), .vec 14 x.1.2.1.length, .u (.int .i64 0), .u (.int .i64 0), .u (.int .i64 0), .u (.str []), .u .nil, .u (.int .i64 0), .u (.int .i64 0), .u (.int .i64 0), .u (.str []), .u .nil, .u (.int .i64 0), .u (.int .i64 0), .u (.int .i64 0), .u (.str []), .u .nil, .u (.int .i64 0), .u (.int .i64 0), .u (.int .i64 0), .u (.str []), .u .nil, .u (.int .i64 0), .u (.int .i64 0), .u (.int .i64 0), .u (.str []), .u .nil]), (14, .vec 137 6 (rowsD (zfg x.1.2.1))), (4, .box [.u (.int .i64 0), .u (.int .i64 0), .u (.int .i64 0), .u (.int .i64 0), .u (.int .i64 0), .u (.int .i64 0), .u (.bool false), .u (.int .i64 0), .u (.int .i64 0), .u (.int .i64 0), .u (.int .i64 0), .u .nil, .u (.int .i64 0), .u (.int .i64 0), .u (.int .i64 0), .u (.str []), .u .nil, .u (.int .i64 0), .u (.int .i64 0), .u (.int .i64 0), .u (.str []), .u .nil, .u (.int .i64 0), .u (.int .i64 0), .u (.int .i64 0), .u (.str []), .u .nil, .u (.int .i64 0), .u (.int .i64 0), .u (.int .i64 0), .u (.str []), .u .nil, .u (.int .i64 0), .u (.int .i64 0), .u (.int .i64 0), .u (.str []), .u .nil]), (3, pOb l x.1.1)]) 15 (fun x => x.1.2.2) ⟨(q12, [], 21), g12, rfl, by simp, rfl⟩ ?_ ?_
 ·exact (Wk.cut rfl (by simp [hn, St.lp]) (by simp [wkO, St.lp, zaa, getK, Ob.under, D.under, zad, zae, zfg]) (by simp [wkU, St.lp, zak, zaa, getK, D.under, zfg]) (by simp [wkE, St.lp, zak, zaa, getK, zfg] <;> (try (intros; simp_all; done)) <;> (try (intros; omega)) <;> (try grind)))
 rintro ⟨⟨q, acc, g⟩, gq, hg, hg2, hS⟩
 simp only at gq hg hg2 hS
 simp [St.lp, St.only, zak, zaa, getK]
 have hm := zdC l q [108, 101, 116] gq hl.len
 have hAl := zlM acc
 have hsn := zkp acc
 generalize hA : zfg acc = A at *
 have htk : A.take acc.length = A := List.take_of_length_le (by omega)
 obtain ⟨g, rfl⟩ : ∃ g', g = g' + 1 := ⟨g - 1, by omega⟩
 by_cases hb : isB l q [108, 101, 116] = true
 ·have g1q := za2 hl hb
  obtain ⟨t, ht⟩ : ∃ t, l[q + 1]? = some t := ⟨_, List.getElem?_eq_getElem g1q⟩
  have hnx := zbS l (q + 1) t ht hl.len
  rw [zko ht, if_pos hb] at hS
  rw [hS, PR.zdn] at hR
  rw [hb] at hm
  repeat' (first
  | (refine zag ?_; simp [hne, del, hAl])
  | (refine zaj ?_; simp [hne, del, hAl])
  | (refine zah ?_; simp [hne, del, hAl])
  | (refine zai ?_; simp [hne, del, hAl])
  | (refine zau ?_; simp [hne, del, hAl])
  | (refine zaq ?_; simp only [zan])
  | (refine CallP.fun_ (hm) (by first | rfl | fail) (by first | assumption | (simp; done) | fail) (by first | (simp [hne, del, hAl]; done) | (simp [hne, del, hAl]; rfl) | fail) (by first | (simp; done) | fail) (fun d hd => ?_); subst hd; (try simp [hne, del, hAl]))
  | fail)
  (refine CallP.pp (zfZ l q (decide ((acc.length : Int) < 20)) 6 3 _ (by first | omega | (simp; done) | (simp; omega) | fail) gq hl) (by first | (simp [hi, hne, del, zaa, getK, zab, zac]; done) | fail) (by rfl) (by first | assumption | (simp; done) | fail) (by rfl) (by simp) (fun u20 q20 h20 => ?_) (fun pos e q' h20 => ⟨_, Wk.refl _, ?_⟩); rotate_left 1; (focus (rw [h20, PR.zaK] at hR; (refine hpan _ _ ⟨{ n := _, env := [], obs := [(3, pOb l q')], next := 4 }, (Wk.cut rfl (by simp [hn]) (by simp [wkO, zaa, getK, zab, zac, Ob.under, D.under, zad, zae, hi, hne, del, zab, zac, zaa, getK]) (by simp [wkU, zak, zaa, getK, D.under, hi, hne, del, zab, zac, zaa, getK]) (by simp [wkE, zak, zaa, getK, hi, hne, del, zab, zac, zaa, getK])), by simp [hn], ?_⟩; try simp); exact PPost.zaB hR.symm)); rw [h20, PR.zaR] at hR; (try simp [hi, hne, del]))
  obtain ⟨rfl, hlt⟩ := zmj h20
  rw [h20, PR.zaR] at hS
  rw [PR.zdn] at hR
  by_cases hw : t.kind = 1
  case neg =>
   have hc2 := fun e nx' (h : 15 ≤ nx') => zcT l (q20 + 1) t e 3 nx' (by omega) ht hl.len
   have e3 : zkU l (q20 + 1) (decide (t.kind = 1) && zdu t.text) 12 = .stop t.pos 12 := by
    unfold zkU zcQ; rw [ht]; simp [hw]
   rw [e3, PR.zaK] at hR
   repeat' (first
  | (refine zag ?_; simp [hne, del, hw])
  | (refine zaj ?_; simp [hne, del, hw])
  | (refine ⟨by omega, ?_⟩)
  | (refine zah ?_; simp [hne, del, hw])
  | (refine CallP.fun_ (hnx) (by first | rfl | fail) (by first | assumption | (simp; done) | fail) (by first | (simp [hne, del, hw]; done) | (simp [hne, del, hw]; rfl) | fail) (by first | (simp; done) | fail) (fun d hd => ?_); subst hd; (try simp [hne, del, hw]))
  | (refine CallP.zed (hc2 _ _ (by first | omega | (simp; done) | (simp; omega) | fail)) (by first | (simp [hne, del, hw, zaa, getK, zab, zac]; done) | fail) (by rfl) (by first | assumption | (simp; done) | fail) (by rfl) (by simp) ?_; rintro ob' ⟨q', rfl⟩; refine ⟨_, Wk.refl _, ?_⟩)
  | fail)
   (refine hpan _ _ ⟨{ n := _, env := [], obs := [(3, pOb l q')], next := 4 }, (Wk.cut rfl (by simp [hn]) (by simp [wkO, zaa, getK, zab, zac, Ob.under, D.under, zad, zae, hi, hne, zab, zac, zaa, getK]) (by simp [wkU, zak, zaa, getK, D.under, hi, hne, zab, zac, zaa, getK]) (by simp [wkE, zak, zaa, getK, hi, hne, zab, zac, zaa, getK])), by simp [hn], ?_⟩; try simp)
   exact PPost.zaB hR.symm
  have hnm := zfp t.text
  have e3 : (decide (t.kind = 1) && zdu t.text) = zdu t.text := by simp [hw]
  rw [e3] at hR hS
  generalize zdu t.text = nb at hnm hR hS
  repeat' (first
  | (refine zag ?_; simp [hne, del, hw])
  | (refine zaj ?_; simp [hne, del, hw])
  | (refine ⟨by omega, ?_⟩)
  | (refine zah ?_; simp [hne, del, hw])
  | (refine CallP.fun_ (hnx) (by first | rfl | fail) (by first | assumption | (simp; done) | fail) (by first | (simp [hne, del, hw]; done) | (simp [hne, del, hw]; rfl) | fail) (by first | (simp; done) | fail) (fun d hd => ?_); subst hd; (try simp [hne, del, hw]))
  | (refine CallP.fun_ (hnm) (by first | rfl | fail) (by first | assumption | (simp; done) | fail) (by first | (simp [hne, del, hw]; done) | (simp [hne, del, hw]; rfl) | fail) (by first | (simp; done) | fail) (fun d hd => ?_); subst hd; (try simp [hne, del, hw]))
  | fail)
  (refine CallP.pp (zfZ l (q20 + 1) nb 12 3 _ (by first | omega | (simp; done) | (simp; omega) | fail) g1q hl) (by first | (simp [hi, hne, del, zaa, getK, zab, zac]; done) | fail) (by rfl) (by first | assumption | (simp; done) | fail) (by rfl) (by simp) (fun u21 q21 h21 => ?_) (fun pos e q' h21 => ⟨_, Wk.refl _, ?_⟩); rotate_left 1; (focus (rw [h21, PR.zaK] at hR; (refine hpan _ _ ⟨{ n := _, env := [], obs := [(3, pOb l q')], next := 4 }, (Wk.cut rfl (by simp [hn]) (by simp [wkO, zaa, getK, zab, zac, Ob.under, D.under, zad, zae, hi, hne, del, zab, zac, zaa, getK]) (by simp [wkU, zak, zaa, getK, D.under, hi, hne, del, zab, zac, zaa, getK]) (by simp [wkE, zak, zaa, getK, hi, hne, del, zab, zac, zaa, getK])), by simp [hn], ?_⟩; try simp); exact PPost.zaB hR.symm)); rw [h21, PR.zaR] at hR; (try simp [hi, hne, del]))
  obtain ⟨rfl, hnb⟩ := zmj h21
  rw [h21, PR.zaR] at hS
  rw [PR.zdn] at hR
  have htw := zk5 acc t.text
  have htw : Fun Tryz.prog 90 [.u (.sl (zfg acc)), .fnc (.func 128) [.u (.row [.str t.text] 0)]] (· = .u (.bool (acc.any fun x => decide (x.name = t.text)))) := htw
  rw [hA] at htw
  generalize (acc.any fun x => decide (x.name = t.text)) = tb at htw hR hS
  repeat' (first
  | (refine zag ?_; simp [hne, del, hw, htk, hAl])
  | (refine zaj ?_; simp [hne, del, hw, htk, hAl])
  | (refine zah ?_; simp [hne, del, hw, htk, hAl])
  | (refine CallP.fun_ (htw) (by first | rfl | fail) (by first | assumption | (simp; done) | fail) (by first | (simp [hne, del, hw, htk, hAl]; done) | (simp [hne, del, hw, htk, hAl]; rfl) | fail) (by first | (simp; done) | fail) (fun d hd => ?_); subst hd; (try simp [hne, del, hw, htk, hAl]))
  | fail)
  (refine CallP.pp (zfZ l (q20 + 1) (!tb) 5 3 _ (by first | omega | (simp; done) | (simp; omega) | fail) g1q hl) (by first | (simp [hi, hne, del, zaa, getK, zab, zac]; done) | fail) (by rfl) (by first | assumption | (simp; done) | fail) (by rfl) (by simp) (fun u22 q22 h22 => ?_) (fun pos e q' h22 => ⟨_, Wk.refl _, ?_⟩); rotate_left 1; (focus (rw [h22, PR.zaK] at hR; (refine hpan _ _ ⟨{ n := _, env := [], obs := [(3, pOb l q')], next := 4 }, (Wk.cut rfl (by simp [hn]) (by simp [wkO, zaa, getK, zab, zac, Ob.under, D.under, zad, zae, hi, hne, del, zab, zac, zaa, getK]) (by simp [wkU, zak, zaa, getK, D.under, hi, hne, del, zab, zac, zaa, getK]) (by simp [wkE, zak, zaa, getK, hi, hne, del, zab, zac, zaa, getK])), by simp [hn], ?_⟩; try simp); exact PPost.zaB hR.symm)); rw [h22, PR.zaR] at hR; (try simp [hi, hne, del]))
  obtain ⟨rfl, htb⟩ := zmj h22
  rw [h22, PR.zaR] at hS
  rw [PR.zdn] at hR
  have g2q := hl.fin (q20 + 1) t ht (by omega)
  repeat' (first
  | (refine zag ?_; simp [hne, del])
  | (refine zaj ?_; simp [hne, del])
  | (refine ⟨by omega, ?_⟩)
  | (refine zah ?_; simp [hne, del])
  | (refine zaF (by first | rfl | fail) ?_; simp [hne, del, frzN, frz1, zaE, zaD, St.frz, St.frzS, frzS, fv, za3, za4, za9, zaH, zaz, zay, del, frz, zba])
  | fail)
  (refine CallP.pp (zeh hl [61] (q := q20 + 1 + 1) (i := 3) (by first | omega | (simp; done) | (simp; omega) | fail) g2q) (by first | (simp [hi, hne, del, zaa, getK, zab, zac]; done) | fail) (by rfl) (by first | assumption | (simp; done) | fail) (by rfl) (by simp) (fun u23 q23 h23 => ?_) (fun pos e q' h23 => ⟨_, Wk.refl _, ?_⟩); rotate_left 1; (focus (rw [h23, PR.zaK] at hR; (refine hpan _ _ ⟨{ n := _, env := [], obs := [(3, pOb l q')], next := 4 }, (Wk.cut rfl (by simp [hn]) (by simp [wkO, zaa, getK, zab, zac, Ob.under, D.under, zad, zae, hi, hne, del, zab, zac, zaa, getK]) (by simp [wkU, zak, zaa, getK, D.under, hi, hne, del, zab, zac, zaa, getK]) (by simp [wkE, zak, zaa, getK, hi, hne, del, zab, zac, zaa, getK])), by simp [hn], ?_⟩; try simp); exact PPost.zaB hR.symm)); rw [h23, PR.zaR] at hR; (try simp [hi, hne, del]))
  obtain ⟨_, g23⟩ := zaV hl _ h23 g2q
  rw [h23, PR.zaR] at hS
  rw [PR.zdn] at hR
  have hwh := fun nx' (h : 15 ≤ nx') => zfu l q23 3 nx' (by omega) g23 hl hl2
  cases hr : zdA l q23 with
  | stop pos e =>
   rw [hr, PR.zaK] at hR
   simp only [hr] at hwh
   repeat' (first
  | (refine zeK (fun nx' h' => hwh nx' (by simp at h'; omega)) (by first | (simp [hne, del, htk, hAl, zaa, getK, zab, zac, zax, zaP]; done) | fail) (by rfl) (by first | assumption | simp) (by rfl) (by simp) ?_ ?_; rintro env' ob' n' hn' ⟨q', rfl⟩; refine ⟨_, Wk.refl _, ?_⟩)
  | (refine zdX rfl (by simp) ?_; simp)
  | (refine zaN rfl ?_; simp [hne, del, htk, hAl])
  | (refine zaj ?_; simp [hne, del, htk, hAl])
  | (refine zeL (hC _ (by kernel_rfl)) rfl; done)
  | (refine zaM rfl (by kernel_rfl) (by first | (simp [hn]; done) | (simp [hn]; omega) | fail) fun C k hC hk => ?_; simp [hne, del, htk, hAl])
  | fail)
   (refine hpan _ _ ⟨{ n := _, env := [], obs := [(3, pOb l q')], next := 4 }, (Wk.cut rfl (by simp [hn]) (by simp [wkO, zaa, getK, zab, zac, Ob.under, D.under, zad, zae, hi, hne, zab, zac, zaa, getK]) (by simp [wkU, zak, zaa, getK, D.under, hi, hne, zab, zac, zaa, getK]) (by simp [wkE, zak, zaa, getK, hi, hne, zab, zac, zaa, getK])), by simp [hn], ?_⟩; try simp)
   exact PPost.zaB hR.symm
  | ok e r =>
   have hwh := fun nx' h => zcS (hwh nx' h) hr
   obtain ⟨_, g24⟩ := zfw hl hr g23
   rw [hr, PR.zaR] at hS
   repeat' (first
  | (refine zf4 (fun nx' h' => hwh nx' (by simp at h'; omega)) (by first | (simp [hne, del, htk, hAl, zaa, getK, zab, zac, zax, zaP]; done) | fail) (by rfl) (by first | assumption | simp) (by rfl) (by simp [D.under, Ob.under]) (by simp) ?_; (try simp [hne, del, htk, hAl]))
  | (refine zaN rfl ?_; simp [hne, del, htk, hAl])
  | (refine zbu rfl ?_; simp [hne, del, htk, hAl])
  | (refine zaj ?_; simp [hne, del, htk, hAl])
  | (refine ⟨by omega, ?_⟩)
  | (refine zaS (hC _ (by kernel_rfl)) (hk _ ?_); clear hC hk C k; simp only [zan])
  | (refine zaM rfl (by kernel_rfl) (by first | (simp [hn]; done) | (simp [hn]; omega) | fail) fun C k hC hk => ?_; simp [hne, del, htk, hAl])
  | fail)
   have hlt' : acc.length < 20 := by have := of_decide_eq_true hlt; omega
   refine LoopW.next ⟨(r, acc ++ [⟨t.text, e⟩], g), g24, (by simp; omega), (by simp; omega), hS⟩ (by simp) ?_
   exact (Wk.ren ((fun j => if j = 14 then 18 else j)) rfl (by first | (simp [hn]; done) | (intro i hi; rw [hn] at hi; constructor <;> (try simp) <;> (try (intro _)) <;> omega)) (by simp [zmx, St.lp, zak, zaa, getK, zac, zax, D.under, D.le, D.ren, hsn, htk] <;> (try (intros; simp_all; done)) <;> (try omega)) (by simp [wkR, St.lp, zaa, getK, zac, zax, obR, leU, zcj, zbf, Ob.under, D.under, D.le, D.ren, hsn, htk] <;> (try (intros; simp_all; done)) <;> (try omega)) (by simp [hsn, htk]))
 ·rw [zlL hb] at hS
  rw [hS, PR.zaR] at hR
  have hb2 : isB l q [108, 101, 116] = false := by simpa using hb
  rw [hb2] at hm
  repeat' (first
  | (refine zag ?_; simp [hne, del])
  | (refine zaj ?_; simp [hne, del])
  | (refine zah ?_; simp [hne, del])
  | (refine zai ?_; simp [hne, del])
  | (refine zaZ ?_; simp [zan])
  | (refine CallP.fun_ (hm) (by first | rfl | fail) (by first | assumption | (simp; done) | fail) (by first | (simp [hne, del]; done) | (simp [hne, del]; rfl) | fail) (by first | (simp; done) | fail) (fun d hd => ?_); subst hd; (try simp [hne, del]))
  | (refine zaF (by first | rfl | fail) ?_; simp [hne, del, frzN, frz1, zaE, zaD, St.frz, St.frzS, frzS, fv, za3, za4, za9, zaH, zaz, zay, del, frz, zba])
  | fail)
  (refine CallP.pp (zeh hl [100, 117, 101] (q := q) (i := 3) (by first | omega | (simp; done) | (simp; omega) | fail) gq) (by first | (simp [hi, hne, del, zaa, getK, zab, zac]; done) | fail) (by rfl) (by first | assumption | (simp; done) | fail) (by rfl) (by simp) (fun u30 q30 h30 => ?_) (fun pos e q' h30 => ⟨_, Wk.refl _, ?_⟩); rotate_left 1; (focus (rw [h30, PR.zaK] at hR; (refine hpan _ _ ⟨{ n := _, env := [], obs := [(3, pOb l q')], next := 4 }, (Wk.cut rfl (by simp [hn]) (by simp [wkO, zaa, getK, zab, zac, Ob.under, D.under, zad, zae, hi, hne, del, zab, zac, zaa, getK]) (by simp [wkU, zak, zaa, getK, D.under, hi, hne, del, zab, zac, zaa, getK]) (by simp [wkE, zak, zaa, getK, hi, hne, del, zab, zac, zaa, getK])), by simp [hn], ?_⟩; try simp); exact PPost.zaB hR.symm)); rw [h30, PR.zaR] at hR; (try simp [hi, hne, del]))
  obtain ⟨_, g30⟩ := zaV hl _ h30 gq
  repeat' (first
  | (refine zag ?_; simp [hne, del])
  | (refine zaj ?_; simp [hne, del])
  | (refine zah ?_; simp [hne, del])
  | fail)
  (refine CallP.pp (zfu l q30 3 _ (by first | omega | (simp; done) | (simp; omega) | fail) g30 hl hl2) (by first | (simp [hi, hne, del, zdD, Exp.row_eq, zaa, getK, zab, zac]; done) | fail) (by rfl) (by first | assumption | (simp; done) | fail) (by rfl) (by simp) (fun due q31 h31 => ?_) (fun pos e q' h31 => ⟨_, Wk.refl _, ?_⟩); rotate_left 1; (focus (rw [h31, PR.zaK] at hR; (refine hpan _ _ ⟨{ n := _, env := [], obs := [(3, pOb l q')], next := 4 }, (Wk.cut rfl (by simp [hn]) (by simp [wkO, zaa, getK, zab, zac, Ob.under, D.under, zad, zae, hi, hne, del, zdD, Exp.row_eq, zab, zac, zaa, getK]) (by simp [wkU, zak, zaa, getK, D.under, hi, hne, del, zdD, Exp.row_eq, zab, zac, zaa, getK]) (by simp [wkE, zak, zaa, getK, hi, hne, del, zdD, Exp.row_eq, zab, zac, zaa, getK])), by simp [hn], ?_⟩; try simp); exact PPost.zaB hR.symm)); rw [h31, PR.zaR] at hR; (try simp [hi, hne, del, zdD, Exp.row_eq]))
  obtain ⟨_, g31⟩ := zfw hl h31 g30
  repeat' (first
  | (refine zag ?_; simp [hne, del])
  | (refine zaj ?_; simp [hne, del])
  | (refine zah ?_; simp [hne, del])
  | fail)
  (refine CallP.pp (zd7 l q31 [102, 105, 110, 101] 3 _ (by first | omega | (simp; done) | (simp; omega) | fail) g31 hl hl2) (by first | (simp [hi, hne, del, zdD, Exp.row_eq, zaa, getK, zab, zac]; done) | fail) (by rfl) (by first | assumption | (simp; done) | fail) (by rfl) (by simp) (fun fine q32 h32 => ?_) (fun pos e q' h32 => ⟨_, Wk.refl _, ?_⟩); rotate_left 1; (focus (rw [h32, PR.zaK] at hR; (refine hpan _ _ ⟨{ n := _, env := [], obs := [(3, pOb l q')], next := 4 }, (Wk.cut rfl (by simp [hn]) (by simp [wkO, zaa, getK, zab, zac, Ob.under, D.under, zad, zae, hi, hne, del, zdD, Exp.row_eq, zab, zac, zaa, getK]) (by simp [wkU, zak, zaa, getK, D.under, hi, hne, del, zdD, Exp.row_eq, zab, zac, zaa, getK]) (by simp [wkE, zak, zaa, getK, hi, hne, del, zdD, Exp.row_eq, zab, zac, zaa, getK])), by simp [hn], ?_⟩; try simp); exact PPost.zaB hR.symm)); rw [h32, PR.zaR] at hR; (try simp [hi, hne, del, zdD, Exp.row_eq]))
  obtain ⟨_, g32⟩ := zd8 hl h32 g31
  repeat' (first
  | (refine zag ?_; simp [hne, del])
  | fail)
  (refine CallP.pp (zd7 l q32 [112, 97, 121] 3 _ (by first | omega | (simp; done) | (simp; omega) | fail) g32 hl hl2) (by first | (simp [hi, hne, del, zdD, Exp.row_eq, zaa, getK, zab, zac]; done) | fail) (by rfl) (by first | assumption | (simp; done) | fail) (by rfl) (by simp) (fun pay q33 h33 => ?_) (fun pos e q' h33 => ⟨_, Wk.refl _, ?_⟩); rotate_left 1; (focus (rw [h33, PR.zaK] at hR; (refine hpan _ _ ⟨{ n := _, env := [], obs := [(3, pOb l q')], next := 4 }, (Wk.cut rfl (by simp [hn]) (by simp [wkO, zaa, getK, zab, zac, Ob.under, D.under, zad, zae, hi, hne, del, zdD, Exp.row_eq, zab, zac, zaa, getK]) (by simp [wkU, zak, zaa, getK, D.under, hi, hne, del, zdD, Exp.row_eq, zab, zac, zaa, getK]) (by simp [wkE, zak, zaa, getK, hi, hne, del, zdD, Exp.row_eq, zab, zac, zaa, getK])), by simp [hn], ?_⟩; try simp); exact PPost.zaB hR.symm)); rw [h33, PR.zaR] at hR; (try simp [hi, hne, del, zdD, Exp.row_eq]))
  obtain ⟨_, g33⟩ := zd8 hl h33 g32
  repeat' (first
  | (refine zag ?_; simp [hne, del])
  | fail)
  (refine CallP.pp (zd7 l q33 [99, 111, 118, 101, 114] 3 _ (by first | omega | (simp; done) | (simp; omega) | fail) g33 hl hl2) (by first | (simp [hi, hne, del, zdD, Exp.row_eq, zaa, getK, zab, zac]; done) | fail) (by rfl) (by first | assumption | (simp; done) | fail) (by rfl) (by simp) (fun cover q34 h34 => ?_) (fun pos e q' h34 => ⟨_, Wk.refl _, ?_⟩); rotate_left 1; (focus (rw [h34, PR.zaK] at hR; (refine hpan _ _ ⟨{ n := _, env := [], obs := [(3, pOb l q')], next := 4 }, (Wk.cut rfl (by simp [hn]) (by simp [wkO, zaa, getK, zab, zac, Ob.under, D.under, zad, zae, hi, hne, del, zdD, Exp.row_eq, zab, zac, zaa, getK]) (by simp [wkU, zak, zaa, getK, D.under, hi, hne, del, zdD, Exp.row_eq, zab, zac, zaa, getK]) (by simp [wkE, zak, zaa, getK, hi, hne, del, zdD, Exp.row_eq, zab, zac, zaa, getK])), by simp [hn], ?_⟩; try simp); exact PPost.zaB hR.symm)); rw [h34, PR.zaR] at hR; (try simp [hi, hne, del, zdD, Exp.row_eq]))
  obtain ⟨_, g34⟩ := zd8 hl h34 g33
  repeat' (first
  | (refine zag ?_; simp [hne, del])
  | fail)
  (refine CallP.pp (zd7 l q34 [104, 111, 108, 100] 3 _ (by first | omega | (simp; done) | (simp; omega) | fail) g34 hl hl2) (by first | (simp [hi, hne, del, zdD, Exp.row_eq, zaa, getK, zab, zac]; done) | fail) (by rfl) (by first | assumption | (simp; done) | fail) (by rfl) (by simp) (fun hold q35 h35 => ?_) (fun pos e q' h35 => ⟨_, Wk.refl _, ?_⟩); rotate_left 1; (focus (rw [h35, PR.zaK] at hR; (refine hpan _ _ ⟨{ n := _, env := [], obs := [(3, pOb l q')], next := 4 }, (Wk.cut rfl (by simp [hn]) (by simp [wkO, zaa, getK, zab, zac, Ob.under, D.under, zad, zae, hi, hne, del, zdD, Exp.row_eq, zab, zac, zaa, getK]) (by simp [wkU, zak, zaa, getK, D.under, hi, hne, del, zdD, Exp.row_eq, zab, zac, zaa, getK]) (by simp [wkE, zak, zaa, getK, hi, hne, del, zdD, Exp.row_eq, zab, zac, zaa, getK])), by simp [hn], ?_⟩; try simp); exact PPost.zaB hR.symm)); rw [h35, PR.zaR] at hR; (try simp [hi, hne, del, zdD, Exp.row_eq]))
  obtain ⟨_, g35⟩ := zd8 hl h35 g34
  obtain ⟨t, ht⟩ : ∃ t, l[q35]? = some t := ⟨_, List.getElem?_eq_getElem g35⟩
  have hnx := zbS l q35 t ht hl.len
  repeat' (first
  | (refine zag ?_; simp [hne, del])
  | (refine zaj ?_; simp [hne, del])
  | (refine zah ?_; simp [hne, del])
  | (refine CallP.fun_ (hnx) (by first | rfl | fail) (by first | assumption | (simp; done) | fail) (by first | (simp [hne, del]; done) | (simp [hne, del]; rfl) | fail) (by first | (simp; done) | fail) (fun d hd => ?_); subst hd; (try simp [hne, del]))
  | fail)
  (refine CallP.pp (zom ht 3 _ (by first | omega | (simp; done) | (simp; omega) | fail) hl) (by first | (simp [hi, hne, del, zaa, getK, zab, zac]; done) | fail) (by rfl) (by first | assumption | (simp; done) | fail) (by rfl) (by simp) (fun u36 q36 h36 => ?_) (fun pos e q' h36 => ⟨_, Wk.refl _, ?_⟩); rotate_left 1; (focus (rw [h36, PR.zaK] at hR; (refine hpan _ _ ⟨{ n := _, env := [], obs := [(3, pOb l q')], next := 4 }, (Wk.cut rfl (by simp [hn]) (by simp [wkO, zaa, getK, zab, zac, Ob.under, D.under, zad, zae, hi, hne, del, zab, zac, zaa, getK]) (by simp [wkU, zak, zaa, getK, D.under, hi, hne, del, zab, zac, zaa, getK]) (by simp [wkE, zak, zaa, getK, hi, hne, del, zab, zac, zaa, getK])), by simp [hn], ?_⟩; try simp); exact PPost.zaB hR.symm)); rw [h36, PR.zaR] at hR; (try simp [hi, hne, del]))
  obtain rfl := zo6 h36
  repeat' (first
  | (refine zag ?_; simp [hne, del])
  | (refine zaj ?_; simp [hne, del])
  | (refine zah ?_; simp [hne, del])
  | (refine zas ?_; simp only [zan])
  | fail)
  (refine EndW.frzN 1 ?_; simp [frzN, frz1, zaE, zaD, St.frz, St.frzS, frzS, fv, za3, za4, za9, zaH, zaz, zay, del, frz, zba, hAl, htk])
  refine EndW.norm ?_
  simp [St.norm, za1, zbz, zbL, zbM, hne]
  (refine EndW.here ?_; (first | (refine EndOK.fin (.inr rfl) ?_) | (refine EndOK.fin (.inl rfl) ?_)); simp [zaC, zaf, Tryz.results64, hne, hi]; refine FinOK.cut [(3, pOb l q36)] (4) (by simp [zaa, getK, zab, zac, Ob.under, D.under, zad, zae, hne, hi] <;> omega) (by simp [D.under]) (by simp [hn]) ?_; try simp)
  exact PPost.zb2 hR.symm (by simp [zao, ← hA, zfg]) rfl
end Go.Proofs.YtepiegcjnaohjaaGreatDoor
namespace Go.Proofs.YtepiegcjnaohjaaGreatDoor
open Go Go.VL
def zgh : By := ⟨0, 0, 0, 0, 0, 0, false, 0, 0, 0, 0, [], zft, zft, zft, zft, zft⟩
/-- What Parse returns: the bylaws, the place, the error. -/
def ze9 (s : W8) : By × Int × Int := match zkT s with
 | .error (p, e) => (zgh, p, e)
 | .ok l => match zor l with
  | .stop pos e => (zgh, pos, e)
  | .ok b _ => (b, 0, 0)
def zpb (r : By × Int × Int) : D := .tup [.u (.agg (zao r.1)), .u (.int .i64 r.2.1), .u (.int .i64 r.2.2)]
abbrev znq : Ob := .box [.u (.int .i64 0), .u (.int .i64 0), .u (.int .i64 0), .u (.int .i64 0), .u (.int .i64 0), .u (.int .i64 0), .u (.bool false), .u (.int .i64 0), .u (.int .i64 0), .u (.int .i64 0), .u (.int .i64 0), .u .nil, .u (.int .i64 0), .u (.int .i64 0), .u (.int .i64 0), .u (.str []), .u .nil, .u (.int .i64 0), .u (.int .i64 0), .u (.int .i64 0), .u (.str []), .u .nil, .u (.int .i64 0), .u (.int .i64 0), .u (.int .i64 0), .u (.str []), .u .nil, .u (.int .i64 0), .u (.int .i64 0), .u (.int .i64 0), .u (.str []), .u .nil, .u (.int .i64 0), .u (.int .i64 0), .u (.int .i64 0), .u (.str []), .u .nil]
end Go.Proofs.YtepiegcjnaohjaaGreatDoor
namespace Go.Proofs.YtepiegcjnaohjaaGreatDoor
open Go Go.VL
mutual
def zoY : Exp → Int
 | .mk _ _ _ _ args => zlJ args + 1
def zlJ : List Exp → Int
 | [] => 0
 | e :: l => max (zoY e) (zlJ l)
end
theorem zgd (l : List Int) (a : Int) (ha : 0 ≤ a) : l.foldl max a = max a (l.foldl max 0) := by
 induction l generalizing a with
 | nil => simp; omega
 | cons b l ih => simp only [List.foldl_cons]; rw [ih (max a b) (by omega), ih (max 0 b) (by omega)]; omega
mutual
theorem zlK : ∀ e : Exp, zoY e = e.lev
 | .mk op n u s args => by rw [zoY, Exp.zf5, zjE]; rfl
theorem zjE : ∀ l : List Exp, zlJ l = (l.map Exp.lev).foldl max 0
 | [] => by rw [zlJ]; rfl
 | e :: l => by
  have := e.lev_pos
  rw [zlJ, zlK, zjE, List.map_cons, List.foldl_cons, zgd (l.map Exp.lev) (max 0 e.lev) (by omega)]
  omega
end
/-- The same az parseX, to be computed with. -/
def zqp (s : List UInt8) : Exp × Int × Int := match zkT s with
 | .error (p, e) => (zft, p, e)
 | .ok l => match zdF l (4 * l.length + 3) 0 0 with
  | .stop pos e => (zft, pos, e)
  | .ok y q => if zo1 l q ≠ 0 then (zft, zcQ l q, 12) else if 12 < zoY y then (zft, zcQ l q, 6) else (y, 0, 0)
def zhv (l : List Tok) (p : Nat) : PR Exp := (zdF l (4 * l.length + 3) p 0).bind fun e q =>
 if isB l q [59] = true then if zoY e ≤ 12 then .ok e (q + 1) else .stop (zcQ l q) 6 else .stop (zcQ l q) 12
def zmW (l : List Tok) : Nat → Nat → List Let → PR (List Let)
 | 0, _, _ => .stop 0 0
 | f + 1, p, acc => if isB l p [108, 101, 116] = true then
   if acc.length < 20 then match l[p + 1]? with
    | none => .stop 0 0
    | some t => if t.kind = 1 ∧ zdu t.text = true then
          if (acc.any fun x => decide (x.name = t.text)) = true then .stop t.pos 5
          else (zbA l (p + 2) [[61]]).bind fun _ q => (zhv l q).bind fun e r => zmW l f r (acc ++ [⟨t.text, e⟩])
     else .stop t.pos 12
   else .stop (zcQ l p) 6
  else .ok acc p
def zeZ (l : List Tok) (p : Nat) (word : W8) : PR Exp := if isB l p word = true then zhv l (p + 1) else .ok nothingE p
def zqa (l : List Tok) : PR By :=
 (zi7 l 0).bind fun k p => (zi3 l p [112, 101, 114, 105, 111, 100]).bind fun _ p => (zdh l p [112, 101, 114, 105, 111, 100] 1 1000 [[100, 97, 121, 115], [59]]).bind fun period p =>
 (zi3 l p [108, 97, 115, 116]).bind fun _ p => (zdh l p [108, 97, 115, 116] 1 1000 [[59]]).bind fun last p =>
 (zdh l p [103, 114, 97, 99, 101] 0 1000 [[100, 97, 121, 115], [59]]).bind fun grace p => (zdh l p [119, 97, 105, 116] 0 1000 [[100, 97, 121, 115], [59]]).bind fun wait p =>
 (zfI l p).bind fun order p => (zdh l p [98, 97, 99, 107, 115] 0 60 [[59]]).bind fun backs p => (zdh l p [118, 111, 105, 99, 101, 115] 0 1000 [[112, 101, 114], [109, 105, 108, 108, 101], [59]]).bind fun voices p =>
 (zdh l p [106, 117, 114, 121] 0 60 [[59]]).bind fun jury p => (zdh l p [102, 117, 110, 100] 0 1000 [[112, 101, 114], [109, 105, 108, 108, 101], [59]]).bind fun fund p =>
 (zmW l 21 p []).bind fun lets p => (zbA l p [[100, 117, 101]]).bind fun _ p => (zhv l p).bind fun due p =>
 (zeZ l p [102, 105, 110, 101]).bind fun fine p => (zeZ l p [112, 97, 121]).bind fun pay p => (zeZ l p [99, 111, 118, 101, 114]).bind fun cover p => (zeZ l p [104, 111, 108, 100]).bind fun hold p =>
 (zon l p).bind fun _ p => .ok ⟨k.1, period, grace, wait, last, order, k.2, backs, voices, jury, fund, lets, due, fine, pay, cover, hold⟩ p
theorem zfv : zdA = zhv := by
 funext l p
 unfold zdA zhv
 simp only [zlK]
theorem zjF (l : List Tok) : ∀ f p acc, zfP l f p acc = zmW l f p acc
 | 0, p, acc => rfl
 | f + 1, p, acc => by
  rw [zfP, zmW, zfv]
  simp only [zjF l f]
  try rfl
theorem zkO : zdb = zeZ := by
 funext l p w
 unfold zdb zeZ
 rw [zfv]
theorem zoq (l : List Tok) : zor l = zqa l := by
 unfold zor zqa
 rw [zfv, zkO]
 simp only [zjF]
def zll (s : W8) : By × Int × Int := match zkT s with
 | .error (p, e) => (zgh, p, e)
 | .ok l => match zqa l with
  | .stop pos e => (zgh, pos, e)
  | .ok b _ => (b, 0, 0)
theorem zhV (s : W8) : ze9 s = zll s := by
 unfold ze9 zll
 simp only [zoq]
 try rfl
end Go.Proofs.YtepiegcjnaohjaaGreatDoor
namespace Go.Proofs.YtepiegcjnaohjaaGreatDoor
open Go Go.VL
def zef (who : List Int) : List Vo := who.mapIdx fun i k => ⟨i, k, true, 0⟩
theorem zhr {l : List Int} {i : Nat} {k : Int} (h : l[i]? = some k) : zef (l.take (i + 1)) = zef (l.take i) ++ [⟨i, k, true, 0⟩] := by
 obtain ⟨hi, rfl⟩ := List.getElem?_eq_some_iff.1 h
 rw [zef, zef, List.take_succ_eq_append_getElem hi, List.mapIdx_concat, List.length_take]
 congr 3
 omega
theorem zfj (l : List Int) : (zef l).length = l.length := by simp [zef]
theorem zlA (jury : List Int) (l : List Vo) {i : Nat} {j : Int} (h : jury[i]? = some j) : zea (jury.take (i + 1)) l = zea (jury.take i) l + (if zc2 l j = true then 1 else 0) := by
 obtain ⟨hi, rfl⟩ := List.getElem?_eq_some_iff.1 h
 rw [zea, zea, List.take_succ_eq_append_getElem hi, List.filter_append, List.length_append]
 split <;> simp_all
theorem zlB (jury : List Int) (l : List Vo) : zea jury l ≤ jury.length := List.length_filter_le _ _
theorem zl8 {l : List Vo} {i : Nat} {v : Vo} {j : Int} (hb : ∀ w ∈ l.take i, w.who ≠ j) (hx : l[i]? = some v) (hv : v.who = j) : zc2 l j = v.yes := by
 obtain ⟨hi, e⟩ := List.getElem?_eq_some_iff.1 hx
 have : l.find? (fun w => decide (w.who = j)) = some v := by
  have h1 : l = l.take i ++ v :: l.drop (i + 1) := by rw [← e, ← List.drop_eq_getElem_cons hi, List.take_append_drop]
  rw [h1, List.find?_append, List.find?_eq_none.2 (fun w hw => by simpa using hb w hw)]
  simp [hv]
 unfold zc2
 rw [this]
theorem zkH {l : List Vo} {j : Int} (hb : ∀ w ∈ l, w.who ≠ j) : zc2 l j = false := by
 unfold zc2
 rw [List.find?_eq_none.2 (fun w hw => by simpa using hb w hw)]
def zm2 : List UInt8 := [99, 105, 114, 99, 108, 101, 32, 115, 97, 118, 105, 110, 103, 32, 59, 32, 112, 101, 114, 105, 111, 100, 32, 55, 32, 100, 97, 121, 115, 32, 59, 32, 108, 97, 115, 116, 32, 51, 32, 59, 32, 119, 97, 105, 116, 32, 50, 32, 100, 97, 121, 115, 32, 59, 32, 100, 117, 101, 32, 48, 32, 99, 111, 105, 110, 115, 32, 59]
def bL : By := (zll zm2).1
def c0 : Cl := ⟨9, 0, 5, 300, 18, 20, 0, [1, 2, 3], [], 0, 0, 20⟩
def c1 : Cl := ⟨9, 0, 5, 300, 18, 20, 1, [1, 2, 3], [], 0, 0, 20⟩
def c2 : Cl := ⟨9, 0, 5, 300, 18, 20, 1, [1, 2, 3], [], 1, 250, 24⟩
def c3 : Cl := ⟨9, 0, 5, 300, 18, 20, 1, [1, 2, 3], [], 2, 250, 24⟩
def c4 : Cl := ⟨9, 0, 5, 300, 18, 20, 1, [1, 2, 3], [], 4, 250, 24⟩
def c5 : Cl := ⟨9, 0, 5, 300, 18, 20, 0, [1, 2, 3], [], 3, 0, 27⟩
def c6 : Cl := ⟨9, 0, 5, 300, 18, 20, 0, [1, 2, 3], [4, 6], 0, 0, 34⟩
theorem m1 : zce c1 bL 250 (zef [1, 3]) 21 = c2 := by kernel_rfl
theorem m2 : zce c2 bL 250 (zef [1, 3]) 22 = c2 := by kernel_rfl
theorem m3 : zce c2 bL 250 (zef [1, 3]) 23 = c3 := by kernel_rfl
theorem m4 : zjx c3 250 = (c4, 0) := by kernel_rfl
theorem m5 : zjx c4 250 = (c4, 7) := by kernel_rfl
theorem m6 : zce c0 bL 250 (zef [1, 3]) 26 = c0 := by kernel_rfl
theorem m7 : zce c0 bL 250 (zef [1, 3]) 27 = c5 := by kernel_rfl
theorem m8 : zcb c5 bL [4, 6] 34 = (c6, 0) := by kernel_rfl
theorem m9 : zcb c5 bL [4, 6] 35 = (c5, 25) := by kernel_rfl
theorem mp : zdJ c0 = (c1, 0) := by kernel_rfl
end Go.Proofs.YtepiegcjnaohjaaGreatDoor
namespace Go.Proofs.YtepiegcjnaohjaaGreatDoor
open Go Go.VL
attribute [local simp] HS zcR zb9 evPure opd uOf zaI St.put St.at getK binD binI binS binB nilD aggD zg9 zit lookD lookR zcz rangeS Go.VL.nextD Go.VL.nextS zcB ziI ziG zga zb6 mkV zbi zbh zcK zbg zbs zbB mapEff zdf zf6 Key.kk shiftI arith unD convD zdK loadD cellsAt fieldAddrD fieldD indexAddrD indexSlD arrAddr indexD sliceD cutD lenD minmaxD nilCheckD buildD fillD zbQ zcV zex setAll zcF zer zcs zhq zcq St.add zaU zbO rowsOf zdE zco zax zac zaa zby zdg za8 entry zbq zbv valD zb7 zcp zgE zdc zdd zbU zbJ zaA zaY zbt delAll effD St.effS zc4 zbj zbb zc5 zbk zbd zcm zbc za0 zcn zcW zbP zch zbw zcf zcg zaP mkD zbR zbF zbI zaA zcr D.ids Op.operands Call.operands zbN makeIfD makeFuncD typeAssertD zis zdw zdx zhx zcA IntKind.bits zcC List.take_of_length_le List.range_succ
attribute [local irreducible] V G H HD HD2 HD4 zmv RetX zan Eff CallP CallV EndOK Fun Ret FinOK LoopI LoopW EndW
theorem znv (i j q nx : Nat) (hi : i < nx) (hj : j < nx) (hq : q < nx) (hij : i ≠ j) (hiq : i ≠ q) (hjq : j ≠ q) (p e : Int) (cells : List U) :
  RetDf Tryz.prog 62 [.ptr i 0, .ptr j 0, .ptr q 0] [(i, .box [.u (.int .i64 p)]), (j, .box [.u (.int .i64 e)]), (q, .box (cells.map .u))] nx .returning
   (fun u o n => settle u = .returning ∧ n = nx ∧ o = [(i, .box [.u (.int .i64 p)]), (j, .box [.u (.int .i64 e)]), (q, .box (cells.map .u))]) := by
 have hne := zaQ hi
 have hne2 := zaQ hj
 have hne3 := zaQ hq
 have hc0 := zjh i j nx hi hj hij p e
 refine RetDf.of_body Tryz.func62 rfl (by simp) (by simp) rfl fun Γ hn => ?_
 simp [entry, zj7, Tryz.ntmps62]
 refine CallP.x2 hc0 (by simp [getK]) (by simp [getK, hij, Ne.symm hij]) hij rfl rfl (by simp) (by simp) (fun d o1 nx' hnx h => ?_) (fun ch o1 nx' hnx h => by cases h.1)
 obtain ⟨h1, rfl, h4⟩ := h
 have h4 := h4.symm
 subst h4
 cases h1
 simp [del, hij, Ne.symm hij, hiq, hjq, Ne.symm hiq, Ne.symm hjq]
 repeat' (first
  | (refine zai ?_; simp [hij, hiq, hjq])
  | (refine zaq ?_; simp only [zan])
  | fail)
 (refine ⟨by simp, { n := _, env := [], obs := [(i, .box [.u (.int .i64 p)]), (j, .box [.u (.int .i64 e)]), (q, .box (cells.map .u))], next := nx }, (Wk.cut rfl (by simp [hn]) (by simp [wkO, zaa, getK, zab, zac, Ob.under, D.under, zad, zae, hi, hj, hq, hne, hne2, hne3, hij, hiq, hjq, Ne.symm hij, Ne.symm hiq, Ne.symm hjq]) (by simp [wkU, zak, zaa, getK, D.under, hi, hj, hq, hne, hne2, hne3, hij, hiq, hjq, Ne.symm hij, Ne.symm hiq, Ne.symm hjq]) (by simp [wkE, zak, zaa, getK, hi, hj, hq, hne, hne2, hne3, hij, hiq, hjq, Ne.symm hij, Ne.symm hiq, Ne.symm hjq])), by simp [hn], ?_⟩; try simp)
 all_goals rfl
theorem znw (i j q nx : Nat) (hi : i < nx) (hj : j < nx) (hq : q < nx) (hij : i ≠ j) (hiq : i ≠ q) (hjq : j ≠ q) (p e pos err : Int) :
  RetDf Tryz.prog 62 [.ptr i 0, .ptr j 0, .ptr q 0] [(i, .box [.u (.int .i64 p)]), (j, .box [.u (.int .i64 e)]), (q, znq)] nx (.panicking (chP pos err))
   (fun u o n => settle u = .returning ∧ n = nx ∧ o = [(i, .box [.u (.int .i64 pos)]), (j, .box [.u (.int .i64 err)]), (q, znq)]) := by
 have hne := zaQ hi
 have hne2 := zaQ hj
 have hne3 := zaQ hq
 have hc0 := zjg i j nx hi hj hij p e pos err
 refine RetDf.of_body Tryz.func62 rfl (by simp) (by simp) rfl fun Γ hn => ?_
 simp [entry, zj7, chP, Tryz.ntmps62]
 refine CallP.x2 hc0 (by simp [getK]) (by simp [getK, hij, Ne.symm hij]) hij rfl rfl (by simp) (by simp) (fun d o1 nx' hnx h => ?_) (fun ch o1 nx' hnx h => by cases h.1)
 obtain ⟨h1, rfl, h4⟩ := h
 have h4 := h4.symm
 subst h4
 cases h1
 simp [del, hij, Ne.symm hij, hiq, hjq, Ne.symm hiq, Ne.symm hjq]
 repeat' (first
  | (refine zag ?_; simp [hij, hiq, hjq])
  | (refine zaj ?_; simp [hij, hiq, hjq])
  | (refine zai ?_; simp [hij, hiq, hjq])
  | (refine zap ?_; simp [hij, hiq, hjq])
  | fail)
 (refine ⟨by simp, { n := _, env := [], obs := [(i, .box [.u (.int .i64 pos)]), (j, .box [.u (.int .i64 err)]), (q, znq)], next := nx }, (Wk.cut rfl (by simp [hn]) (by simp [wkO, zaa, getK, zab, zac, Ob.under, D.under, zad, zae, hi, hj, hq, hne, hne2, hne3, hij, hiq, hjq, Ne.symm hij, Ne.symm hiq, Ne.symm hjq]) (by simp [wkU, zak, zaa, getK, D.under, hi, hj, hq, hne, hne2, hne3, hij, hiq, hjq, Ne.symm hij, Ne.symm hiq, Ne.symm hjq]) (by simp [wkE, zak, zaa, getK, hi, hj, hq, hne, hne2, hne3, hij, hiq, hjq, Ne.symm hij, Ne.symm hiq, Ne.symm hjq])), by simp [hn], ?_⟩; try simp)
 all_goals rfl
theorem zli (s : W8) : RetX Tryz.prog 25 [.u (.str s)] [] 0 (fun r o n => r = .val (zpb (ze9 s))) := by
 skip
 unfold ze9
 cases hlx : zkT s with
 | error pe =>
  obtain ⟨p, e⟩ := pe
  have ho := fun nx => zmN s p e nx hlx
  have he := (zmV hlx).1
  simp only
  (refine RetX.zfs Tryz.func25 rfl (by simp) fun Γ hn hdfr hpan hesc => ?_); simp only [entry, List.zipIdx_cons, List.zipIdx_nil, List.map_cons, List.map_nil, Nat.zero_add, Tryz.ntmps25]
  repeat' (first
  | (refine zag ?_; simp [he])
  | (refine zaN rfl ?_; simp [he])
  | (refine zbu rfl ?_; simp [he])
  | (refine zaj ?_; simp [he])
  | (refine zah ?_; simp [he])
  | (refine zai ?_; simp [he])
  | (refine zaS (hC _ (by kernel_rfl)) (hk _ ?_); clear hC hk C k; simp only [zan])
  | (refine zaM rfl (by kernel_rfl) (by first | (simp [hn]; done) | (simp [hn]; omega) | fail) fun C k hC hk => ?_; simp [he])
  | (refine zas ?_; simp only [zan])
  | (refine CallP.okL (ho _) (by first | (simp [he, zaa, getK, zab, zac, zax, zaP, del]; done) | fail) (by rfl) (by first | assumption | (simp; done) | fail) (by rfl) (by simp) ?_; (try simp [he, zjc, del]))
  | fail)
  refine EndW.norm ?_
  simp [St.norm, za1, zbz, zbL, zbM]
  (refine EndW.here ?_; (first | (refine EndOK.fin (.inr rfl) ?_) | (refine EndOK.fin (.inl rfl) ?_)); simp [zaC, zaf, Tryz.results25]; refine FinOK.here (by simp) ?_; try simp)
  simp [zpb, zao, zgh, zft, Exp.op, Exp.n, Exp.unit, Exp.s, Exp.args]
 | ok l =>
  obtain ⟨hl, hl2, hl0⟩ := zn9 hlx
  have ho := fun nx => zn5 s l nx hlx
  have hE := zkQ l hl0 hl hl2
  simp only
  cases hr : zor l with
  | stop pos e =>
   simp only [hr] at hE ⊢
   (refine RetX.zfs Tryz.func25 rfl (by simp) fun Γ hn hdfr hpan hesc => ?_); simp only [entry, List.zipIdx_cons, List.zipIdx_nil, List.map_cons, List.map_nil, Nat.zero_add, Tryz.ntmps25]
   rw [zgy]
   repeat' (first
  | (refine zag ?_; simp)
  | (refine zaj ?_; simp)
  | (refine zah ?_; simp)
  | (refine zai ?_; simp)
  | (refine zaq ?_; simp only [zan])
  | (refine CallP.okL (ho _) (by first | (simp [zaa, getK, zab, zac, zax, zaP, del]; done) | fail) (by rfl) (by first | assumption | (simp; done) | fail) (by rfl) (by simp) ?_; (try simp [zjc, del]))
  | fail)
   refine zmt hesc hdfr rfl (by simp) ?_
   have hn0 := hn
   have hpan0 := hpan
   intro Γ' hn hpan
   simp
   repeat' (first
  | (refine zag ?_; simp)
  | (refine zah ?_; simp)
  | (refine CallP.zed (hE) (by first | (simp [zaa, getK, zab, zac]; done) | fail) (by rfl) (by first | assumption | (simp; done) | fail) (by rfl) (by simp) ?_; rintro ob' ⟨q', rfl⟩; refine ⟨_, Wk.refl _, ?_⟩)
  | fail)
   refine hpan _ _ ?_
   refine LeaveD.of [(1, .box [.u (.int .i64 0)]), (2, .box [.u (.int .i64 0)]), (0, znq)] (by simp [zaa, getK, zab, zac]) (znw 1 2 0 _ (by simp) (by simp) (by simp) (by decide) (by decide) (by decide) 0 0 _ _) ?_
   simp only [show Γ.base.n0 = 0 from hn0]
   simp [zjc, del]
   refine EndW.norm ?_
   simp [St.norm, za1, zbz, zbL, zbM]
   (refine EndW.here ?_; (first | (refine EndOK.fin (.inr rfl) ?_) | (refine EndOK.fin (.inl rfl) ?_)); simp [zaC, zaf, Tryz.results25]; refine FinOK.here (by simp) ?_; try simp)
   simp [zpb, zao, zgh, zft, Exp.op, Exp.n, Exp.unit, Exp.s, Exp.args]
  | ok b q =>
   have hEx : RetX Tryz.prog 64 [.ptr 3 0] [(3, pOb l 0)] 4 (fun r o n => r = .val (.u (.agg (zao b))) ∧ o = [(3, pOb l q)] ∧ n = 4) := by
    rw [hr] at hE
    exact hE
   unfold zao at hEx
   (refine RetX.zfs Tryz.func25 rfl (by simp) fun Γ hn hdfr hpan hesc => ?_); simp only [entry, List.zipIdx_cons, List.zipIdx_nil, List.map_cons, List.map_nil, Nat.zero_add, Tryz.ntmps25]
   rw [zgy]
   repeat' (first
  | (refine zag ?_; simp)
  | (refine zaj ?_; simp)
  | (refine zah ?_; simp)
  | (refine zai ?_; simp)
  | (refine zaq ?_; simp only [zan])
  | (refine CallP.okL (ho _) (by first | (simp [zaa, getK, zab, zac, zax, zaP, del]; done) | fail) (by rfl) (by first | assumption | (simp; done) | fail) (by rfl) (by simp) ?_; (try simp [zjc, del]))
  | fail)
   refine zmt hesc hdfr rfl (by simp) ?_
   have hn0 := hn
   have hpan0 := hpan
   intro Γ' hn hpan
   simp
   repeat' (first
  | (refine zag ?_; simp [del])
  | (refine zaj ?_; simp [del])
  | (refine zah ?_; simp [del])
  | (refine zas ?_; simp only [zan])
  | (refine CallP.ok1 (hEx) (by first | (simp [del, zaa, getK, zab, zac]; done) | fail) (by rfl) (by first | assumption | (simp; done) | fail) (by rfl) (by simp) ?_; (try simp [del]))
  | fail)
   refine ⟨rfl, ?_⟩
   refine LeaveD.of [(1, .box [.u (.int .i64 0)]), (2, .box [.u (.int .i64 0)]), (0, .box ((zao b).map .u))] (by simp [zaa, getK, zab, zac, zao]) (znv 1 2 0 _ (by simp) (by simp) (by simp) (by decide) (by decide) (by decide) 0 0 _) ?_
   simp only [show Γ.base.n0 = 0 from hn0]
   simp [zjc, del, zao]
   (refine EndW.here ?_; (first | (refine EndOK.fin (.inr rfl) ?_) | (refine EndOK.fin (.inl rfl) ?_)); simp [zaC, zaf, Tryz.results25]; refine FinOK.here (by simp) ?_; try simp)
   simp [zpb, zao]
theorem zlj (s : W8) : Fun Tryz.prog 25 [.u (.str s)] (· = .tup [byD (ze9 s).1, .u (.int .i64 (ze9 s).2.1), .u (.int .i64 (ze9 s).2.2)]) := by
 unfold Fun
 exact (zli s).ret (fun d o n h => by
  cases h
  exact ⟨by simp [zpb, zaw], rfl⟩) (fun ch o n h => by cases h)
theorem zm0 : Fun Tryz.prog 96 [] (· = .u (.agg (zao bL))) := by
 have h1 := zlj zm2
 have e1 : (ze9 zm2).2 = (0, 0) := by rw [zhV]; kernel_rfl
 rw [e1, zhV] at h1
 change Fun _ _ _ (· = .tup [byD bL, _, _]) at h1
 generalize bL = b at *
 simp only [byD] at h1
 unfold zao at *
 (refine Fun.of_bodyW Tryz.func96 rfl (by simp) fun Γ hn => ?_); simp only [entry, List.zipIdx_cons, List.zipIdx_nil, List.map_cons, List.map_nil, Nat.zero_add, Tryz.ntmps96]
 repeat' (first
  | (refine zag ?_; simp [zm2])
  | (refine zaj ?_; simp [zm2])
  | (refine zah ?_; simp [zm2])
  | (refine zas ?_; simp only [zan])
  | (refine CallP.fun_ (h1) (by first | rfl | fail) (by first | assumption | (simp; done) | fail) (by first | (simp [zm2]; done) | (simp [zm2]; rfl) | fail) (by first | (simp; done) | fail) (fun d hd => ?_); subst hd; (try simp [zm2]))
  | fail)
 refine EndW.here ?_
 (refine EndOK.val (.inr rfl) ?_; simp [zaC, zaf, zaw, Tryz.results96])
theorem znY (l : List Int) (hl : l.length ≤ 1000) : Fun Tryz.prog 50 [.u (zbV l)] (· = .u (voU (zef l))) := by
 unfold zbV voU
 (refine Fun.of_bodyW Tryz.func50 rfl (by simp) fun Γ hn => ?_); simp only [entry, List.zipIdx_cons, List.zipIdx_nil, List.map_cons, List.map_nil, Nat.zero_add, Tryz.ntmps50]
 repeat' (first
  | (refine zag ?_; simp)
  | (refine zaj ?_; simp)
  | (refine zah ?_; simp)
  | (refine zau ?_; simp)
  | fail)
 refine zoP _ (Wk.own 3 49 4 (by decide) rfl) ?_
 simp [St.own]
 refine zde (α := { i : Nat // i ≤ l.length }) [0] (fun i => [(3, .vec 0 i.1), (4, .u (.int .i64 i.1))]) (fun i => [(0, .vec 49 4 (voR (zef (l.take i.1))))]) 1 (fun i => l.length - i.1) ⟨0, by omega⟩ ?_ ?_
 ·exact (Wk.cut rfl (by simp [hn, St.lp]) (by simp [wkO, St.lp, zaa, getK, Ob.under, D.under, zad, zae, zef, voR]) (by simp [wkU, St.lp, zak, zaa, getK, D.under, zef, voR]) (by simp [wkE, St.lp, zak, zaa, getK, zef, voR] <;> (try (intros; simp_all; done)) <;> (try (intros; omega)) <;> (try grind)))
 rintro ⟨i, hi⟩
 simp [St.lp, St.only, zak, zaa, getK]
 rcases hx : l[i]? with _ | k
 ·have hge : l.length ≤ i := by simpa using hx
  obtain rfl : i = l.length := by omega
  simp only [List.take_length]
  have hyl := zfj l
  repeat' (first
  | (refine zag ?_; simp [hx])
  | (refine zaj ?_; simp [hx])
  | (refine zah ?_; simp [hx])
  | (refine zai ?_; simp [hx])
  | (refine zas ?_; simp only [zan])
  | (refine zaZ ?_; simp [zan])
  | fail)
  (refine EndW.frzN 1 ?_; simp [frzN, frz1, zaE, zaD, St.frz, St.frzS, frzS, fv, za3, za4, za9, zaH, zaz, zay, del, frz, zba, ziK, zei, zbD, hyl])
  refine EndW.norm (EndW.here ?_)
  (refine EndOK.val (.inr rfl) ?_; simp [zaC, zaf, zaw, Tryz.results50, zaD, zaE, zck, zcl, frz, zba, frzS, fv, za3, za4, za9, zaH, zaz, zay, zbz, zbL, zbM, za1, zei, zbD, hyl])
 ·have hlt : i < l.length := (List.getElem?_eq_some_iff.1 hx).1
  have hst := zhr hx
  have hyl := zfj (l.take i)
  rw [List.length_take, Nat.min_eq_left (by omega)] at hyl
  generalize zef (l.take i) = O at *
  have hlr := zfl O
  have hvl := zbD O
  have hsn := zfk O ⟨i, k, true, 0⟩
  simp only at hsn
  repeat' (first
  | (refine zag ?_; simp [hx, hvl, hyl, hlr, hsn])
  | (refine zaj ?_; simp [hx, hvl, hyl, hlr, hsn])
  | (refine ⟨by omega, ?_⟩)
  | (refine zah ?_; simp [hx, hvl, hyl, hlr, hsn])
  | (refine zai ?_; simp [hx, hvl, hyl, hlr, hsn])
  | (refine zap ?_; simp [hx, hvl, hyl, hlr, hsn])
  | (refine zaq ?_; simp only [zan])
  | (refine ⟨?_, by omega⟩)
  | (intro hc <;> (try (exfalso; omega)))
  | fail)
  refine LoopW.next ⟨i + 1, by omega⟩ (by simp; omega) ?_
  exact (Wk.ren ((fun i => if i = 0 then 2 else i)) rfl (by first | (simp [hn]; done) | (intro i hi; rw [hn] at hi; constructor <;> (try simp) <;> (try (intro _)) <;> omega)) (by simp [zmx, St.lp, zak, zaa, getK, zac, zax, D.under, D.le, D.ren, hst, hyl, zat, zam] <;> (try (intros; simp_all; done)) <;> (try omega)) (by simp [wkR, St.lp, zaa, getK, zac, zax, obR, leU, zcj, zbf, Ob.under, D.under, D.le, D.ren, hst, hyl, zat, zam] <;> (try (intros; simp_all; done)) <;> (try omega)) (by simp [hst, hyl, zat, zam]))
theorem zmS (jury : List Int) (l : List Vo) (hj : jury.length ≤ 1000000) (hl : l.length ≤ 1000000) : Fun Tryz.prog 44 [.u (zbV jury), .u (voU l)] (· = .u (.int .i64 (zea jury l))) := by
 unfold zbV voU
 (refine Fun.of_bodyW Tryz.func44 rfl (by simp) fun Γ hn => ?_); simp only [entry, List.zipIdx_cons, List.zipIdx_nil, List.map_cons, List.map_nil, Nat.zero_add, Tryz.ntmps44]
 repeat' (first
  | (refine zag ?_; simp)
  | (refine zaj ?_; simp)
  | (refine zah ?_; simp)
  | (refine zau ?_; simp)
  | fail)
 refine zbr (α := { i : Nat // i ≤ jury.length }) [0, 1] (fun i => [(5, .u (.int .i64 (zea (jury.take i.1) l))), (6, .u (.int .i64 i.1))]) (fun i => jury.length - i.1) ⟨0, by omega⟩ ?_ ?_
 ·exact (Wk.cut rfl (by simp [hn, St.lp]) (by simp [wkO, St.lp, zaa, getK, Ob.under, D.under, zad, zae, zea]) (by simp [wkU, St.lp, zak, zaa, getK, D.under, zea]) (by simp [wkE, St.lp, zak, zaa, getK, zea] <;> (try (intros; simp_all; done)) <;> (try (intros; omega)) <;> (try grind)))
 rintro ⟨i, hi⟩
 simp [St.lp, St.only, zak, zaa, getK]
 rcases hx : jury[i]? with _ | j
 ·have hge : jury.length ≤ i := by simpa using hx
  obtain rfl : i = jury.length := by omega
  simp only [List.take_length]
  repeat' (first
  | (refine zag ?_; simp [hx])
  | (refine zaj ?_; simp [hx])
  | (refine zah ?_; simp [hx])
  | (refine zai ?_; simp [hx])
  | (refine zas ?_; simp only [zan])
  | (refine zaZ ?_; simp [zan])
  | fail)
  refine EndW.here ?_
  (refine EndOK.val (.inr rfl) ?_; simp [zaC, zaf, zaw, Tryz.results44])
 ·have hlt : i < jury.length := (List.getElem?_eq_some_iff.1 hx).1
  have hst := zlA jury l hx
  have hml := zlB (jury.take i) l
  rw [List.length_take] at hml
  have hml2 : zea (jury.take i) l ≤ 1000000 := by omega
  generalize zea (jury.take i) l = Y at *
  repeat' (first
  | (refine zag ?_; simp [hx])
  | (refine zaj ?_; simp [hx])
  | (refine zah ?_; simp [hx])
  | (refine zai ?_; simp [hx])
  | (refine zau ?_; simp [hx])
  | (refine zaq ?_; simp only [zan])
  | (refine ⟨?_, by omega⟩)
  | (intro hc <;> (try (exfalso; omega)))
  | fail)
  refine zbr (α := { k : Nat // k ≤ l.length ∧ ∀ w ∈ l.take k, w.who ≠ j }) [0, 1, 5, 6] (fun k => [(7, .u (.int .i64 k.1))]) (fun k => l.length - k.1) ⟨0, by omega, by simp⟩ ?_ ?_
  ·exact (Wk.cut rfl (by simp [hn, St.lp]) (by simp [wkO, St.lp, zaa, getK, Ob.under, D.under, zad, zae]) (by simp [wkU, St.lp, zak, zaa, getK, D.under]) (by simp [wkE, St.lp, zak, zaa, getK] <;> (try (intros; simp_all; done)) <;> (try (intros; omega)) <;> (try grind)))
  rintro ⟨k, hk1, hb⟩
  simp [St.lp, St.only, zak, zaa, getK]
  rcases hy : l[k]? with _ | v
  ·have hge : l.length ≤ k := by simpa using hy
   obtain rfl : k = l.length := by omega
   rw [List.take_length] at hb
   rw [zkH hb, if_neg (by simp)] at hst
   repeat' (first
  | (refine zag ?_; simp [hx, hy])
  | (refine zaj ?_; simp [hx, hy])
  | (refine ⟨by omega, ?_⟩)
  | (refine zah ?_; simp [hx, hy])
  | (refine zai ?_; simp [hx, hy])
  | (refine zap ?_; simp [hx, hy])
  | (refine zaZ ?_; simp [zan])
  | fail)
   refine LoopW.next ⟨i + 1, by omega⟩ (by simp; omega) ?_
   exact (Wk.cut rfl (by simp [hn, St.lp]) (by simp [wkO, St.lp, zaa, getK, Ob.under, D.under, zad, zae, hst]) (by simp [wkU, St.lp, zak, zaa, getK, D.under, hst]) (by simp [wkE, St.lp, zak, zaa, getK, hst] <;> (try (intros; simp_all; done)) <;> (try (intros; omega)) <;> (try grind)))
  ·have hlt2 : k < l.length := (List.getElem?_eq_some_iff.1 hy).1
   by_cases hw : v.who = j
   ·rw [zl8 hb hy hw] at hst
    cases hvy : v.yes with
    | true =>
     rw [hvy, if_pos rfl] at hst
     repeat' (first
  | (refine zag ?_; simp [hx, hy, hw, hvy])
  | (refine zaN rfl ?_; simp [hx, hy, hw, hvy])
  | (refine zaj ?_; simp [hx, hy, hw, hvy])
  | (refine ⟨by omega, ?_⟩)
  | (refine zah ?_; simp [hx, hy, hw, hvy])
  | (refine zai ?_; simp [hx, hy, hw, hvy])
  | (refine zaS (hC _ (by kernel_rfl)) (hk _ ?_); clear hC hk C k; simp only [zan])
  | (refine zaM rfl (by kernel_rfl) (by first | (simp [hn]; done) | (simp [hn]; omega) | fail) fun C k hC hk => ?_; simp [hx, hy, hw, hvy])
  | (refine zap ?_; simp [hx, hy, hw, hvy])
  | (refine zaq ?_; simp only [zan])
  | (refine zaZ ?_; simp [zan])
  | (refine ⟨?_, by omega⟩)
  | (intro hc <;> (try (exfalso; omega)))
  | fail)
     refine LoopW.next ⟨i + 1, by omega⟩ (by simp; omega) ?_
     exact (Wk.cut rfl (by simp [hn, St.lp]) (by simp [wkO, St.lp, zaa, getK, Ob.under, D.under, zad, zae, hst]) (by simp [wkU, St.lp, zak, zaa, getK, D.under, hst]) (by simp [wkE, St.lp, zak, zaa, getK, hst] <;> (try (intros; simp_all; done)) <;> (try (intros; omega)) <;> (try grind)))
    | false =>
     rw [hvy, if_neg (by simp)] at hst
     repeat' (first
  | (refine zag ?_; simp [hx, hy, hw, hvy])
  | (refine zaN rfl ?_; simp [hx, hy, hw, hvy])
  | (refine zaj ?_; simp [hx, hy, hw, hvy])
  | (refine ⟨by omega, ?_⟩)
  | (refine zah ?_; simp [hx, hy, hw, hvy])
  | (refine zai ?_; simp [hx, hy, hw, hvy])
  | (refine zaS (hC _ (by kernel_rfl)) (hk _ ?_); clear hC hk C k; simp only [zan])
  | (refine zaM rfl (by kernel_rfl) (by first | (simp [hn]; done) | (simp [hn]; omega) | fail) fun C k hC hk => ?_; simp [hx, hy, hw, hvy])
  | (refine zap ?_; simp [hx, hy, hw, hvy])
  | (refine zaq ?_; simp only [zan])
  | (refine zaZ ?_; simp [zan])
  | (refine ⟨?_, by omega⟩)
  | (intro hc <;> (try (exfalso; omega)))
  | fail)
     refine LoopW.next ⟨i + 1, by omega⟩ (by simp; omega) ?_
     exact (Wk.cut rfl (by simp [hn, St.lp]) (by simp [wkO, St.lp, zaa, getK, Ob.under, D.under, zad, zae, hst]) (by simp [wkU, St.lp, zak, zaa, getK, D.under, hst]) (by simp [wkE, St.lp, zak, zaa, getK, hst] <;> (try (intros; simp_all; done)) <;> (try (intros; omega)) <;> (try grind)))
   ·repeat' (first
  | (refine zag ?_; simp [hx, hy, hw])
  | (refine zaN rfl ?_; simp [hx, hy, hw])
  | (refine zaj ?_; simp [hx, hy, hw])
  | (refine ⟨by omega, ?_⟩)
  | (refine zah ?_; simp [hx, hy, hw])
  | (refine zai ?_; simp [hx, hy, hw])
  | (refine zaS (hC _ (by kernel_rfl)) (hk _ ?_); clear hC hk C k; simp only [zan])
  | (refine zaM rfl (by kernel_rfl) (by first | (simp [hn]; done) | (simp [hn]; omega) | fail) fun C k hC hk => ?_; simp [hx, hy, hw])
  | (refine zap ?_; simp [hx, hy, hw])
  | (refine zaq ?_; simp only [zan])
  | (refine ⟨?_, by omega⟩)
  | (intro hc <;> (try (exfalso; omega)))
  | fail)
    refine LoopW.next ⟨k + 1, by omega, fun w hm => ?_⟩ (by simp; omega) ?_
    ·rw [List.take_succ, hy] at hm
     rcases List.mem_append.1 hm with h | h
     ·exact hb w h
     ·simp at h; subst h; exact hw
    exact (Wk.cut rfl (by simp [hn, St.lp]) (by simp [wkO, St.lp, zaa, getK, Ob.under, D.under, zad, zae]) (by simp [wkU, St.lp, zak, zaa, getK, D.under]) (by simp [wkE, St.lp, zak, zaa, getK] <;> (try (intros; simp_all; done)) <;> (try (intros; omega)) <;> (try grind)))
theorem zmB (l : List Int) (j nx : Nat) (hj : j < nx) (hl : l.length ≤ 1000) : RetX Tryz.prog 50 [.vec j l.length] [(j, .vec 3 1 (inR l))] nx
  (fun r o n => r = .val (.u (voU (zef l))) ∧ o = [(j, .vec 3 1 (inR l))] ∧ n = nx) := by
 have hne := zaQ hj
 have hil := zoe l
 have hj1 : j < nx + 1 := by omega
 have hj2 : (j = nx + 1 + 1) = False := eq_false (by omega)
 (refine RetX.of_bodyW Tryz.func50 rfl (by simp) fun Γ hn hpan => ?_); simp only [entry, List.zipIdx_cons, List.zipIdx_nil, List.map_cons, List.map_nil, Nat.zero_add, Tryz.ntmps50]
 repeat' (first
  | (refine zag ?_; simp [hne])
  | (refine zaj ?_; simp [hne])
  | (refine zah ?_; simp [hne])
  | (refine zau ?_; simp [hne])
  | fail)
 refine zoP _ (Wk.own 3 49 4 (by decide) rfl) ?_
 simp [St.own, hne]
 refine zde (α := { i : Nat // i ≤ l.length }) [0] (fun i => [(3, .vec nx i.1), (4, .u (.int .i64 i.1))]) (fun i => [(nx, .vec 49 4 (voR (zef (l.take i.1)))), (j, .vec 3 1 (inR l))]) (nx + 1) (fun i => l.length - i.1) ⟨0, by omega⟩ ?_ ?_
 ·exact (Wk.cut rfl (by simp [hn, St.lp]) (by simp [wkO, St.lp, zaa, getK, Ob.under, D.under, zad, zae, zef, voR, hne, hj1, zci]) (by simp [wkU, St.lp, zak, zaa, getK, D.under, zef, voR, hne, hj1, zci]) (by simp [wkE, St.lp, zak, zaa, getK, zef, voR, hne, hj1, zci] <;> (try (intros; simp_all; done)) <;> (try (intros; omega)) <;> (try grind)))
 rintro ⟨i, hi⟩
 simp [St.lp, St.only, zak, zaa, getK]
 rcases hx : l[i]? with _ | k
 ·have hge : l.length ≤ i := by simpa using hx
  obtain rfl : i = l.length := by omega
  simp only [List.take_length]
  have hyl := zfj l
  have hvl := zbD (zef l)
  repeat' (first
  | (refine zag ?_; simp [hx, hne, hvl, hyl])
  | (refine zaj ?_; simp [hx, hne, hvl, hyl])
  | (refine ⟨by omega, ?_⟩)
  | (refine zah ?_; simp [hx, hne, hvl, hyl])
  | (refine zai ?_; simp [hx, hne, hvl, hyl])
  | (refine zas ?_; simp only [zan])
  | (refine zaZ ?_; simp [zan])
  | fail)
  (refine EndW.frzN 1 ?_; simp [frzN, frz1, zaE, zaD, St.frz, St.frzS, frzS, fv, za3, za4, za9, zaH, zaz, zay, del, frz, zba, ziK, zof, zei, zbD, hyl, hne])
  (refine EndW.wk { n := _, env := [(2, .u (voU (zef l)))], obs := [(j, .vec 3 1 (inR l))], next := nx } (Wk.cut rfl (by simp [hn]) (by simp [wkO, zaa, getK, zab, zac, Ob.under, D.under, zad, zae, hne, hj, hj1, zci, voU]) (by simp [wkU, zak, zaa, getK, D.under, hne, hj, hj1, zci, voU]) (by simp [wkE, zak, zaa, getK, hne, hj, hj1, zci, voU])) (EndW.here ?_); (first | (refine EndOK.fin (.inr rfl) ?_) | (refine EndOK.fin (.inl rfl) ?_)); simp [zaC, zaf, Tryz.results50]; refine FinOK.here (by simp) ?_; try simp)
 ·have hlt : i < l.length := (List.getElem?_eq_some_iff.1 hx).1
  have hst := zhr hx
  have hyl := zfj (l.take i)
  rw [List.length_take, Nat.min_eq_left (by omega)] at hyl
  have hri : (inR l)[i]? = some [.u (.int .i64 k)] := by simp [inR, hx]
  have hrg : ∀ h, (inR l)[i]'h = [.u (.int .i64 k)] := fun h => (List.getElem?_eq_some_iff.1 hri).2
  generalize zef (l.take i) = O at *
  have hlr := zfl O
  have hvl := zbD O
  have hsn := zfk O ⟨i, k, true, 0⟩
  simp only at hsn
  repeat' (first
  | (refine zag ?_; simp [hlt, hri, hrg, hil, hvl, hyl, hlr, hsn, hne])
  | (refine zaj ?_; simp [hlt, hri, hrg, hil, hvl, hyl, hlr, hsn, hne])
  | (refine ⟨by omega, ?_⟩)
  | (refine zah ?_; simp [hlt, hri, hrg, hil, hvl, hyl, hlr, hsn, hne])
  | (refine zai ?_; simp [hlt, hri, hrg, hil, hvl, hyl, hlr, hsn, hne])
  | (refine zap ?_; simp [hlt, hri, hrg, hil, hvl, hyl, hlr, hsn, hne])
  | (refine zaq ?_; simp only [zan])
  | fail)
  refine LoopW.next ⟨i + 1, by omega⟩ (by simp; omega) ?_
  exact (Wk.ren ((fun i => if i = nx then nx + 2 else i)) rfl (by first | (simp [hn]; done) | (intro i hi; rw [hn] at hi; constructor <;> (try simp) <;> (try (intro _)) <;> omega)) (by simp [zmx, St.lp, zak, zaa, getK, zac, zax, D.under, D.le, D.ren, hst, hyl, zat, zam, zgS, zci, hne, hj, hj1, hj2] <;> (try (intros; simp_all; done)) <;> (try omega)) (by simp [wkR, St.lp, zaa, getK, zac, zax, obR, leU, zcj, zbf, Ob.under, D.under, D.le, D.ren, hst, hyl, zat, zam, zgS, zci, hne, hj, hj1, hj2] <;> (try (intros; simp_all; done)) <;> (try omega)) (by simp [hst, hyl, zat, zam, zgS, zci, hne, hj, hj1, hj2]))
theorem zi1 : Fun Tryz.prog 177 [.u (.agg (zav znx))] (· = .u (.bool true)) := by
 have h4 := zeG 18
 rw [show zhb 18 = true from rfl] at h4
 simp only [zav, znx, List.map_nil]
 (refine Fun.of_bodyW Tryz.func177 rfl (by simp) fun Γ hn => ?_); simp only [entry, List.zipIdx_cons, List.zipIdx_nil, List.map_cons, List.map_nil, Nat.zero_add, Tryz.ntmps177]
 repeat' (first
  | (refine zag ?_; simp)
  | (refine zaj ?_; simp)
  | (refine zah ?_; simp)
  | (refine zai ?_; simp)
  | (refine zau ?_; simp)
  | (refine zas ?_; simp only [zan])
  | (refine CallP.fun_ (h4) (by first | rfl | fail) (by first | assumption | (simp; done) | fail) (by first | (simp; done) | (simp; rfl) | fail) (by first | (simp; done) | fail) (fun d hd => ?_); subst hd; (try simp))
  | fail)
 refine EndW.here ?_
 (refine EndOK.val (.inr rfl) ?_; simp [zaC, zaf, zaw, Tryz.results177])
theorem zkL : Fun Tryz.prog 101 [.u (.agg (zav znx))] (· = .u (.bool true)) := by
 have f1 := zeT 5
 have f2 := zeG 20
 have f3 := zhS znx (by decide) (by decide)
 have f4 := zji [] (by simp)
 have f5 := zdU [5, 6, 7] 10 (by simp)
 have f8 := zi1
 have f9 := zd0 0
 have fa := zeT 0
 rw [show zm7 5 = true from rfl] at f1
 rw [show zhb 20 = true from rfl] at f2
 rw [zlf] at f3
 rw [show zoO [] = true from rfl] at f4
 rw [show decide ((10 : Int) ∈ [5, 6, 7]) = false from rfl] at f5
 rw [show zf9 0 = true from rfl] at f9
 rw [show zm7 0 = true from rfl] at fa
 simp only [zav, znx, List.map_nil, zbV, List.map_cons] at *
 (refine Fun.of_bodyW Tryz.func101 rfl (by simp) fun Γ hn => ?_); simp only [entry, List.zipIdx_cons, List.zipIdx_nil, List.map_cons, List.map_nil, Nat.zero_add, Tryz.ntmps101]
 repeat' (first
  | (refine zag ?_; simp)
  | (refine zaj ?_; simp)
  | (refine zah ?_; simp)
  | (refine zai ?_; simp)
  | (refine zas ?_; simp only [zan])
  | (refine zaq ?_; simp only [zan])
  | (refine CallP.fun_ (f1) (by first | rfl | fail) (by first | assumption | (simp; done) | fail) (by first | (simp; done) | (simp; rfl) | fail) (by first | (simp; done) | fail) (fun d hd => ?_); subst hd; (try simp))
  | (refine CallP.fun_ (f2) (by first | rfl | fail) (by first | assumption | (simp; done) | fail) (by first | (simp; done) | (simp; rfl) | fail) (by first | (simp; done) | fail) (fun d hd => ?_); subst hd; (try simp))
  | (refine CallP.fun_ (f3) (by first | rfl | fail) (by first | assumption | (simp; done) | fail) (by first | (simp; done) | (simp; rfl) | fail) (by first | (simp; done) | fail) (fun d hd => ?_); subst hd; (try simp))
  | (refine CallP.fun_ (f4) (by first | rfl | fail) (by first | assumption | (simp; done) | fail) (by first | (simp; done) | (simp; rfl) | fail) (by first | (simp; done) | fail) (fun d hd => ?_); subst hd; (try simp))
  | (refine CallP.fun_ (f5) (by first | rfl | fail) (by first | assumption | (simp; done) | fail) (by first | (simp; done) | (simp; rfl) | fail) (by first | (simp; done) | fail) (fun d hd => ?_); subst hd; (try simp))
  | (refine CallP.fun_ (f8) (by first | rfl | fail) (by first | assumption | (simp; done) | fail) (by first | (simp; done) | (simp; rfl) | fail) (by first | (simp; done) | fail) (fun d hd => ?_); subst hd; (try simp))
  | (refine CallP.fun_ (f9) (by first | rfl | fail) (by first | assumption | (simp; done) | fail) (by first | (simp; done) | (simp; rfl) | fail) (by first | (simp; done) | fail) (fun d hd => ?_); subst hd; (try simp))
  | (refine CallP.fun_ (fa) (by first | rfl | fail) (by first | assumption | (simp; done) | fail) (by first | (simp; done) | (simp; rfl) | fail) (by first | (simp; done) | fail) (fun d hd => ?_); subst hd; (try simp))
  | fail)
 refine EndW.here ?_
 (refine EndOK.val (.inr rfl) ?_; simp [zaC, zaf, zaw, Tryz.results101])
theorem zmI : Fun Tryz.prog 41 [.u (.agg (zav znx)), .u (.int .i64 9), .u (zbV [1, 2, 3])] (· = .tup [.u (clU c0), .u (.int .i64 0)]) := by
 have f1 := zkL
 have f2 := zdV [1, 2, 3] (by simp)
 simp only [zav, znx, List.map_nil, zbV, List.map_cons, clU, zar, c0] at *
 (refine Fun.of_bodyW Tryz.func41 rfl (by simp) fun Γ hn => ?_); simp only [entry, List.zipIdx_cons, List.zipIdx_nil, List.map_cons, List.map_nil, Nat.zero_add, Tryz.ntmps41]
 repeat' (first
  | (refine zag ?_; simp)
  | (refine zaN rfl ?_; simp)
  | (refine zbu rfl ?_; simp)
  | (refine zaj ?_; simp)
  | (refine zah ?_; simp)
  | (refine zai ?_; simp)
  | (refine zaS (hC _ (by kernel_rfl)) (hk _ ?_); clear hC hk C k; simp only [zan])
  | (refine zaM rfl (by kernel_rfl) (by first | (simp [hn]; done) | (simp [hn]; omega) | fail) fun C k hC hk => ?_; simp)
  | (refine zas ?_; simp only [zan])
  | (refine zaq ?_; simp only [zan])
  | (refine CallP.fun_ (f1) (by first | rfl | fail) (by first | assumption | (simp; done) | fail) (by first | (simp; done) | (simp; rfl) | fail) (by first | (simp; done) | fail) (fun d hd => ?_); subst hd; (try simp))
  | (refine CallV.fun_ (f2) (by first | rfl | fail) (by first | assumption | (simp; done) | fail) (by first | (simp; done) | (simp; rfl) | fail) (by first | (simp; done) | fail) ?_ <;> (try simp))
  | fail)
 refine EndW.norm (EndW.here ?_)
 (refine EndOK.val (.inr rfl) ?_; simp [zaC, zaf, zaw, Tryz.results41, zaD, zaE, zck, zcl, frz, zba, frzS, fv, za3, za4, za9, zaH, zaz, zay, zbz, zbL, zbM, za1])
theorem ziP : Fun Tryz.prog 37 [] (· = .u (.bool true)) := by
 have l0 := zm0
 have t0 := zmI
 have p0 := zhL c0 (by decide) (by decide) (by decide)
 have y0 := znY [1, 3] (by decide)
 have s1 := zeu c1 bL 250 (zef [1, 3]) 21 (by decide) (by decide) (by decide)
 have s2 := zeu c2 bL 250 (zef [1, 3]) 22 (by decide) (by decide) (by decide)
 have s3 := zeu c2 bL 250 (zef [1, 3]) 23 (by decide) (by decide) (by decide)
 have s4 := zi0 c3 250 (by decide) (by decide)
 have s5 := zi0 c4 250 (by decide) (by decide)
 have s6 := zeu c0 bL 250 (zef [1, 3]) 26 (by decide) (by decide) (by decide)
 have s7 := zeu c0 bL 250 (zef [1, 3]) 27 (by decide) (by decide) (by decide)
 have s8 := ze6 c5 bL [4, 6] 34 (by decide) (by decide) (by decide)
 have s9 := ze6 c5 bL [4, 6] 35 (by decide) (by decide) (by decide)
 rw [mp] at p0
 rw [m1] at s1
 rw [m2] at s2
 rw [m3] at s3
 rw [m4] at s4
 rw [m5] at s5
 rw [m6] at s6
 rw [m7] at s7
 rw [m8] at s8
 rw [m9] at s9
 have ey : voU (zef [1, 3]) = .sl [[.int .i64 0, .int .i64 1, .bool true, .int .i64 0], [.int .i64 1, .int .i64 3, .bool true, .int .i64 0]] := rfl
 rw [ey] at y0 s1 s2 s3 s6 s7
 generalize bL = b at *
 simp only [zav, znx, List.map_nil, zbV, List.map_cons, clU, zar, c0, c1, c2, c3, c4, c5, c6] at *
 unfold zao at *
 (refine Fun.of_bodyW Tryz.func37 rfl (by simp) fun Γ hn => ?_); simp only [entry, List.zipIdx_cons, List.zipIdx_nil, List.map_cons, List.map_nil, Nat.zero_add, Tryz.ntmps37]
 have hy : ∀ j nx, j < nx → RetX Tryz.prog 50 [.vec j 2] [(j, .vec 3 1 [[.u (.int .i64 1)], [.u (.int .i64 3)]])] nx (fun r o n => r = .val (.u (.sl [[.int .i64 0, .int .i64 1, .bool true, .int .i64 0], [.int .i64 1, .int .i64 3, .bool true, .int .i64 0]])) ∧ o = [(j, .vec 3 1 [[.u (.int .i64 1)], [.u (.int .i64 3)]])] ∧ n = nx) := fun j nx h => by
  have := zmB [1, 3] j nx h (by decide)
  rw [ey] at this
  exact this
 repeat' (first
  | (refine zag ?_; simp)
  | (refine zaj ?_; simp)
  | (refine zah ?_; simp)
  | (refine CallP.fun_ (l0) (by first | rfl | fail) (by first | assumption | (simp; done) | fail) (by first | (simp; done) | (simp; rfl) | fail) (by first | (simp; done) | fail) (fun d hd => ?_); subst hd; (try simp))
  | fail)
 refine zjV (Wk.norm _) ?_
 simp [St.norm, zbz, zbL, zbM, za1]
 repeat' (first
  | (refine zf3 (fun nx (h : 6 ≤ nx) => hy 5 nx (by omega)) (by first | (simp [zaa, getK, zab, zac, zax, zaP, del]; done) | fail) rfl (by first | (simp []; done) | fail) (by rfl) (by first | assumption | (simp; done) | fail) (by rfl) (by first | (simp [D.under, Ob.under, zad, zae]; done) | (simp [D.under, Ob.under, zad, zae]; omega) | fail) (by simp) ?_; (try simp))
  | (refine zf3 (fun nx (h : 8 ≤ nx) => hy 7 nx (by omega)) (by first | (simp [zaa, getK, zab, zac, zax, zaP, del]; done) | fail) rfl (by first | (simp []; done) | fail) (by rfl) (by first | assumption | (simp; done) | fail) (by rfl) (by first | (simp [D.under, Ob.under, zad, zae]; done) | (simp [D.under, Ob.under, zad, zae]; omega) | fail) (by simp) ?_; (try simp))
  | (refine zf3 (fun nx (h : 10 ≤ nx) => hy 9 nx (by omega)) (by first | (simp [zaa, getK, zab, zac, zax, zaP, del]; done) | fail) rfl (by first | (simp []; done) | fail) (by rfl) (by first | assumption | (simp; done) | fail) (by rfl) (by first | (simp [D.under, Ob.under, zad, zae]; done) | (simp [D.under, Ob.under, zad, zae]; omega) | fail) (by simp) ?_; (try simp))
  | (refine zf3 (fun nx (h : 14 ≤ nx) => hy 13 nx (by omega)) (by first | (simp [zaa, getK, zab, zac, zax, zaP, del]; done) | fail) rfl (by first | (simp []; done) | fail) (by rfl) (by first | assumption | (simp; done) | fail) (by rfl) (by first | (simp [D.under, Ob.under, zad, zae]; done) | (simp [D.under, Ob.under, zad, zae]; omega) | fail) (by simp) ?_; (try simp))
  | (refine zf3 (fun nx (h : 16 ≤ nx) => hy 15 nx (by omega)) (by first | (simp [zaa, getK, zab, zac, zax, zaP, del]; done) | fail) rfl (by first | (simp []; done) | fail) (by rfl) (by first | assumption | (simp; done) | fail) (by rfl) (by first | (simp [D.under, Ob.under, zad, zae]; done) | (simp [D.under, Ob.under, zad, zae]; omega) | fail) (by simp) ?_; (try simp))
  | (refine zag ?_; simp)
  | (refine zaN rfl ?_; simp)
  | (refine zbu rfl ?_; simp)
  | (refine zaj ?_; simp)
  | (refine zah ?_; simp)
  | (refine zaS (hC _ (by kernel_rfl)) (hk _ ?_); clear hC hk C k; simp only [zan])
  | (refine zaM rfl (by kernel_rfl) (by first | (simp [hn]; done) | (simp [hn]; omega) | fail) fun C k hC hk => ?_; simp)
  | (refine zas ?_; simp only [zan])
  | (refine CallP.fun_ (t0) (by first | rfl | fail) (by first | assumption | (simp; done) | fail) (by first | (simp; done) | (simp; rfl) | fail) (by first | (simp; done) | fail) (fun d hd => ?_); subst hd; (try simp))
  | (refine CallP.fun_ (p0) (by first | rfl | fail) (by first | assumption | (simp; done) | fail) (by first | (simp; done) | (simp; rfl) | fail) (by first | (simp; done) | fail) (fun d hd => ?_); subst hd; (try simp))
  | (refine CallV.fun_ (s1) (by first | rfl | fail) (by first | assumption | (simp; done) | fail) (by first | (simp; done) | (simp; rfl) | fail) (by first | (simp; done) | fail) ?_ <;> (try simp))
  | (refine CallV.fun_ (s2) (by first | rfl | fail) (by first | assumption | (simp; done) | fail) (by first | (simp; done) | (simp; rfl) | fail) (by first | (simp; done) | fail) ?_ <;> (try simp))
  | (refine CallV.fun_ (s3) (by first | rfl | fail) (by first | assumption | (simp; done) | fail) (by first | (simp; done) | (simp; rfl) | fail) (by first | (simp; done) | fail) ?_ <;> (try simp))
  | (refine CallP.fun_ (s4) (by first | rfl | fail) (by first | assumption | (simp; done) | fail) (by first | (simp; done) | (simp; rfl) | fail) (by first | (simp; done) | fail) (fun d hd => ?_); subst hd; (try simp))
  | (refine CallP.fun_ (s5) (by first | rfl | fail) (by first | assumption | (simp; done) | fail) (by first | (simp; done) | (simp; rfl) | fail) (by first | (simp; done) | fail) (fun d hd => ?_); subst hd; (try simp))
  | (refine CallV.fun_ (s6) (by first | rfl | fail) (by first | assumption | (simp; done) | fail) (by first | (simp; done) | (simp; rfl) | fail) (by first | (simp; done) | fail) ?_ <;> (try simp))
  | (refine CallV.fun_ (s7) (by first | rfl | fail) (by first | assumption | (simp; done) | fail) (by first | (simp; done) | (simp; rfl) | fail) (by first | (simp; done) | fail) ?_ <;> (try simp))
  | (refine CallP.fun_ (s8) (by first | rfl | fail) (by first | assumption | (simp; done) | fail) (by first | (simp; done) | (simp; rfl) | fail) (by first | (simp; done) | fail) (fun d hd => ?_); subst hd; (try simp))
  | (refine CallP.fun_ (s9) (by first | rfl | fail) (by first | assumption | (simp; done) | fail) (by first | (simp; done) | (simp; rfl) | fail) (by first | (simp; done) | fail) (fun d hd => ?_); subst hd; (try simp))
  | fail)
 refine EndW.here ?_
 (refine EndOK.val (.inr rfl) ?_; simp [zaC, zaf, zaw, Tryz.results37])
theorem zj2 (b : By) : Fun Tryz.prog 38 [.u (.agg (zao b))] (fun d => ∃ B : Bool, d = .u (.bool B)) := by
 have h1 := zja b.lets 3 16 (by omega) (by omega) (by omega) (by omega)
 have h2 := zcM b.due 16 (by omega) (by omega)
 have h3 := zcM b.fine 16 (by omega) (by omega)
 have h4 := zcM b.pay 16 (by omega) (by omega)
 have h5 := zcM b.cover 16 (by omega) (by omega)
 have h6 := zcM b.hold 16 (by omega) (by omega)
 generalize zp4 b.lets 3 16 = x1 at *
 generalize zmc b.due 16 = x2 at *
 generalize zmc b.fine 16 = x3 at *
 generalize zmc b.pay 16 = x4 at *
 generalize zmc b.cover 16 = x5 at *
 generalize zmc b.hold 16 = x6 at *
 unfold zao
 unfold zgZ at h1
 unfold zfX at h2 h3 h4 h5 h6
 (refine Fun.of_bodyW Tryz.func38 rfl (by simp) fun Γ hn => ?_); simp only [entry, List.zipIdx_cons, List.zipIdx_nil, List.map_cons, List.map_nil, Nat.zero_add, Tryz.ntmps38]
 repeat' (first
  | (refine zag ?_; simp)
  | (refine zaj ?_; simp)
  | (refine zah ?_; simp)
  | (refine zas ?_; simp only [zan])
  | (refine ⟨fun hc => ?_, fun hc => ?_⟩ <;> (try (exfalso; omega)))
  | (refine CallP.fun_ (h1) (by first | rfl | fail) (by first | assumption | (simp; done) | fail) (by first | (simp; done) | (simp; rfl) | fail) (by first | (simp; done) | fail) (fun d hd => ?_); subst hd; (try simp))
  | (refine CallP.fun_ (h2) (by first | rfl | fail) (by first | assumption | (simp; done) | fail) (by first | (simp; done) | (simp; rfl) | fail) (by first | (simp; done) | fail) (fun d hd => ?_); subst hd; (try simp))
  | (refine CallP.fun_ (h3) (by first | rfl | fail) (by first | assumption | (simp; done) | fail) (by first | (simp; done) | (simp; rfl) | fail) (by first | (simp; done) | fail) (fun d hd => ?_); subst hd; (try simp))
  | (refine CallP.fun_ (h4) (by first | rfl | fail) (by first | assumption | (simp; done) | fail) (by first | (simp; done) | (simp; rfl) | fail) (by first | (simp; done) | fail) (fun d hd => ?_); subst hd; (try simp))
  | (refine CallP.fun_ (h5) (by first | rfl | fail) (by first | assumption | (simp; done) | fail) (by first | (simp; done) | (simp; rfl) | fail) (by first | (simp; done) | fail) (fun d hd => ?_); subst hd; (try simp))
  | (refine CallP.fun_ (h6) (by first | rfl | fail) (by first | assumption | (simp; done) | fail) (by first | (simp; done) | (simp; rfl) | fail) (by first | (simp; done) | fail) (fun d hd => ?_); subst hd; (try simp))
  | fail)
 all_goals
  refine EndW.here ?_
  (refine EndOK.val (.inr rfl) ?_; simp [zaC, zaf, zaw, Tryz.results38])
theorem zmJ (c : Cl) (b : By) (cover : Int) (l : List Vo) (today : Int) (h1 : c.jury.length ≤ 1000000) (h2 : c.again.length ≤ 1000000) (hl : l.length ≤ 1000000) :
  Ret Tryz.prog 43 [.u (clU c), .u (.agg (zao b)), .u (.int .i64 cover), .vec 3 l.length, .u (.int .i64 today)] [(3, .vec 49 4 (voR l))] 5 (fun d o n => d = .u (clU (zce c b cover l today)) ∧ o = [(3, .vec 49 4 (voR l))] ∧ n = 5) := by
 have hva := zei l
 have hvl := zbD l
 have e1 := zdm c h1 h2
 have e2 := zdr b
 have e3 := zhk today
 have e4 := zfd c l h1 h2 hl
 obtain ⟨X, hX⟩ : ∃ X, X = zce c b cover l today := ⟨_, rfl⟩
 rw [← hX]
 unfold zce at hX
 generalize zoH c l = v at *
 cases hr : zc8 b with
 | false =>
  rw [hr] at e2 hX
  rw [if_neg (by simp)] at hX
  subst hX
  unfold clU zar zao voU at *
  (refine Ret.of_bodyW Tryz.func43 rfl (by simp) fun Γ hn => ?_); simp only [entry, List.zipIdx_cons, List.zipIdx_nil, List.map_cons, List.map_nil, Nat.zero_add, Tryz.ntmps43]
  repeat' (first
  | (refine zag ?_; simp [hva, hvl])
  | (refine zaj ?_; simp [hva, hvl])
  | (refine zah ?_; simp [hva, hvl])
  | (refine zai ?_; simp [hva, hvl])
  | (refine zas ?_; simp only [zan])
  | (refine CallP.fun_ (e1) (by first | rfl | fail) (by first | assumption | (simp; done) | fail) (by first | (simp [hva, hvl]; done) | (simp [hva, hvl]; rfl) | fail) (by first | (simp; done) | fail) (fun d hd => ?_); subst hd; (try simp [hva, hvl]))
  | (refine CallP.fun_ (e2) (by first | rfl | fail) (by first | assumption | (simp; done) | fail) (by first | (simp [hva, hvl]; done) | (simp [hva, hvl]; rfl) | fail) (by first | (simp; done) | fail) (fun d hd => ?_); subst hd; (try simp [hva, hvl]))
  | fail)
  refine EndW.here ?_
  (first | (refine EndOK.fin (.inr rfl) ?_) | (refine EndOK.fin (.inl rfl) ?_)); simp [zaC, zaf, Tryz.results43]
  refine FinOK.cut [(3, .vec 49 4 (voR l))] 5 (by simp [zaa, getK, zab, zac, Ob.under, D.under, zam]) (by simp [D.under]) (by simp [hn]) ⟨?_, rfl, rfl⟩
  try simp
 | true =>
 obtain ⟨p0, p1, p2, p3⟩ := zcY hr
 rw [hr] at e2 hX
 cases hd : zhb today with
 | false =>
  rw [hd] at e3 hX
  rw [if_neg (by simp)] at hX
  subst hX
  unfold clU zar zao voU at *
  (refine Ret.of_bodyW Tryz.func43 rfl (by simp) fun Γ hn => ?_); simp only [entry, List.zipIdx_cons, List.zipIdx_nil, List.map_cons, List.map_nil, Nat.zero_add, Tryz.ntmps43]
  repeat' (first
  | (refine zag ?_; simp [hva, hvl])
  | (refine zaj ?_; simp [hva, hvl])
  | (refine zah ?_; simp [hva, hvl])
  | (refine zai ?_; simp [hva, hvl])
  | (refine zas ?_; simp only [zan])
  | (refine CallP.fun_ (e1) (by first | rfl | fail) (by first | assumption | (simp; done) | fail) (by first | (simp [hva, hvl]; done) | (simp [hva, hvl]; rfl) | fail) (by first | (simp; done) | fail) (fun d hd => ?_); subst hd; (try simp [hva, hvl]))
  | (refine CallP.fun_ (e2) (by first | rfl | fail) (by first | assumption | (simp; done) | fail) (by first | (simp [hva, hvl]; done) | (simp [hva, hvl]; rfl) | fail) (by first | (simp; done) | fail) (fun d hd => ?_); subst hd; (try simp [hva, hvl]))
  | (refine CallP.fun_ (e3) (by first | rfl | fail) (by first | assumption | (simp; done) | fail) (by first | (simp [hva, hvl]; done) | (simp [hva, hvl]; rfl) | fail) (by first | (simp; done) | fail) (fun d hd => ?_); subst hd; (try simp [hva, hvl]))
  | fail)
  refine EndW.here ?_
  (first | (refine EndOK.fin (.inr rfl) ?_) | (refine EndOK.fin (.inl rfl) ?_)); simp [zaC, zaf, Tryz.results43]
  refine FinOK.cut [(3, .vec 49 4 (voR l))] 5 (by simp [zaa, getK, zab, zac, Ob.under, D.under, zam]) (by simp [D.under]) (by simp [hn]) ⟨?_, rfl, rfl⟩
  try simp
 | true =>
 obtain ⟨d0, d1⟩ := zjQ hd
 rw [hd] at e3 hX
 rw [if_pos ⟨rfl, rfl⟩] at hX
 by_cases s0 : c.state = 0
 case neg =>
  rw [if_neg s0] at hX
  unfold zb4 at hX
  by_cases s1 : c.state = 1
  ·by_cases s2 : c.frm ≤ today + 1
   ·rw [if_pos ⟨s1, s2⟩] at hX
    subst hX
    unfold clU zar zao voU at *
    (refine Ret.of_bodyW Tryz.func43 rfl (by simp) fun Γ hn => ?_); simp only [entry, List.zipIdx_cons, List.zipIdx_nil, List.map_cons, List.map_nil, Nat.zero_add, Tryz.ntmps43]
    repeat' (first
  | (refine zag ?_; simp [s0, s1, s2, hva, hvl])
  | (refine zaj ?_; simp [s0, s1, s2, hva, hvl])
  | (refine ⟨by omega, ?_⟩)
  | (refine zah ?_; simp [s0, s1, s2, hva, hvl])
  | (refine zai ?_; simp [s0, s1, s2, hva, hvl])
  | (refine zap ?_; simp [s0, s1, s2, hva, hvl])
  | (refine zas ?_; simp only [zan])
  | (refine zaq ?_; simp only [zan])
  | (refine CallP.fun_ (e1) (by first | rfl | fail) (by first | assumption | (simp; done) | fail) (by first | (simp [s0, s1, s2, hva, hvl]; done) | (simp [s0, s1, s2, hva, hvl]; rfl) | fail) (by first | (simp; done) | fail) (fun d hd => ?_); subst hd; (try simp [s0, s1, s2, hva, hvl]))
  | (refine CallP.fun_ (e2) (by first | rfl | fail) (by first | assumption | (simp; done) | fail) (by first | (simp [s0, s1, s2, hva, hvl]; done) | (simp [s0, s1, s2, hva, hvl]; rfl) | fail) (by first | (simp; done) | fail) (fun d hd => ?_); subst hd; (try simp [s0, s1, s2, hva, hvl]))
  | (refine CallP.fun_ (e3) (by first | rfl | fail) (by first | assumption | (simp; done) | fail) (by first | (simp [s0, s1, s2, hva, hvl]; done) | (simp [s0, s1, s2, hva, hvl]; rfl) | fail) (by first | (simp; done) | fail) (fun d hd => ?_); subst hd; (try simp [s0, s1, s2, hva, hvl]))
  | fail)
    refine EndW.here ?_
    (first | (refine EndOK.fin (.inr rfl) ?_) | (refine EndOK.fin (.inl rfl) ?_)); simp [zaC, zaf, Tryz.results43]
    refine FinOK.cut [(3, .vec 49 4 (voR l))] 5 (by simp [zaa, getK, zab, zac, Ob.under, D.under, zam]) (by simp [D.under]) (by simp [hn]) ⟨?_, rfl, rfl⟩
    try simp
   ·rw [if_neg (fun h => s2 h.2)] at hX
    subst hX
    unfold clU zar zao voU at *
    (refine Ret.of_bodyW Tryz.func43 rfl (by simp) fun Γ hn => ?_); simp only [entry, List.zipIdx_cons, List.zipIdx_nil, List.map_cons, List.map_nil, Nat.zero_add, Tryz.ntmps43]
    repeat' (first
  | (refine zag ?_; simp [s0, s1, s2, hva, hvl])
  | (refine zaj ?_; simp [s0, s1, s2, hva, hvl])
  | (refine ⟨by omega, ?_⟩)
  | (refine zah ?_; simp [s0, s1, s2, hva, hvl])
  | (refine zai ?_; simp [s0, s1, s2, hva, hvl])
  | (refine zas ?_; simp only [zan])
  | (refine zaq ?_; simp only [zan])
  | (refine CallP.fun_ (e1) (by first | rfl | fail) (by first | assumption | (simp; done) | fail) (by first | (simp [s0, s1, s2, hva, hvl]; done) | (simp [s0, s1, s2, hva, hvl]; rfl) | fail) (by first | (simp; done) | fail) (fun d hd => ?_); subst hd; (try simp [s0, s1, s2, hva, hvl]))
  | (refine CallP.fun_ (e2) (by first | rfl | fail) (by first | assumption | (simp; done) | fail) (by first | (simp [s0, s1, s2, hva, hvl]; done) | (simp [s0, s1, s2, hva, hvl]; rfl) | fail) (by first | (simp; done) | fail) (fun d hd => ?_); subst hd; (try simp [s0, s1, s2, hva, hvl]))
  | (refine CallP.fun_ (e3) (by first | rfl | fail) (by first | assumption | (simp; done) | fail) (by first | (simp [s0, s1, s2, hva, hvl]; done) | (simp [s0, s1, s2, hva, hvl]; rfl) | fail) (by first | (simp; done) | fail) (fun d hd => ?_); subst hd; (try simp [s0, s1, s2, hva, hvl]))
  | fail)
    refine EndW.here ?_
    (first | (refine EndOK.fin (.inr rfl) ?_) | (refine EndOK.fin (.inl rfl) ?_)); simp [zaC, zaf, Tryz.results43]
    refine FinOK.cut [(3, .vec 49 4 (voR l))] 5 (by simp [zaa, getK, zab, zac, Ob.under, D.under, zam]) (by simp [D.under]) (by simp [hn]) ⟨?_, rfl, rfl⟩
    try simp
  ·rw [if_neg (fun h => s1 h.1)] at hX
   subst hX
   unfold clU zar zao voU at *
   (refine Ret.of_bodyW Tryz.func43 rfl (by simp) fun Γ hn => ?_); simp only [entry, List.zipIdx_cons, List.zipIdx_nil, List.map_cons, List.map_nil, Nat.zero_add, Tryz.ntmps43]
   repeat' (first
  | (refine zag ?_; simp [s0, s1, hva, hvl])
  | (refine zaj ?_; simp [s0, s1, hva, hvl])
  | (refine zah ?_; simp [s0, s1, hva, hvl])
  | (refine zai ?_; simp [s0, s1, hva, hvl])
  | (refine zas ?_; simp only [zan])
  | (refine zaq ?_; simp only [zan])
  | (refine CallP.fun_ (e1) (by first | rfl | fail) (by first | assumption | (simp; done) | fail) (by first | (simp [s0, s1, hva, hvl]; done) | (simp [s0, s1, hva, hvl]; rfl) | fail) (by first | (simp; done) | fail) (fun d hd => ?_); subst hd; (try simp [s0, s1, hva, hvl]))
  | (refine CallP.fun_ (e2) (by first | rfl | fail) (by first | assumption | (simp; done) | fail) (by first | (simp [s0, s1, hva, hvl]; done) | (simp [s0, s1, hva, hvl]; rfl) | fail) (by first | (simp; done) | fail) (fun d hd => ?_); subst hd; (try simp [s0, s1, hva, hvl]))
  | (refine CallP.fun_ (e3) (by first | rfl | fail) (by first | assumption | (simp; done) | fail) (by first | (simp [s0, s1, hva, hvl]; done) | (simp [s0, s1, hva, hvl]; rfl) | fail) (by first | (simp; done) | fail) (fun d hd => ?_); subst hd; (try simp [s0, s1, hva, hvl]))
  | fail)
   refine EndW.here ?_
   (first | (refine EndOK.fin (.inr rfl) ?_) | (refine EndOK.fin (.inl rfl) ?_)); simp [zaC, zaf, Tryz.results43]
   refine FinOK.cut [(3, .vec 49 4 (voR l))] 5 (by simp [zaa, getK, zab, zac, Ob.under, D.under, zam]) (by simp [D.under]) (by simp [hn]) ⟨?_, rfl, rfl⟩
   try simp
 rw [if_pos s0] at hX
 by_cases c1 : v = 1 ∧ 0 < c.proofs
 ·by_cases c3 : 0 < zcH c cover
  ·have hru : zcD c b.wait b.period v cover today = { c with state := 1, grant := zcH c cover, frm := today + 1 + b.wait } := by rw [zcD, if_pos c1, if_pos c3]
   obtain ⟨c1, c2⟩ := c1
   rw [hru] at hX
   unfold zb4 at hX
   unfold zcH at hX c3
   by_cases c4 : b.wait = 0
   ·rw [if_pos ⟨rfl, by simp only; omega⟩] at hX
    subst hX
    have c5 : today + 1 + b.wait ≤ today + 1 := by omega
    unfold clU zar zao voU at *
    (refine Ret.of_bodyW Tryz.func43 rfl (by simp) fun Γ hn => ?_); simp only [entry, List.zipIdx_cons, List.zipIdx_nil, List.map_cons, List.map_nil, Nat.zero_add, Tryz.ntmps43]
    repeat' (first
  | (refine zag ?_; simp [s0, c1, c2, c3, c5, hva, hvl])
  | (refine zaN rfl ?_; simp [s0, c1, c2, c3, c5, hva, hvl])
  | (refine zbu rfl ?_; simp [s0, c1, c2, c3, c5, hva, hvl])
  | (refine zaj ?_; simp [s0, c1, c2, c3, c5, hva, hvl])
  | (refine ⟨by omega, ?_⟩)
  | (refine zah ?_; simp [s0, c1, c2, c3, c5, hva, hvl])
  | (refine zai ?_; simp [s0, c1, c2, c3, c5, hva, hvl])
  | (refine zaS (hC _ (by kernel_rfl)) (hk _ ?_); clear hC hk C k; simp only [zan])
  | (refine zaM rfl (by kernel_rfl) (by first | (simp [hn]; done) | (simp [hn]; omega) | fail) fun C k hC hk => ?_; simp [s0, c1, c2, c3, c5, hva, hvl])
  | (refine zau ?_; simp [s0, c1, c2, c3, c5, hva, hvl])
  | (refine zap ?_; simp [s0, c1, c2, c3, c5, hva, hvl])
  | (refine zas ?_; simp only [zan])
  | (refine zaq ?_; simp only [zan])
  | (refine CallP.fun_ (e1) (by first | rfl | fail) (by first | assumption | (simp; done) | fail) (by first | (simp [s0, c1, c2, c3, c5, hva, hvl]; done) | (simp [s0, c1, c2, c3, c5, hva, hvl]; rfl) | fail) (by first | (simp; done) | fail) (fun d hd => ?_); subst hd; (try simp [s0, c1, c2, c3, c5, hva, hvl]))
  | (refine CallP.fun_ (e2) (by first | rfl | fail) (by first | assumption | (simp; done) | fail) (by first | (simp [s0, c1, c2, c3, c5, hva, hvl]; done) | (simp [s0, c1, c2, c3, c5, hva, hvl]; rfl) | fail) (by first | (simp; done) | fail) (fun d hd => ?_); subst hd; (try simp [s0, c1, c2, c3, c5, hva, hvl]))
  | (refine CallP.fun_ (e3) (by first | rfl | fail) (by first | assumption | (simp; done) | fail) (by first | (simp [s0, c1, c2, c3, c5, hva, hvl]; done) | (simp [s0, c1, c2, c3, c5, hva, hvl]; rfl) | fail) (by first | (simp; done) | fail) (fun d hd => ?_); subst hd; (try simp [s0, c1, c2, c3, c5, hva, hvl]))
  | (refine CallP.fun_ (e4) (by first | rfl | fail) (by first | assumption | (simp; done) | fail) (by first | (simp [s0, c1, c2, c3, c5, hva, hvl]; done) | (simp [s0, c1, c2, c3, c5, hva, hvl]; rfl) | fail) (by first | (simp; done) | fail) (fun d hd => ?_); subst hd; (try simp [s0, c1, c2, c3, c5, hva, hvl]))
  | fail)
    refine EndW.here ?_
    (first | (refine EndOK.fin (.inr rfl) ?_) | (refine EndOK.fin (.inl rfl) ?_)); simp [zaC, zaf, Tryz.results43]
    refine FinOK.cut [(3, .vec 49 4 (voR l))] 5 (by simp [zaa, getK, zab, zac, Ob.under, D.under, zam]) (by simp [D.under]) (by simp [hn]) ⟨?_, rfl, rfl⟩
    try simp
   ·rw [if_neg (fun h => by have := h.2; simp only at this; omega)] at hX
    subst hX
    have c5 : ¬ today + 1 + b.wait ≤ today + 1 := by omega
    unfold clU zar zao voU at *
    (refine Ret.of_bodyW Tryz.func43 rfl (by simp) fun Γ hn => ?_); simp only [entry, List.zipIdx_cons, List.zipIdx_nil, List.map_cons, List.map_nil, Nat.zero_add, Tryz.ntmps43]
    repeat' (first
  | (refine zag ?_; simp [s0, c1, c2, c3, c5, hva, hvl])
  | (refine zaN rfl ?_; simp [s0, c1, c2, c3, c5, hva, hvl])
  | (refine zbu rfl ?_; simp [s0, c1, c2, c3, c5, hva, hvl])
  | (refine zaj ?_; simp [s0, c1, c2, c3, c5, hva, hvl])
  | (refine ⟨by omega, ?_⟩)
  | (refine zah ?_; simp [s0, c1, c2, c3, c5, hva, hvl])
  | (refine zai ?_; simp [s0, c1, c2, c3, c5, hva, hvl])
  | (refine zaS (hC _ (by kernel_rfl)) (hk _ ?_); clear hC hk C k; simp only [zan])
  | (refine zaM rfl (by kernel_rfl) (by first | (simp [hn]; done) | (simp [hn]; omega) | fail) fun C k hC hk => ?_; simp [s0, c1, c2, c3, c5, hva, hvl])
  | (refine zau ?_; simp [s0, c1, c2, c3, c5, hva, hvl])
  | (refine zas ?_; simp only [zan])
  | (refine zaq ?_; simp only [zan])
  | (refine CallP.fun_ (e1) (by first | rfl | fail) (by first | assumption | (simp; done) | fail) (by first | (simp [s0, c1, c2, c3, c5, hva, hvl]; done) | (simp [s0, c1, c2, c3, c5, hva, hvl]; rfl) | fail) (by first | (simp; done) | fail) (fun d hd => ?_); subst hd; (try simp [s0, c1, c2, c3, c5, hva, hvl]))
  | (refine CallP.fun_ (e2) (by first | rfl | fail) (by first | assumption | (simp; done) | fail) (by first | (simp [s0, c1, c2, c3, c5, hva, hvl]; done) | (simp [s0, c1, c2, c3, c5, hva, hvl]; rfl) | fail) (by first | (simp; done) | fail) (fun d hd => ?_); subst hd; (try simp [s0, c1, c2, c3, c5, hva, hvl]))
  | (refine CallP.fun_ (e3) (by first | rfl | fail) (by first | assumption | (simp; done) | fail) (by first | (simp [s0, c1, c2, c3, c5, hva, hvl]; done) | (simp [s0, c1, c2, c3, c5, hva, hvl]; rfl) | fail) (by first | (simp; done) | fail) (fun d hd => ?_); subst hd; (try simp [s0, c1, c2, c3, c5, hva, hvl]))
  | (refine CallP.fun_ (e4) (by first | rfl | fail) (by first | assumption | (simp; done) | fail) (by first | (simp [s0, c1, c2, c3, c5, hva, hvl]; done) | (simp [s0, c1, c2, c3, c5, hva, hvl]; rfl) | fail) (by first | (simp; done) | fail) (fun d hd => ?_); subst hd; (try simp [s0, c1, c2, c3, c5, hva, hvl]))
  | fail)
    refine EndW.here ?_
    (first | (refine EndOK.fin (.inr rfl) ?_) | (refine EndOK.fin (.inl rfl) ?_)); simp [zaC, zaf, Tryz.results43]
    refine FinOK.cut [(3, .vec 49 4 (voR l))] 5 (by simp [zaa, getK, zab, zac, Ob.under, D.under, zam]) (by simp [D.under]) (by simp [hn]) ⟨?_, rfl, rfl⟩
    try simp
  ·have hru : zcD c b.wait b.period v cover today = { c with state := 3, frm := today } := by rw [zcD, if_pos c1, if_neg c3]
   obtain ⟨c1, c2⟩ := c1
   rw [hru] at hX
   unfold zb4 at hX
   unfold zcH at c3
   rw [if_neg (fun h => by have := h.1; simp at this)] at hX
   subst hX
   unfold clU zar zao voU at *
   (refine Ret.of_bodyW Tryz.func43 rfl (by simp) fun Γ hn => ?_); simp only [entry, List.zipIdx_cons, List.zipIdx_nil, List.map_cons, List.map_nil, Nat.zero_add, Tryz.ntmps43]
   repeat' (first
  | (refine zag ?_; simp [s0, c1, c2, c3, hva, hvl])
  | (refine zaj ?_; simp [s0, c1, c2, c3, hva, hvl])
  | (refine zah ?_; simp [s0, c1, c2, c3, hva, hvl])
  | (refine zai ?_; simp [s0, c1, c2, c3, hva, hvl])
  | (refine zau ?_; simp [s0, c1, c2, c3, hva, hvl])
  | (refine zap ?_; simp [s0, c1, c2, c3, hva, hvl])
  | (refine zas ?_; simp only [zan])
  | (refine zaq ?_; simp only [zan])
  | (refine CallP.fun_ (e1) (by first | rfl | fail) (by first | assumption | (simp; done) | fail) (by first | (simp [s0, c1, c2, c3, hva, hvl]; done) | (simp [s0, c1, c2, c3, hva, hvl]; rfl) | fail) (by first | (simp; done) | fail) (fun d hd => ?_); subst hd; (try simp [s0, c1, c2, c3, hva, hvl]))
  | (refine CallP.fun_ (e2) (by first | rfl | fail) (by first | assumption | (simp; done) | fail) (by first | (simp [s0, c1, c2, c3, hva, hvl]; done) | (simp [s0, c1, c2, c3, hva, hvl]; rfl) | fail) (by first | (simp; done) | fail) (fun d hd => ?_); subst hd; (try simp [s0, c1, c2, c3, hva, hvl]))
  | (refine CallP.fun_ (e3) (by first | rfl | fail) (by first | assumption | (simp; done) | fail) (by first | (simp [s0, c1, c2, c3, hva, hvl]; done) | (simp [s0, c1, c2, c3, hva, hvl]; rfl) | fail) (by first | (simp; done) | fail) (fun d hd => ?_); subst hd; (try simp [s0, c1, c2, c3, hva, hvl]))
  | (refine CallP.fun_ (e4) (by first | rfl | fail) (by first | assumption | (simp; done) | fail) (by first | (simp [s0, c1, c2, c3, hva, hvl]; done) | (simp [s0, c1, c2, c3, hva, hvl]; rfl) | fail) (by first | (simp; done) | fail) (fun d hd => ?_); subst hd; (try simp [s0, c1, c2, c3, hva, hvl]))
  | fail)
   refine EndW.here ?_
   (first | (refine EndOK.fin (.inr rfl) ?_) | (refine EndOK.fin (.inl rfl) ?_)); simp [zaC, zaf, Tryz.results43]
   refine FinOK.cut [(3, .vec 49 4 (voR l))] 5 (by simp [zaa, getK, zab, zac, Ob.under, D.under, zam]) (by simp [D.under]) (by simp [hn]) ⟨?_, rfl, rfl⟩
   try simp
 by_cases c2 : v = 2
 ·have hru : zcD c b.wait b.period v cover today = { c with state := 3, frm := today } := by rw [zcD, if_neg c1, if_pos (.inl c2)]
  rw [hru] at hX
  unfold zb4 at hX
  rw [if_neg (fun h => by have := h.1; simp at this)] at hX
  subst hX
  have c3 : ¬ v = 1 := by omega
  unfold clU zar zao voU at *
  (refine Ret.of_bodyW Tryz.func43 rfl (by simp) fun Γ hn => ?_); simp only [entry, List.zipIdx_cons, List.zipIdx_nil, List.map_cons, List.map_nil, Nat.zero_add, Tryz.ntmps43]
  repeat' (first
  | (refine zag ?_; simp [s0, c2, c3, hva, hvl])
  | (refine zaj ?_; simp [s0, c2, c3, hva, hvl])
  | (refine zah ?_; simp [s0, c2, c3, hva, hvl])
  | (refine zai ?_; simp [s0, c2, c3, hva, hvl])
  | (refine zau ?_; simp [s0, c2, c3, hva, hvl])
  | (refine zap ?_; simp [s0, c2, c3, hva, hvl])
  | (refine zas ?_; simp only [zan])
  | (refine zaq ?_; simp only [zan])
  | (refine CallP.fun_ (e1) (by first | rfl | fail) (by first | assumption | (simp; done) | fail) (by first | (simp [s0, c2, c3, hva, hvl]; done) | (simp [s0, c2, c3, hva, hvl]; rfl) | fail) (by first | (simp; done) | fail) (fun d hd => ?_); subst hd; (try simp [s0, c2, c3, hva, hvl]))
  | (refine CallP.fun_ (e2) (by first | rfl | fail) (by first | assumption | (simp; done) | fail) (by first | (simp [s0, c2, c3, hva, hvl]; done) | (simp [s0, c2, c3, hva, hvl]; rfl) | fail) (by first | (simp; done) | fail) (fun d hd => ?_); subst hd; (try simp [s0, c2, c3, hva, hvl]))
  | (refine CallP.fun_ (e3) (by first | rfl | fail) (by first | assumption | (simp; done) | fail) (by first | (simp [s0, c2, c3, hva, hvl]; done) | (simp [s0, c2, c3, hva, hvl]; rfl) | fail) (by first | (simp; done) | fail) (fun d hd => ?_); subst hd; (try simp [s0, c2, c3, hva, hvl]))
  | (refine CallP.fun_ (e4) (by first | rfl | fail) (by first | assumption | (simp; done) | fail) (by first | (simp [s0, c2, c3, hva, hvl]; done) | (simp [s0, c2, c3, hva, hvl]; rfl) | fail) (by first | (simp; done) | fail) (fun d hd => ?_); subst hd; (try simp [s0, c2, c3, hva, hvl]))
  | fail)
  refine EndW.here ?_
  (first | (refine EndOK.fin (.inr rfl) ?_) | (refine EndOK.fin (.inl rfl) ?_)); simp [zaC, zaf, Tryz.results43]
  refine FinOK.cut [(3, .vec 49 4 (voR l))] 5 (by simp [zaa, getK, zab, zac, Ob.under, D.under, zam]) (by simp [D.under]) (by simp [hn]) ⟨?_, rfl, rfl⟩
  try simp
 by_cases c3 : c.frm ≤ today - b.period
 ·have hru : zcD c b.wait b.period v cover today = { c with state := 3, frm := today } := by rw [zcD, if_neg c1, if_pos (.inr c3)]
  rw [hru] at hX
  unfold zb4 at hX
  rw [if_neg (fun h => by have := h.1; simp at this)] at hX
  subst hX
  unfold clU zar zao voU at *
  by_cases c4 : v = 1
  ·have c5 : ¬ 0 < c.proofs := fun h => c1 ⟨c4, h⟩
   (refine Ret.of_bodyW Tryz.func43 rfl (by simp) fun Γ hn => ?_); simp only [entry, List.zipIdx_cons, List.zipIdx_nil, List.map_cons, List.map_nil, Nat.zero_add, Tryz.ntmps43]
   repeat' (first
  | (refine zag ?_; simp [s0, c2, c3, c4, c5, hva, hvl])
  | (refine zaj ?_; simp [s0, c2, c3, c4, c5, hva, hvl])
  | (refine ⟨by omega, ?_⟩)
  | (refine zah ?_; simp [s0, c2, c3, c4, c5, hva, hvl])
  | (refine zai ?_; simp [s0, c2, c3, c4, c5, hva, hvl])
  | (refine zau ?_; simp [s0, c2, c3, c4, c5, hva, hvl])
  | (refine zap ?_; simp [s0, c2, c3, c4, c5, hva, hvl])
  | (refine zas ?_; simp only [zan])
  | (refine zaq ?_; simp only [zan])
  | (refine CallP.fun_ (e1) (by first | rfl | fail) (by first | assumption | (simp; done) | fail) (by first | (simp [s0, c2, c3, c4, c5, hva, hvl]; done) | (simp [s0, c2, c3, c4, c5, hva, hvl]; rfl) | fail) (by first | (simp; done) | fail) (fun d hd => ?_); subst hd; (try simp [s0, c2, c3, c4, c5, hva, hvl]))
  | (refine CallP.fun_ (e2) (by first | rfl | fail) (by first | assumption | (simp; done) | fail) (by first | (simp [s0, c2, c3, c4, c5, hva, hvl]; done) | (simp [s0, c2, c3, c4, c5, hva, hvl]; rfl) | fail) (by first | (simp; done) | fail) (fun d hd => ?_); subst hd; (try simp [s0, c2, c3, c4, c5, hva, hvl]))
  | (refine CallP.fun_ (e3) (by first | rfl | fail) (by first | assumption | (simp; done) | fail) (by first | (simp [s0, c2, c3, c4, c5, hva, hvl]; done) | (simp [s0, c2, c3, c4, c5, hva, hvl]; rfl) | fail) (by first | (simp; done) | fail) (fun d hd => ?_); subst hd; (try simp [s0, c2, c3, c4, c5, hva, hvl]))
  | (refine CallP.fun_ (e4) (by first | rfl | fail) (by first | assumption | (simp; done) | fail) (by first | (simp [s0, c2, c3, c4, c5, hva, hvl]; done) | (simp [s0, c2, c3, c4, c5, hva, hvl]; rfl) | fail) (by first | (simp; done) | fail) (fun d hd => ?_); subst hd; (try simp [s0, c2, c3, c4, c5, hva, hvl]))
  | fail)
   refine EndW.here ?_
   (first | (refine EndOK.fin (.inr rfl) ?_) | (refine EndOK.fin (.inl rfl) ?_)); simp [zaC, zaf, Tryz.results43]
   refine FinOK.cut [(3, .vec 49 4 (voR l))] 5 (by simp [zaa, getK, zab, zac, Ob.under, D.under, zam]) (by simp [D.under]) (by simp [hn]) ⟨?_, rfl, rfl⟩
   try simp
  ·skip
   (refine Ret.of_bodyW Tryz.func43 rfl (by simp) fun Γ hn => ?_); simp only [entry, List.zipIdx_cons, List.zipIdx_nil, List.map_cons, List.map_nil, Nat.zero_add, Tryz.ntmps43]
   repeat' (first
  | (refine zag ?_; simp [s0, c2, c3, c4, hva, hvl])
  | (refine zaj ?_; simp [s0, c2, c3, c4, hva, hvl])
  | (refine ⟨by omega, ?_⟩)
  | (refine zah ?_; simp [s0, c2, c3, c4, hva, hvl])
  | (refine zai ?_; simp [s0, c2, c3, c4, hva, hvl])
  | (refine zau ?_; simp [s0, c2, c3, c4, hva, hvl])
  | (refine zap ?_; simp [s0, c2, c3, c4, hva, hvl])
  | (refine zas ?_; simp only [zan])
  | (refine zaq ?_; simp only [zan])
  | (refine CallP.fun_ (e1) (by first | rfl | fail) (by first | assumption | (simp; done) | fail) (by first | (simp [s0, c2, c3, c4, hva, hvl]; done) | (simp [s0, c2, c3, c4, hva, hvl]; rfl) | fail) (by first | (simp; done) | fail) (fun d hd => ?_); subst hd; (try simp [s0, c2, c3, c4, hva, hvl]))
  | (refine CallP.fun_ (e2) (by first | rfl | fail) (by first | assumption | (simp; done) | fail) (by first | (simp [s0, c2, c3, c4, hva, hvl]; done) | (simp [s0, c2, c3, c4, hva, hvl]; rfl) | fail) (by first | (simp; done) | fail) (fun d hd => ?_); subst hd; (try simp [s0, c2, c3, c4, hva, hvl]))
  | (refine CallP.fun_ (e3) (by first | rfl | fail) (by first | assumption | (simp; done) | fail) (by first | (simp [s0, c2, c3, c4, hva, hvl]; done) | (simp [s0, c2, c3, c4, hva, hvl]; rfl) | fail) (by first | (simp; done) | fail) (fun d hd => ?_); subst hd; (try simp [s0, c2, c3, c4, hva, hvl]))
  | (refine CallP.fun_ (e4) (by first | rfl | fail) (by first | assumption | (simp; done) | fail) (by first | (simp [s0, c2, c3, c4, hva, hvl]; done) | (simp [s0, c2, c3, c4, hva, hvl]; rfl) | fail) (by first | (simp; done) | fail) (fun d hd => ?_); subst hd; (try simp [s0, c2, c3, c4, hva, hvl]))
  | fail)
   refine EndW.here ?_
   (first | (refine EndOK.fin (.inr rfl) ?_) | (refine EndOK.fin (.inl rfl) ?_)); simp [zaC, zaf, Tryz.results43]
   refine FinOK.cut [(3, .vec 49 4 (voR l))] 5 (by simp [zaa, getK, zab, zac, Ob.under, D.under, zam]) (by simp [D.under]) (by simp [hn]) ⟨?_, rfl, rfl⟩
   try simp
 ·have hru : zcD c b.wait b.period v cover today = c := by rw [zcD, if_neg c1, if_neg (by omega)]
  rw [hru] at hX
  unfold zb4 at hX
  rw [if_neg (by omega)] at hX
  rw [hX]
  clear hX
  unfold clU zar zao voU at *
  by_cases c4 : v = 1
  ·have c5 : ¬ 0 < c.proofs := fun h => c1 ⟨c4, h⟩
   (refine Ret.of_bodyW Tryz.func43 rfl (by simp) fun Γ hn => ?_); simp only [entry, List.zipIdx_cons, List.zipIdx_nil, List.map_cons, List.map_nil, Nat.zero_add, Tryz.ntmps43]
   repeat' (first
  | (refine zag ?_; simp [s0, c2, c3, c4, c5, hva, hvl])
  | (refine zaj ?_; simp [s0, c2, c3, c4, c5, hva, hvl])
  | (refine ⟨by omega, ?_⟩)
  | (refine zah ?_; simp [s0, c2, c3, c4, c5, hva, hvl])
  | (refine zai ?_; simp [s0, c2, c3, c4, c5, hva, hvl])
  | (refine zau ?_; simp [s0, c2, c3, c4, c5, hva, hvl])
  | (refine zap ?_; simp [s0, c2, c3, c4, c5, hva, hvl])
  | (refine zas ?_; simp only [zan])
  | (refine zaq ?_; simp only [zan])
  | (refine CallP.fun_ (e1) (by first | rfl | fail) (by first | assumption | (simp; done) | fail) (by first | (simp [s0, c2, c3, c4, c5, hva, hvl]; done) | (simp [s0, c2, c3, c4, c5, hva, hvl]; rfl) | fail) (by first | (simp; done) | fail) (fun d hd => ?_); subst hd; (try simp [s0, c2, c3, c4, c5, hva, hvl]))
  | (refine CallP.fun_ (e2) (by first | rfl | fail) (by first | assumption | (simp; done) | fail) (by first | (simp [s0, c2, c3, c4, c5, hva, hvl]; done) | (simp [s0, c2, c3, c4, c5, hva, hvl]; rfl) | fail) (by first | (simp; done) | fail) (fun d hd => ?_); subst hd; (try simp [s0, c2, c3, c4, c5, hva, hvl]))
  | (refine CallP.fun_ (e3) (by first | rfl | fail) (by first | assumption | (simp; done) | fail) (by first | (simp [s0, c2, c3, c4, c5, hva, hvl]; done) | (simp [s0, c2, c3, c4, c5, hva, hvl]; rfl) | fail) (by first | (simp; done) | fail) (fun d hd => ?_); subst hd; (try simp [s0, c2, c3, c4, c5, hva, hvl]))
  | (refine CallP.fun_ (e4) (by first | rfl | fail) (by first | assumption | (simp; done) | fail) (by first | (simp [s0, c2, c3, c4, c5, hva, hvl]; done) | (simp [s0, c2, c3, c4, c5, hva, hvl]; rfl) | fail) (by first | (simp; done) | fail) (fun d hd => ?_); subst hd; (try simp [s0, c2, c3, c4, c5, hva, hvl]))
  | fail)
   refine EndW.here ?_
   (first | (refine EndOK.fin (.inr rfl) ?_) | (refine EndOK.fin (.inl rfl) ?_)); simp [zaC, zaf, Tryz.results43]
   refine FinOK.cut [(3, .vec 49 4 (voR l))] 5 (by simp [zaa, getK, zab, zac, Ob.under, D.under, zam]) (by simp [D.under]) (by simp [hn]) ⟨?_, rfl, rfl⟩
   try simp
  ·skip
   (refine Ret.of_bodyW Tryz.func43 rfl (by simp) fun Γ hn => ?_); simp only [entry, List.zipIdx_cons, List.zipIdx_nil, List.map_cons, List.map_nil, Nat.zero_add, Tryz.ntmps43]
   repeat' (first
  | (refine zag ?_; simp [s0, c2, c3, c4, hva, hvl])
  | (refine zaj ?_; simp [s0, c2, c3, c4, hva, hvl])
  | (refine ⟨by omega, ?_⟩)
  | (refine zah ?_; simp [s0, c2, c3, c4, hva, hvl])
  | (refine zai ?_; simp [s0, c2, c3, c4, hva, hvl])
  | (refine zau ?_; simp [s0, c2, c3, c4, hva, hvl])
  | (refine zap ?_; simp [s0, c2, c3, c4, hva, hvl])
  | (refine zas ?_; simp only [zan])
  | (refine zaq ?_; simp only [zan])
  | (refine CallP.fun_ (e1) (by first | rfl | fail) (by first | assumption | (simp; done) | fail) (by first | (simp [s0, c2, c3, c4, hva, hvl]; done) | (simp [s0, c2, c3, c4, hva, hvl]; rfl) | fail) (by first | (simp; done) | fail) (fun d hd => ?_); subst hd; (try simp [s0, c2, c3, c4, hva, hvl]))
  | (refine CallP.fun_ (e2) (by first | rfl | fail) (by first | assumption | (simp; done) | fail) (by first | (simp [s0, c2, c3, c4, hva, hvl]; done) | (simp [s0, c2, c3, c4, hva, hvl]; rfl) | fail) (by first | (simp; done) | fail) (fun d hd => ?_); subst hd; (try simp [s0, c2, c3, c4, hva, hvl]))
  | (refine CallP.fun_ (e3) (by first | rfl | fail) (by first | assumption | (simp; done) | fail) (by first | (simp [s0, c2, c3, c4, hva, hvl]; done) | (simp [s0, c2, c3, c4, hva, hvl]; rfl) | fail) (by first | (simp; done) | fail) (fun d hd => ?_); subst hd; (try simp [s0, c2, c3, c4, hva, hvl]))
  | (refine CallP.fun_ (e4) (by first | rfl | fail) (by first | assumption | (simp; done) | fail) (by first | (simp [s0, c2, c3, c4, hva, hvl]; done) | (simp [s0, c2, c3, c4, hva, hvl]; rfl) | fail) (by first | (simp; done) | fail) (fun d hd => ?_); subst hd; (try simp [s0, c2, c3, c4, hva, hvl]))
  | fail)
   refine EndW.here ?_
   (first | (refine EndOK.fin (.inr rfl) ?_) | (refine EndOK.fin (.inl rfl) ?_)); simp [zaC, zaf, Tryz.results43]
   refine FinOK.cut [(3, .vec 49 4 (voR l))] 5 (by simp [zaa, getK, zab, zac, Ob.under, D.under, zam]) (by simp [D.under]) (by simp [hn]) ⟨?_, rfl, rfl⟩
   try simp
theorem zma (e : En) : Fun Tryz.prog 39 [.u (.agg (zav e))] (· = .u (.bool (zmb e))) := by
 unfold zmb zav
 by_cases c1 : (e.knows.length : Int) ≤ 40
 ·by_cases c2 : (e.keys.length : Int) ≤ 12
  ·by_cases c3 : (e.spans.length : Int) ≤ 12
   ·by_cases c4 : (e.text.length : Int) ≤ 300
    all_goals
     (refine Fun.of_bodyW Tryz.func39 rfl (by simp) fun Γ hn => ?_); simp only [entry, List.zipIdx_cons, List.zipIdx_nil, List.map_cons, List.map_nil, Nat.zero_add, Tryz.ntmps39]
     repeat' (first
  | (refine zag ?_; simp [c1, c2, c3, c4])
  | (refine zaj ?_; simp [c1, c2, c3, c4])
  | (refine zah ?_; simp [c1, c2, c3, c4])
  | (refine zas ?_; simp only [zan])
  | fail)
     refine EndW.here ?_
     (refine EndOK.val (.inr rfl) ?_; simp [zaC, zaf, zaw, Tryz.results39])
     try simp [c1, c2, c3, c4]
   ·(refine Fun.of_bodyW Tryz.func39 rfl (by simp) fun Γ hn => ?_); simp only [entry, List.zipIdx_cons, List.zipIdx_nil, List.map_cons, List.map_nil, Nat.zero_add, Tryz.ntmps39]
    repeat' (first
  | (refine zag ?_; simp [c1, c2, c3])
  | (refine zaj ?_; simp [c1, c2, c3])
  | (refine zah ?_; simp [c1, c2, c3])
  | (refine zas ?_; simp only [zan])
  | fail)
    refine EndW.here ?_
    (refine EndOK.val (.inr rfl) ?_; simp [zaC, zaf, zaw, Tryz.results39])
    try simp [c1, c2, c3]
  ·(refine Fun.of_bodyW Tryz.func39 rfl (by simp) fun Γ hn => ?_); simp only [entry, List.zipIdx_cons, List.zipIdx_nil, List.map_cons, List.map_nil, Nat.zero_add, Tryz.ntmps39]
   repeat' (first
  | (refine zag ?_; simp [c1, c2])
  | (refine zaj ?_; simp [c1, c2])
  | (refine zah ?_; simp [c1, c2])
  | (refine zas ?_; simp only [zan])
  | fail)
   refine EndW.here ?_
   (refine EndOK.val (.inr rfl) ?_; simp [zaC, zaf, zaw, Tryz.results39])
   try simp [c1, c2]
 ·(refine Fun.of_bodyW Tryz.func39 rfl (by simp) fun Γ hn => ?_); simp only [entry, List.zipIdx_cons, List.zipIdx_nil, List.map_cons, List.map_nil, Nat.zero_add, Tryz.ntmps39]
  repeat' (first
  | (refine zag ?_; simp [c1])
  | (refine zaj ?_; simp [c1])
  | (refine zah ?_; simp [c1])
  | (refine zas ?_; simp only [zan])
  | fail)
  refine EndW.here ?_
  (refine EndOK.val (.inr rfl) ?_; simp [zaC, zaf, zaw, Tryz.results39])
  try simp [c1]
theorem zk8 (e : En) (b : By) (one two : List Int) (cover : Int) (l : List Ac) : Fun Tryz.prog 8 [.u (.agg (zav e)), .u (.agg (zao b)), .u (zbV one), .u (zbV two), .u (.int .i64 cover), .u (acU l)] (· = .u (.bool true)) := by
 have hs := ziP
 have hsm := zj2 b
 have hfe := zma e
 have hrb := zdr b
 cases g1 : zmb e with
 | false =>
  rw [g1] at hfe
  unfold zav zao zbV acU at *
  (refine Fun.of_bodyW Tryz.func8 rfl (by simp) fun Γ hn => ?_); simp only [entry, List.zipIdx_cons, List.zipIdx_nil, List.map_cons, List.map_nil, Nat.zero_add, Tryz.ntmps8]
  repeat' (first
  | (refine CallP.fun_ (hsm) (by first | rfl | fail) (by first | assumption | (simp; done) | fail) (by first | (simp; done) | (simp; rfl) | fail) (by first | (simp; done) | fail) (fun d hd => ?_); obtain ⟨br, rfl⟩ := hd; cases br <;> (try simp))
  | (refine zag ?_; simp [g1])
  | (refine zaj ?_; simp [g1])
  | (refine zah ?_; simp [g1])
  | (refine zai ?_; simp [g1])
  | (refine zas ?_; simp only [zan])
  | (refine CallP.fun_ (hs) (by first | rfl | fail) (by first | assumption | (simp; done) | fail) (by first | (simp [g1]; done) | (simp [g1]; rfl) | fail) (by first | (simp; done) | fail) (fun d hd => ?_); subst hd; (try simp [g1]))
  | (refine CallP.fun_ (hfe) (by first | rfl | fail) (by first | assumption | (simp; done) | fail) (by first | (simp [g1]; done) | (simp [g1]; rfl) | fail) (by first | (simp; done) | fail) (fun d hd => ?_); subst hd; (try simp [g1]))
  | fail)
  all_goals
   refine EndW.here ?_
   (refine EndOK.val (.inr rfl) ?_; simp [zaC, zaf, zaw, Tryz.results8])
 | true =>
 rw [g1] at hfe
 obtain ⟨z1, z2, z3⟩ := zl9 g1
 by_cases g2 : (12 : Int) < one.length
 ·skip
  unfold zav zao zbV acU at *
  (refine Fun.of_bodyW Tryz.func8 rfl (by simp) fun Γ hn => ?_); simp only [entry, List.zipIdx_cons, List.zipIdx_nil, List.map_cons, List.map_nil, Nat.zero_add, Tryz.ntmps8]
  repeat' (first
  | (refine CallP.fun_ (hsm) (by first | rfl | fail) (by first | assumption | (simp; done) | fail) (by first | (simp; done) | (simp; rfl) | fail) (by first | (simp; done) | fail) (fun d hd => ?_); obtain ⟨br, rfl⟩ := hd; cases br <;> (try simp))
  | (refine zag ?_; simp [g2])
  | (refine zaj ?_; simp [g2])
  | (refine zah ?_; simp [g2])
  | (refine zai ?_; simp [g2])
  | (refine zas ?_; simp only [zan])
  | (refine CallP.fun_ (hs) (by first | rfl | fail) (by first | assumption | (simp; done) | fail) (by first | (simp [g2]; done) | (simp [g2]; rfl) | fail) (by first | (simp; done) | fail) (fun d hd => ?_); subst hd; (try simp [g2]))
  | (refine CallP.fun_ (hfe) (by first | rfl | fail) (by first | assumption | (simp; done) | fail) (by first | (simp [g2]; done) | (simp [g2]; rfl) | fail) (by first | (simp; done) | fail) (fun d hd => ?_); subst hd; (try simp [g2]))
  | fail)
  all_goals
   refine EndW.here ?_
   (refine EndOK.val (.inr rfl) ?_; simp [zaC, zaf, zaw, Tryz.results8])
 by_cases g3 : (12 : Int) < two.length
 ·skip
  unfold zav zao zbV acU at *
  (refine Fun.of_bodyW Tryz.func8 rfl (by simp) fun Γ hn => ?_); simp only [entry, List.zipIdx_cons, List.zipIdx_nil, List.map_cons, List.map_nil, Nat.zero_add, Tryz.ntmps8]
  repeat' (first
  | (refine CallP.fun_ (hsm) (by first | rfl | fail) (by first | assumption | (simp; done) | fail) (by first | (simp; done) | (simp; rfl) | fail) (by first | (simp; done) | fail) (fun d hd => ?_); obtain ⟨br, rfl⟩ := hd; cases br <;> (try simp))
  | (refine zag ?_; simp [g2, g3])
  | (refine zaj ?_; simp [g2, g3])
  | (refine zah ?_; simp [g2, g3])
  | (refine zai ?_; simp [g2, g3])
  | (refine zas ?_; simp only [zan])
  | (refine CallP.fun_ (hs) (by first | rfl | fail) (by first | assumption | (simp; done) | fail) (by first | (simp [g2, g3]; done) | (simp [g2, g3]; rfl) | fail) (by first | (simp; done) | fail) (fun d hd => ?_); subst hd; (try simp [g2, g3]))
  | (refine CallP.fun_ (hfe) (by first | rfl | fail) (by first | assumption | (simp; done) | fail) (by first | (simp [g2, g3]; done) | (simp [g2, g3]; rfl) | fail) (by first | (simp; done) | fail) (fun d hd => ?_); subst hd; (try simp [g2, g3]))
  | fail)
  all_goals
   refine EndW.here ?_
   (refine EndOK.val (.inr rfl) ?_; simp [zaC, zaf, zaw, Tryz.results8])
 by_cases g4 : (30 : Int) < l.length
 ·skip
  unfold zav zao zbV acU at *
  (refine Fun.of_bodyW Tryz.func8 rfl (by simp) fun Γ hn => ?_); simp only [entry, List.zipIdx_cons, List.zipIdx_nil, List.map_cons, List.map_nil, Nat.zero_add, Tryz.ntmps8]
  repeat' (first
  | (refine CallP.fun_ (hsm) (by first | rfl | fail) (by first | assumption | (simp; done) | fail) (by first | (simp; done) | (simp; rfl) | fail) (by first | (simp; done) | fail) (fun d hd => ?_); obtain ⟨br, rfl⟩ := hd; cases br <;> (try simp))
  | (refine zag ?_; simp [g2, g3, g4])
  | (refine zaj ?_; simp [g2, g3, g4])
  | (refine zah ?_; simp [g2, g3, g4])
  | (refine zai ?_; simp [g2, g3, g4])
  | (refine zas ?_; simp only [zan])
  | (refine CallP.fun_ (hs) (by first | rfl | fail) (by first | assumption | (simp; done) | fail) (by first | (simp [g2, g3, g4]; done) | (simp [g2, g3, g4]; rfl) | fail) (by first | (simp; done) | fail) (fun d hd => ?_); subst hd; (try simp [g2, g3, g4]))
  | (refine CallP.fun_ (hfe) (by first | rfl | fail) (by first | assumption | (simp; done) | fail) (by first | (simp [g2, g3, g4]; done) | (simp [g2, g3, g4]; rfl) | fail) (by first | (simp; done) | fail) (fun d hd => ?_); subst hd; (try simp [g2, g3, g4]))
  | fail)
  all_goals
   refine EndW.here ?_
   (refine EndOK.val (.inr rfl) ?_; simp [zaC, zaf, zaw, Tryz.results8])
 cases g5 : zc8 b with
 | false =>
  rw [g5] at hrb
  unfold zav zao zbV acU at *
  (refine Fun.of_bodyW Tryz.func8 rfl (by simp) fun Γ hn => ?_); simp only [entry, List.zipIdx_cons, List.zipIdx_nil, List.map_cons, List.map_nil, Nat.zero_add, Tryz.ntmps8]
  repeat' (first
  | (refine CallP.fun_ (hsm) (by first | rfl | fail) (by first | assumption | (simp; done) | fail) (by first | (simp; done) | (simp; rfl) | fail) (by first | (simp; done) | fail) (fun d hd => ?_); obtain ⟨br, rfl⟩ := hd; cases br <;> (try simp))
  | (refine zag ?_; simp [g2, g3, g4])
  | (refine zaj ?_; simp [g2, g3, g4])
  | (refine zah ?_; simp [g2, g3, g4])
  | (refine zai ?_; simp [g2, g3, g4])
  | (refine zas ?_; simp only [zan])
  | (refine CallP.fun_ (hs) (by first | rfl | fail) (by first | assumption | (simp; done) | fail) (by first | (simp [g2, g3, g4]; done) | (simp [g2, g3, g4]; rfl) | fail) (by first | (simp; done) | fail) (fun d hd => ?_); subst hd; (try simp [g2, g3, g4]))
  | (refine CallP.fun_ (hfe) (by first | rfl | fail) (by first | assumption | (simp; done) | fail) (by first | (simp [g2, g3, g4]; done) | (simp [g2, g3, g4]; rfl) | fail) (by first | (simp; done) | fail) (fun d hd => ?_); subst hd; (try simp [g2, g3, g4]))
  | (refine CallP.fun_ (hrb) (by first | rfl | fail) (by first | assumption | (simp; done) | fail) (by first | (simp [g2, g3, g4]; done) | (simp [g2, g3, g4]; rfl) | fail) (by first | (simp; done) | fail) (fun d hd => ?_); subst hd; (try simp [g2, g3, g4]))
  | fail)
  all_goals
   refine EndW.here ?_
   (refine EndOK.val (.inr rfl) ?_; simp [zaC, zaf, zaw, Tryz.results8])
 | true =>
 obtain ⟨p0, p1, p2, p3⟩ := zcY g5
 rw [g5] at hrb
 have htl := zn0 e 1 one (by omega) (by omega) (by omega) (by omega)
 unfold znD at htl
 have hen : zav e = zav e := rfl
 unfold zav at hfe htl
 unfold zao at hsm hrb
 unfold zbV at htl
 show Fun _ _ [.u (.agg _), .u (.agg _), .u (.sl _), .u (.sl _), _, .u (.sl _)] _
 unfold zav zao
 (refine Fun.of_bodyW Tryz.func8 rfl (by simp) fun Γ hn => ?_); simp only [entry, List.zipIdx_cons, List.zipIdx_nil, List.map_cons, List.map_nil, Nat.zero_add, Tryz.ntmps8]
 repeat' (first
  | (refine CallP.fun_ (hsm) (by first | rfl | fail) (by first | assumption | (simp; done) | fail) (by first | (simp; done) | (simp; rfl) | fail) (by first | (simp; done) | fail) (fun d hd => ?_); obtain ⟨br, rfl⟩ := hd; cases br <;> (try simp))
  | (refine CallP.fun_ (htl) (by first | rfl | fail) (by first | assumption | (simp; done) | fail) (by first | (simp; done) | (simp; rfl) | fail) (by first | (simp; done) | fail) (fun d hd => ?_); obtain ⟨c, f, rfl, hcf⟩ := hd; rcases hcf with ⟨rfl, rfl, hday, hn1⟩ | rfl | rfl <;> (try simp [clU, zar, zet]))
  | (refine zag ?_; simp [g2, g3, g4])
  | (refine zaj ?_; simp [g2, g3, g4])
  | (refine zah ?_; simp [g2, g3, g4])
  | (refine zai ?_; simp [g2, g3, g4])
  | (refine zau ?_; simp [g2, g3, g4])
  | (refine zas ?_; simp only [zan])
  | (refine zaq ?_; simp only [zan])
  | (refine CallP.fun_ (hs) (by first | rfl | fail) (by first | assumption | (simp; done) | fail) (by first | (simp [g2, g3, g4]; done) | (simp [g2, g3, g4]; rfl) | fail) (by first | (simp; done) | fail) (fun d hd => ?_); subst hd; (try simp [g2, g3, g4]))
  | (refine CallP.fun_ (hfe) (by first | rfl | fail) (by first | assumption | (simp; done) | fail) (by first | (simp [g2, g3, g4]; done) | (simp [g2, g3, g4]; rfl) | fail) (by first | (simp; done) | fail) (fun d hd => ?_); subst hd; (try simp [g2, g3, g4]))
  | (refine CallP.fun_ (hrb) (by first | rfl | fail) (by first | assumption | (simp; done) | fail) (by first | (simp [g2, g3, g4]; done) | (simp [g2, g3, g4]; rfl) | fail) (by first | (simp; done) | fail) (fun d hd => ?_); subst hd; (try simp [g2, g3, g4]))
  | fail)
 ·refine EndW.here ?_
  (refine EndOK.val (.inr rfl) ?_; simp [zaC, zaf, zaw, Tryz.results8])
 rotate_left 1
 ·refine EndW.here ?_
  (refine EndOK.val (.inr rfl) ?_; simp [zaC, zaf, zaw, Tryz.results8])
 ·refine EndW.here ?_
  (refine EndOK.val (.inr rfl) ?_; simp [zaC, zaf, zaw, Tryz.results8])
 obtain ⟨e0, e1⟩ := zjQ hday
 refine zoP _ (Wk.own 16 49 4 (by decide) rfl) ?_
 simp [St.own]
 refine zde (α := { s : Ls // s.Ok e.n e.author one two l.length }) [2, 3, 4, 5, 6, 7, 13, 14] (fun s => [(15, .u (.int .i64 s.1.f)), (16, .vec 3 s.1.vs.length), (17, .u (.int .i64 s.1.day)), (18, .u (.int .i64 s.1.P)), (19, .u (.int .i64 s.1.A)), (20, .u (.int .i64 s.1.i))])
  (fun s => [(0, .box ((zav e).map .u)), (1, .box ((zao b).map .u)), (2, .box ((zar s.1.c).map .u)), (3, .vec 49 4 (voR s.1.vs))]) 4 (fun s => l.length - s.1.i)
  ⟨⟨0, zet e 1 one, [], e.day, 0, 0, 0⟩, ⟨by simp, ⟨rfl, rfl, by simp [zet], by simp [zet], by simp [zet], by simp [zet], rfl, .inl rfl⟩, by simp, e0, e1, .inr ⟨rfl, by simp [zet]⟩, .inr ⟨rfl, rfl⟩⟩⟩ ?_ ?_
 ·exact (Wk.cut rfl (by simp [hn, St.lp]) (by simp [wkO, St.lp, zaa, getK, Ob.under, D.under, zad, zae, zav, zao, zar, zet, voR]) (by simp [wkU, St.lp, zak, zaa, getK, D.under, zav, zao, zar, zet, voR]) (by simp [wkE, St.lp, zak, zaa, getK, zav, zao, zar, zet, voR] <;> (try (intros; simp_all; done)) <;> (try (intros; omega)) <;> (try grind)))
 rintro ⟨⟨i, c, vs, day, f, P, A⟩, ⟨hi, hv, hl, d0, d1, hP, hA⟩⟩
 simp only at hi hv hl d0 d1 hP hA
 simp [St.lp, St.only, zak, zaa, getK]
 simp only [zav, zao, zar, List.map_cons, List.map_nil]
 rcases hx : l[i]? with _ | x
 ·have hge : l.length ≤ i := by simpa using hx
  repeat' (first
  | (refine zag ?_; simp [hx])
  | (refine zaj ?_; simp [hx])
  | (refine ⟨by omega, ?_⟩)
  | (refine zah ?_; simp [hx])
  | (refine zai ?_; simp [hx])
  | (refine zas ?_; simp only [zan])
  | (refine zaZ ?_; simp [zan])
  | (intro hc <;> (try (exfalso; omega)))
  | fail)
  refine EndW.here ?_
  (refine EndOK.val (.inr rfl) ?_; simp [zaC, zaf, zaw, Tryz.results8])
 have hlt : i < l.length := (List.getElem?_eq_some_iff.1 hx).1
 have hi30 : i < 30 := by omega
 have hnx := hv.next
 have hcn := hv.hn
 have hcw := hv.hw
 have hs0 : ¬ c.state < 0 := by have := hv.s0; omega
 have hs1 : ¬ 5 ≤ c.state := by have := hv.s1; omega
 have hA1 : (1 < A) = False := eq_false (by omega)
 have hjl : c.jury.length ≤ 12 := by rw [hv.hj]; omega
 have hal : c.again.length ≤ 12 := by
  rcases hv.ha with h | ⟨h, _⟩
  ·rw [h]; simp
  ·rw [h]; omega
 by_cases a0 : x.act = 0
 ·have hct := zhL c hv.p0 (by omega) (by omega)
  obtain ⟨hI, hf0, hst, hag⟩ := zlV hv (by omega)
  generalize (zdJ c).1 = c' at *
  generalize (zdJ c).2 = f' at *
  have hcn := hI.hn
  have hcw := hI.hw
  have hs0 : ¬ c'.state < 0 := by have := hI.s0; omega
  have hs1 : ¬ 5 ≤ c'.state := by have := hI.s1; omega
  unfold clU zar at hct
  by_cases s0 : c.state = 0
  ·have hf : f' = 0 := hf0.2 s0
   have hPv : P = 0 := by omega
   have h4 : ¬ c'.state = 4 := by omega
   repeat' (first
  | (refine zag ?_; simp [hx, a0, s0, hf, hcn, hcw, hs0, hs1, hA1, h4, hPv])
  | (refine zaj ?_; simp [hx, a0, s0, hf, hcn, hcw, hs0, hs1, hA1, h4, hPv])
  | (refine ⟨by omega, ?_⟩)
  | (refine zah ?_; simp [hx, a0, s0, hf, hcn, hcw, hs0, hs1, hA1, h4, hPv])
  | (refine zai ?_; simp [hx, a0, s0, hf, hcn, hcw, hs0, hs1, hA1, h4, hPv])
  | (refine zau ?_; simp [hx, a0, s0, hf, hcn, hcw, hs0, hs1, hA1, h4, hPv])
  | (refine zap ?_; simp [hx, a0, s0, hf, hcn, hcw, hs0, hs1, hA1, h4, hPv])
  | (refine zaq ?_; simp only [zan])
  | (refine ⟨?_, by omega⟩)
  | (intro hc <;> (try (exfalso; omega)))
  | (refine CallP.fun_ (hct) (by first | rfl | fail) (by first | assumption | (simp; done) | fail) (by first | (simp [hx, a0, s0, hf, hcn, hcw, hs0, hs1, hA1, h4, hPv]; done) | (simp [hx, a0, s0, hf, hcn, hcw, hs0, hs1, hA1, h4, hPv]; rfl) | fail) (by first | (simp; done) | fail) (fun d hd => ?_); subst hd; (try simp [hx, a0, s0, hf, hcn, hcw, hs0, hs1, hA1, h4, hPv]))
  | fail)
   refine LoopW.next ⟨⟨i + 1, c', vs, day, 0, P, A⟩, ⟨by simp only; omega, hI, by simp only; omega, d0, d1, by simp only; omega, by simp only; rw [hag]; exact hA⟩⟩ (by simp; omega) ?_
   exact (Wk.cut rfl (by simp [hn, St.lp]) (by simp [wkO, St.lp, zaa, getK, Ob.under, D.under, zad, zae, zav, zao, zar, zat, zam, hcn, hcw, h4, s0]) (by simp [wkU, St.lp, zak, zaa, getK, D.under, zav, zao, zar, zat, zam, hcn, hcw, h4, s0]) (by simp [wkE, St.lp, zak, zaa, getK, zav, zao, zar, zat, zam, hcn, hcw, h4, s0] <;> (try (intros; simp_all; done)) <;> (try (intros; omega)) <;> (try grind)))
  ·have hf : ¬ f' = 0 := fun h => s0 (hf0.1 h)
   by_cases h4 : c'.state = 4
   ·have hPv : P = 1 := by omega
    repeat' (first
  | (refine zag ?_; simp [hx, a0, s0, hf, hcn, hcw, hs0, hs1, hA1, h4, hPv])
  | (refine zaj ?_; simp [hx, a0, s0, hf, hcn, hcw, hs0, hs1, hA1, h4, hPv])
  | (refine ⟨by omega, ?_⟩)
  | (refine zah ?_; simp [hx, a0, s0, hf, hcn, hcw, hs0, hs1, hA1, h4, hPv])
  | (refine zai ?_; simp [hx, a0, s0, hf, hcn, hcw, hs0, hs1, hA1, h4, hPv])
  | (refine zau ?_; simp [hx, a0, s0, hf, hcn, hcw, hs0, hs1, hA1, h4, hPv])
  | (refine zap ?_; simp [hx, a0, s0, hf, hcn, hcw, hs0, hs1, hA1, h4, hPv])
  | (refine zaq ?_; simp only [zan])
  | (refine ⟨?_, by omega⟩)
  | (intro hc <;> (try (exfalso; omega)))
  | (refine CallP.fun_ (hct) (by first | rfl | fail) (by first | assumption | (simp; done) | fail) (by first | (simp [hx, a0, s0, hf, hcn, hcw, hs0, hs1, hA1, h4, hPv]; done) | (simp [hx, a0, s0, hf, hcn, hcw, hs0, hs1, hA1, h4, hPv]; rfl) | fail) (by first | (simp; done) | fail) (fun d hd => ?_); subst hd; (try simp [hx, a0, s0, hf, hcn, hcw, hs0, hs1, hA1, h4, hPv]))
  | fail)
    refine LoopW.next ⟨⟨i + 1, c', vs, day, f', P, A⟩, ⟨by simp only; omega, hI, by simp only; omega, d0, d1, by simp only; omega, by simp only; rw [hag]; exact hA⟩⟩ (by simp; omega) ?_
    exact (Wk.cut rfl (by simp [hn, St.lp]) (by simp [wkO, St.lp, zaa, getK, Ob.under, D.under, zad, zae, zav, zao, zar, zat, zam, hcn, hcw, h4]) (by simp [wkU, St.lp, zak, zaa, getK, D.under, zav, zao, zar, zat, zam, hcn, hcw, h4]) (by simp [wkE, St.lp, zak, zaa, getK, zav, zao, zar, zat, zam, hcn, hcw, h4] <;> (try (intros; simp_all; done)) <;> (try (intros; omega)) <;> (try grind)))
   ·have hPv : P = 0 := by omega
    repeat' (first
  | (refine zag ?_; simp [hx, a0, s0, hf, hcn, hcw, hs0, hs1, hA1, h4, hPv])
  | (refine zaj ?_; simp [hx, a0, s0, hf, hcn, hcw, hs0, hs1, hA1, h4, hPv])
  | (refine ⟨by omega, ?_⟩)
  | (refine zah ?_; simp [hx, a0, s0, hf, hcn, hcw, hs0, hs1, hA1, h4, hPv])
  | (refine zai ?_; simp [hx, a0, s0, hf, hcn, hcw, hs0, hs1, hA1, h4, hPv])
  | (refine zau ?_; simp [hx, a0, s0, hf, hcn, hcw, hs0, hs1, hA1, h4, hPv])
  | (refine zap ?_; simp [hx, a0, s0, hf, hcn, hcw, hs0, hs1, hA1, h4, hPv])
  | (refine zaq ?_; simp only [zan])
  | (refine ⟨?_, by omega⟩)
  | (intro hc <;> (try (exfalso; omega)))
  | (refine CallP.fun_ (hct) (by first | rfl | fail) (by first | assumption | (simp; done) | fail) (by first | (simp [hx, a0, s0, hf, hcn, hcw, hs0, hs1, hA1, h4, hPv]; done) | (simp [hx, a0, s0, hf, hcn, hcw, hs0, hs1, hA1, h4, hPv]; rfl) | fail) (by first | (simp; done) | fail) (fun d hd => ?_); subst hd; (try simp [hx, a0, s0, hf, hcn, hcw, hs0, hs1, hA1, h4, hPv]))
  | fail)
    refine LoopW.next ⟨⟨i + 1, c', vs, day, f', P, A⟩, ⟨by simp only; omega, hI, by simp only; omega, d0, d1, by simp only; omega, by simp only; rw [hag]; exact hA⟩⟩ (by simp; omega) ?_
    exact (Wk.cut rfl (by simp [hn, St.lp]) (by simp [wkO, St.lp, zaa, getK, Ob.under, D.under, zad, zae, zav, zao, zar, zat, zam, hcn, hcw, h4]) (by simp [wkU, St.lp, zak, zaa, getK, D.under, zav, zao, zar, zat, zam, hcn, hcw, h4]) (by simp [wkE, St.lp, zak, zaa, getK, zav, zao, zar, zat, zam, hcn, hcw, h4] <;> (try (intros; simp_all; done)) <;> (try (intros; omega)) <;> (try grind)))
 by_cases a1 : x.act = 1
 ·have hsn := zfk vs ⟨i, x.who, x.yes, day⟩
  have hlr := zfl vs
  have hvl := zbD vs
  simp only at hsn
  by_cases h4 : c.state = 4
  ·have hPv : P = 1 := by omega
   repeat' (first
  | (refine zag ?_; simp [hx, a0, a1, hlr, hvl, hsn, hcn, hcw, hs0, hs1, hA1, h4, hPv])
  | (refine zaN rfl ?_; simp [hx, a0, a1, hlr, hvl, hsn, hcn, hcw, hs0, hs1, hA1, h4, hPv])
  | (refine zbu rfl ?_; simp [hx, a0, a1, hlr, hvl, hsn, hcn, hcw, hs0, hs1, hA1, h4, hPv])
  | (refine zaj ?_; simp [hx, a0, a1, hlr, hvl, hsn, hcn, hcw, hs0, hs1, hA1, h4, hPv])
  | (refine ⟨by omega, ?_⟩)
  | (refine zah ?_; simp [hx, a0, a1, hlr, hvl, hsn, hcn, hcw, hs0, hs1, hA1, h4, hPv])
  | (refine zai ?_; simp [hx, a0, a1, hlr, hvl, hsn, hcn, hcw, hs0, hs1, hA1, h4, hPv])
  | (refine zaS (hC _ (by kernel_rfl)) (hk _ ?_); clear hC hk C k; simp only [zan])
  | (refine zaM rfl (by kernel_rfl) (by first | (simp [hn]; done) | (simp [hn]; omega) | fail) fun C k hC hk => ?_; simp [hx, a0, a1, hlr, hvl, hsn, hcn, hcw, hs0, hs1, hA1, h4, hPv])
  | (refine zau ?_; simp [hx, a0, a1, hlr, hvl, hsn, hcn, hcw, hs0, hs1, hA1, h4, hPv])
  | (refine zap ?_; simp [hx, a0, a1, hlr, hvl, hsn, hcn, hcw, hs0, hs1, hA1, h4, hPv])
  | (refine zaq ?_; simp only [zan])
  | (refine ⟨?_, by omega⟩)
  | (intro hc <;> (try (exfalso; omega)))
  | fail)
   refine LoopW.next ⟨⟨i + 1, c, vs ++ [⟨i, x.who, x.yes, day⟩], day, f, P, A⟩, ⟨by simp only; omega, hnx, by simp; omega, d0, d1, hP, hA⟩⟩ (by simp; omega) ?_
   exact (Wk.ren ((fun i => if i = 3 then 6 else i)) rfl (by first | (simp [hn]; done) | (intro i hi; rw [hn] at hi; constructor <;> (try simp) <;> (try (intro _)) <;> omega)) (by simp [zmx, St.lp, zak, zaa, getK, zac, zax, D.under, D.le, D.ren, zav, zao, zar, zat, zam, hcn, hcw, h4] <;> (try (intros; simp_all; done)) <;> (try omega)) (by simp [wkR, St.lp, zaa, getK, zac, zax, obR, leU, zcj, zbf, Ob.under, D.under, D.le, D.ren, zav, zao, zar, zat, zam, hcn, hcw, h4] <;> (try (intros; simp_all; done)) <;> (try omega)) (by simp [zav, zao, zar, zat, zam, hcn, hcw, h4]))
  ·have hPv : P = 0 := by omega
   repeat' (first
  | (refine zag ?_; simp [hx, a0, a1, hlr, hvl, hsn, hcn, hcw, hs0, hs1, hA1, h4, hPv])
  | (refine zaN rfl ?_; simp [hx, a0, a1, hlr, hvl, hsn, hcn, hcw, hs0, hs1, hA1, h4, hPv])
  | (refine zbu rfl ?_; simp [hx, a0, a1, hlr, hvl, hsn, hcn, hcw, hs0, hs1, hA1, h4, hPv])
  | (refine zaj ?_; simp [hx, a0, a1, hlr, hvl, hsn, hcn, hcw, hs0, hs1, hA1, h4, hPv])
  | (refine ⟨by omega, ?_⟩)
  | (refine zah ?_; simp [hx, a0, a1, hlr, hvl, hsn, hcn, hcw, hs0, hs1, hA1, h4, hPv])
  | (refine zai ?_; simp [hx, a0, a1, hlr, hvl, hsn, hcn, hcw, hs0, hs1, hA1, h4, hPv])
  | (refine zaS (hC _ (by kernel_rfl)) (hk _ ?_); clear hC hk C k; simp only [zan])
  | (refine zaM rfl (by kernel_rfl) (by first | (simp [hn]; done) | (simp [hn]; omega) | fail) fun C k hC hk => ?_; simp [hx, a0, a1, hlr, hvl, hsn, hcn, hcw, hs0, hs1, hA1, h4, hPv])
  | (refine zau ?_; simp [hx, a0, a1, hlr, hvl, hsn, hcn, hcw, hs0, hs1, hA1, h4, hPv])
  | (refine zap ?_; simp [hx, a0, a1, hlr, hvl, hsn, hcn, hcw, hs0, hs1, hA1, h4, hPv])
  | (refine zaq ?_; simp only [zan])
  | (refine ⟨?_, by omega⟩)
  | (intro hc <;> (try (exfalso; omega)))
  | fail)
   refine LoopW.next ⟨⟨i + 1, c, vs ++ [⟨i, x.who, x.yes, day⟩], day, f, P, A⟩, ⟨by simp only; omega, hnx, by simp; omega, d0, d1, hP, hA⟩⟩ (by simp; omega) ?_
   exact (Wk.ren ((fun i => if i = 3 then 6 else i)) rfl (by first | (simp [hn]; done) | (intro i hi; rw [hn] at hi; constructor <;> (try simp) <;> (try (intro _)) <;> omega)) (by simp [zmx, St.lp, zak, zaa, getK, zac, zax, D.under, D.le, D.ren, zav, zao, zar, zat, zam, hcn, hcw, h4] <;> (try (intros; simp_all; done)) <;> (try omega)) (by simp [wkR, St.lp, zaa, getK, zac, zax, obR, leU, zcj, zbf, Ob.under, D.under, D.le, D.ren, zav, zao, zar, zat, zam, hcn, hcw, h4] <;> (try (intros; simp_all; done)) <;> (try omega)) (by simp [zav, zao, zar, zat, zam, hcn, hcw, h4]))
 by_cases a3 : x.act = 3
 ·have hct := ze6 c b two day (by omega) (by omega) (by omega)
  obtain ⟨hI, hr⟩ := zkw b day hv
  generalize (zcb c b two day).1 = c' at *
  generalize (zcb c b two day).2 = f' at *
  have hcn := hI.hn
  have hcw := hI.hw
  have hs0 : ¬ c'.state < 0 := by have := hI.s0; omega
  have hs1 : ¬ 5 ≤ c'.state := by have := hI.s1; omega
  unfold clU zar zao zbV at hct
  rcases hr with ⟨hf, s3, hag, hst, hag2⟩ | ⟨hf, hcc⟩
  ·have hPv : P = 0 := by omega
   have hAv : A = 0 := by rcases hA with h | h; exact absurd hag h.2; exact h.1
   have h4 : ¬ c'.state = 4 := by omega
   repeat' (first
  | (refine zag ?_; simp [hx, a0, a1, a3, s3, hf, hcn, hcw, hs0, hs1, h4, hPv, hAv])
  | (refine zaj ?_; simp [hx, a0, a1, a3, s3, hf, hcn, hcw, hs0, hs1, h4, hPv, hAv])
  | (refine ⟨by omega, ?_⟩)
  | (refine zah ?_; simp [hx, a0, a1, a3, s3, hf, hcn, hcw, hs0, hs1, h4, hPv, hAv])
  | (refine zai ?_; simp [hx, a0, a1, a3, s3, hf, hcn, hcw, hs0, hs1, h4, hPv, hAv])
  | (refine zau ?_; simp [hx, a0, a1, a3, s3, hf, hcn, hcw, hs0, hs1, h4, hPv, hAv])
  | (refine zap ?_; simp [hx, a0, a1, a3, s3, hf, hcn, hcw, hs0, hs1, h4, hPv, hAv])
  | (refine zaq ?_; simp only [zan])
  | (refine ⟨?_, by omega⟩)
  | (intro hc <;> (try (exfalso; omega)))
  | (refine CallP.fun_ (hct) (by first | rfl | fail) (by first | assumption | (simp; done) | fail) (by first | (simp [hx, a0, a1, a3, s3, hf, hcn, hcw, hs0, hs1, h4, hPv, hAv]; done) | (simp [hx, a0, a1, a3, s3, hf, hcn, hcw, hs0, hs1, h4, hPv, hAv]; rfl) | fail) (by first | (simp; done) | fail) (fun d hd => ?_); subst hd; (try simp [hx, a0, a1, a3, s3, hf, hcn, hcw, hs0, hs1, h4, hPv, hAv]))
  | fail)
   refine LoopW.next ⟨⟨i + 1, c', vs, day, 0, 0, 1⟩, ⟨by simp only; omega, hI, by simp only; omega, d0, d1, .inr ⟨rfl, h4⟩, .inl ⟨rfl, hag2⟩⟩⟩ (by simp; omega) ?_
   exact (Wk.cut rfl (by simp [hn, St.lp]) (by simp [wkO, St.lp, zaa, getK, Ob.under, D.under, zad, zae, zav, zao, zar, zat, zam, hcn, hcw, h4, s3]) (by simp [wkU, St.lp, zak, zaa, getK, D.under, zav, zao, zar, zat, zam, hcn, hcw, h4, s3]) (by simp [wkE, St.lp, zak, zaa, getK, zav, zao, zar, zat, zam, hcn, hcw, h4, s3] <;> (try (intros; simp_all; done)) <;> (try (intros; omega)) <;> (try grind)))
  ·rw [hcc] at hct hcn hcw hs0 hs1 hI
   clear hcc
   by_cases h4 : c.state = 4
   ·have hPv : P = 1 := by omega
    repeat' (first
  | (refine zag ?_; simp [hx, a0, a1, a3, hf, hcn, hcw, hs0, hs1, hA1, h4, hPv])
  | (refine zaj ?_; simp [hx, a0, a1, a3, hf, hcn, hcw, hs0, hs1, hA1, h4, hPv])
  | (refine ⟨by omega, ?_⟩)
  | (refine zah ?_; simp [hx, a0, a1, a3, hf, hcn, hcw, hs0, hs1, hA1, h4, hPv])
  | (refine zai ?_; simp [hx, a0, a1, a3, hf, hcn, hcw, hs0, hs1, hA1, h4, hPv])
  | (refine zau ?_; simp [hx, a0, a1, a3, hf, hcn, hcw, hs0, hs1, hA1, h4, hPv])
  | (refine zap ?_; simp [hx, a0, a1, a3, hf, hcn, hcw, hs0, hs1, hA1, h4, hPv])
  | (refine zaq ?_; simp only [zan])
  | (refine ⟨?_, by omega⟩)
  | (intro hc <;> (try (exfalso; omega)))
  | (refine CallP.fun_ (hct) (by first | rfl | fail) (by first | assumption | (simp; done) | fail) (by first | (simp [hx, a0, a1, a3, hf, hcn, hcw, hs0, hs1, hA1, h4, hPv]; done) | (simp [hx, a0, a1, a3, hf, hcn, hcw, hs0, hs1, hA1, h4, hPv]; rfl) | fail) (by first | (simp; done) | fail) (fun d hd => ?_); subst hd; (try simp [hx, a0, a1, a3, hf, hcn, hcw, hs0, hs1, hA1, h4, hPv]))
  | fail)
    refine LoopW.next ⟨⟨i + 1, c, vs, day, f', P, A⟩, ⟨by simp only; omega, hnx, by simp only; omega, d0, d1, hP, hA⟩⟩ (by simp; omega) ?_
    exact (Wk.cut rfl (by simp [hn, St.lp]) (by simp [wkO, St.lp, zaa, getK, Ob.under, D.under, zad, zae, zav, zao, zar, zat, zam, hcn, hcw, h4]) (by simp [wkU, St.lp, zak, zaa, getK, D.under, zav, zao, zar, zat, zam, hcn, hcw, h4]) (by simp [wkE, St.lp, zak, zaa, getK, zav, zao, zar, zat, zam, hcn, hcw, h4] <;> (try (intros; simp_all; done)) <;> (try (intros; omega)) <;> (try grind)))
   ·have hPv : P = 0 := by omega
    repeat' (first
  | (refine zag ?_; simp [hx, a0, a1, a3, hf, hcn, hcw, hs0, hs1, hA1, h4, hPv])
  | (refine zaj ?_; simp [hx, a0, a1, a3, hf, hcn, hcw, hs0, hs1, hA1, h4, hPv])
  | (refine ⟨by omega, ?_⟩)
  | (refine zah ?_; simp [hx, a0, a1, a3, hf, hcn, hcw, hs0, hs1, hA1, h4, hPv])
  | (refine zai ?_; simp [hx, a0, a1, a3, hf, hcn, hcw, hs0, hs1, hA1, h4, hPv])
  | (refine zau ?_; simp [hx, a0, a1, a3, hf, hcn, hcw, hs0, hs1, hA1, h4, hPv])
  | (refine zap ?_; simp [hx, a0, a1, a3, hf, hcn, hcw, hs0, hs1, hA1, h4, hPv])
  | (refine zaq ?_; simp only [zan])
  | (refine ⟨?_, by omega⟩)
  | (intro hc <;> (try (exfalso; omega)))
  | (refine CallP.fun_ (hct) (by first | rfl | fail) (by first | assumption | (simp; done) | fail) (by first | (simp [hx, a0, a1, a3, hf, hcn, hcw, hs0, hs1, hA1, h4, hPv]; done) | (simp [hx, a0, a1, a3, hf, hcn, hcw, hs0, hs1, hA1, h4, hPv]; rfl) | fail) (by first | (simp; done) | fail) (fun d hd => ?_); subst hd; (try simp [hx, a0, a1, a3, hf, hcn, hcw, hs0, hs1, hA1, h4, hPv]))
  | fail)
    refine LoopW.next ⟨⟨i + 1, c, vs, day, f', P, A⟩, ⟨by simp only; omega, hnx, by simp only; omega, d0, d1, hP, hA⟩⟩ (by simp; omega) ?_
    exact (Wk.cut rfl (by simp [hn, St.lp]) (by simp [wkO, St.lp, zaa, getK, Ob.under, D.under, zad, zae, zav, zao, zar, zat, zam, hcn, hcw, h4]) (by simp [wkU, St.lp, zak, zaa, getK, D.under, zav, zao, zar, zat, zam, hcn, hcw, h4]) (by simp [wkE, St.lp, zak, zaa, getK, zav, zao, zar, zat, zam, hcn, hcw, h4] <;> (try (intros; simp_all; done)) <;> (try (intros; omega)) <;> (try grind)))
 by_cases a4 : x.act = 4
 ·have hct := zi0 c x.n (by omega) (by omega)
  obtain ⟨hI, hag, hr⟩ := zod x.n hv
  generalize (zjx c x.n).1 = c' at *
  generalize (zjx c x.n).2 = f' at *
  have hcn := hI.hn
  have hcw := hI.hw
  have hs0 : ¬ c'.state < 0 := by have := hI.s0; omega
  have hs1 : ¬ 5 ≤ c'.state := by have := hI.s1; omega
  unfold clU zar at hct
  rcases hr with ⟨hf, s2, hgr, h4⟩ | ⟨hf, hgr, hcc⟩
  ·have hPv : P = 0 := by omega
   repeat' (first
  | (refine zag ?_; simp [hx, a0, a1, a3, a4, s2, hgr, hf, hcn, hcw, hs0, hs1, hA1, h4, hPv])
  | (refine zaN rfl ?_; simp [hx, a0, a1, a3, a4, s2, hgr, hf, hcn, hcw, hs0, hs1, hA1, h4, hPv])
  | (refine zbu rfl ?_; simp [hx, a0, a1, a3, a4, s2, hgr, hf, hcn, hcw, hs0, hs1, hA1, h4, hPv])
  | (refine zb0 rfl ?_; simp [hx, a0, a1, a3, a4, s2, hgr, hf, hcn, hcw, hs0, hs1, hA1, h4, hPv])
  | (refine zaj ?_; simp [hx, a0, a1, a3, a4, s2, hgr, hf, hcn, hcw, hs0, hs1, hA1, h4, hPv])
  | (refine ⟨by omega, ?_⟩)
  | (refine zah ?_; simp [hx, a0, a1, a3, a4, s2, hgr, hf, hcn, hcw, hs0, hs1, hA1, h4, hPv])
  | (refine zai ?_; simp [hx, a0, a1, a3, a4, s2, hgr, hf, hcn, hcw, hs0, hs1, hA1, h4, hPv])
  | (refine zaS (hC _ (by kernel_rfl)) (hk _ ?_); clear hC hk C k; simp only [zan])
  | (refine zaM rfl (by kernel_rfl) (by first | (simp [hn]; done) | (simp [hn]; omega) | fail) fun C k hC hk => ?_; simp [hx, a0, a1, a3, a4, s2, hgr, hf, hcn, hcw, hs0, hs1, hA1, h4, hPv])
  | (refine zbl rfl (by simp [hx, a0, a1, a3, a4, s2, hgr, hf, hcn, hcw, hs0, hs1, hA1, h4, hPv]) (fun hc => ?_) (fun hc => ?_) <;> (try simp [hx, a0, a1, a3, a4, s2, hgr, hf, hcn, hcw, hs0, hs1, hA1, h4, hPv] at hc) <;> (try (exfalso; omega)) <;> (try simp [hx, a0, a1, a3, a4, s2, hgr, hf, hcn, hcw, hs0, hs1, hA1, h4, hPv]))
  | (refine zau ?_; simp [hx, a0, a1, a3, a4, s2, hgr, hf, hcn, hcw, hs0, hs1, hA1, h4, hPv])
  | (refine zap ?_; simp [hx, a0, a1, a3, a4, s2, hgr, hf, hcn, hcw, hs0, hs1, hA1, h4, hPv])
  | (refine zaq ?_; simp only [zan])
  | (refine ⟨?_, by omega⟩)
  | (intro hc <;> (try (exfalso; omega)))
  | (refine CallV.fun_ (hct) (by first | rfl | fail) (by first | assumption | (simp; done) | fail) (by first | (simp [hx, a0, a1, a3, a4, s2, hgr, hf, hcn, hcw, hs0, hs1, hA1, h4, hPv]; done) | (simp [hx, a0, a1, a3, a4, s2, hgr, hf, hcn, hcw, hs0, hs1, hA1, h4, hPv]; rfl) | fail) (by first | (simp; done) | fail) ?_ <;> (try simp [hx, a0, a1, a3, a4, s2, hgr, hf, hcn, hcw, hs0, hs1, hA1, h4, hPv]))
  | fail)
   refine LoopW.next ⟨⟨i + 1, c', vs, day, 0, 1, A⟩, ⟨by simp only; omega, hI, by simp only; omega, d0, d1, .inl ⟨rfl, h4⟩, by simp only; rw [hag]; exact hA⟩⟩ (by simp; omega) ?_
   exact (Wk.cut rfl (by simp [hn, St.lp]) (by simp [wkO, St.lp, zaa, getK, Ob.under, D.under, zad, zae, zav, zao, zar, zat, zam, hcn, hcw, h4, s2, hgr]) (by simp [wkU, St.lp, zak, zaa, getK, D.under, zav, zao, zar, zat, zam, hcn, hcw, h4, s2, hgr]) (by simp [wkE, St.lp, zak, zaa, getK, zav, zao, zar, zat, zam, hcn, hcw, h4, s2, hgr] <;> (try (intros; simp_all; done)) <;> (try (intros; omega)) <;> (try grind)))
  ·rw [hcc] at hct hcn hcw hs0 hs1 hI
   clear hcc
   by_cases s2 : c.state = 2
   ·have hgr : ¬ x.n = c.grant := fun h => hgr ⟨s2, h⟩
    have h4 : ¬ c.state = 4 := by omega
    have hPv : P = 0 := by omega
    repeat' (first
  | (refine zag ?_; simp [hx, a0, a1, a3, a4, s2, hgr, hf, hcn, hcw, hA1, hPv])
  | (refine zaN rfl ?_; simp [hx, a0, a1, a3, a4, s2, hgr, hf, hcn, hcw, hA1, hPv])
  | (refine zbu rfl ?_; simp [hx, a0, a1, a3, a4, s2, hgr, hf, hcn, hcw, hA1, hPv])
  | (refine zb0 rfl ?_; simp [hx, a0, a1, a3, a4, s2, hgr, hf, hcn, hcw, hA1, hPv])
  | (refine zaj ?_; simp [hx, a0, a1, a3, a4, s2, hgr, hf, hcn, hcw, hA1, hPv])
  | (refine ⟨by omega, ?_⟩)
  | (refine zah ?_; simp [hx, a0, a1, a3, a4, s2, hgr, hf, hcn, hcw, hA1, hPv])
  | (refine zai ?_; simp [hx, a0, a1, a3, a4, s2, hgr, hf, hcn, hcw, hA1, hPv])
  | (refine zaS (hC _ (by kernel_rfl)) (hk _ ?_); clear hC hk C k; simp only [zan])
  | (refine zaM rfl (by kernel_rfl) (by first | (simp [hn]; done) | (simp [hn]; omega) | fail) fun C k hC hk => ?_; simp [hx, a0, a1, a3, a4, s2, hgr, hf, hcn, hcw, hA1, hPv])
  | (refine zbl rfl (by simp [hx, a0, a1, a3, a4, s2, hgr, hf, hcn, hcw, hA1, hPv]) (fun hc => ?_) (fun hc => ?_) <;> (try simp [hx, a0, a1, a3, a4, s2, hgr, hf, hcn, hcw, hA1, hPv] at hc) <;> (try (exfalso; omega)) <;> (try simp [hx, a0, a1, a3, a4, s2, hgr, hf, hcn, hcw, hA1, hPv]))
  | (refine zau ?_; simp [hx, a0, a1, a3, a4, s2, hgr, hf, hcn, hcw, hA1, hPv])
  | (refine zap ?_; simp [hx, a0, a1, a3, a4, s2, hgr, hf, hcn, hcw, hA1, hPv])
  | (refine zaq ?_; simp only [zan])
  | (refine ⟨?_, by omega⟩)
  | (intro hc <;> (try (exfalso; omega)))
  | (refine CallV.fun_ (hct) (by first | rfl | fail) (by first | assumption | (simp; done) | fail) (by first | (simp [hx, a0, a1, a3, a4, s2, hgr, hf, hcn, hcw, hA1, hPv]; done) | (simp [hx, a0, a1, a3, a4, s2, hgr, hf, hcn, hcw, hA1, hPv]; rfl) | fail) (by first | (simp; done) | fail) ?_ <;> (try simp [hx, a0, a1, a3, a4, s2, hgr, hf, hcn, hcw, hA1, hPv]))
  | fail)
    refine LoopW.next ⟨⟨i + 1, c, vs, day, f', 0, A⟩, ⟨by simp only; omega, hnx, by simp only; omega, d0, d1, .inr ⟨rfl, h4⟩, hA⟩⟩ (by simp; omega) ?_
    exact (Wk.cut rfl (by simp [hn, St.lp]) (by simp [wkO, St.lp, zaa, getK, Ob.under, D.under, zad, zae, zav, zao, zar, zat, zam, hcn, hcw, s2]) (by simp [wkU, St.lp, zak, zaa, getK, D.under, zav, zao, zar, zat, zam, hcn, hcw, s2]) (by simp [wkE, St.lp, zak, zaa, getK, zav, zao, zar, zat, zam, hcn, hcw, s2] <;> (try (intros; simp_all; done)) <;> (try (intros; omega)) <;> (try grind)))
   ·skip
    by_cases h4 : c.state = 4
    ·have hPv : P = 1 := by omega
     repeat' (first
  | (refine zag ?_; simp [hx, a0, a1, a3, a4, s2, hf, hcn, hcw, hs0, hs1, hA1, h4, hPv])
  | (refine zaN rfl ?_; simp [hx, a0, a1, a3, a4, s2, hf, hcn, hcw, hs0, hs1, hA1, h4, hPv])
  | (refine zbu rfl ?_; simp [hx, a0, a1, a3, a4, s2, hf, hcn, hcw, hs0, hs1, hA1, h4, hPv])
  | (refine zaj ?_; simp [hx, a0, a1, a3, a4, s2, hf, hcn, hcw, hs0, hs1, hA1, h4, hPv])
  | (refine ⟨by omega, ?_⟩)
  | (refine zah ?_; simp [hx, a0, a1, a3, a4, s2, hf, hcn, hcw, hs0, hs1, hA1, h4, hPv])
  | (refine zai ?_; simp [hx, a0, a1, a3, a4, s2, hf, hcn, hcw, hs0, hs1, hA1, h4, hPv])
  | (refine zaS (hC _ (by kernel_rfl)) (hk _ ?_); clear hC hk C k; simp only [zan])
  | (refine zaM rfl (by kernel_rfl) (by first | (simp [hn]; done) | (simp [hn]; omega) | fail) fun C k hC hk => ?_; simp [hx, a0, a1, a3, a4, s2, hf, hcn, hcw, hs0, hs1, hA1, h4, hPv])
  | (refine zbl rfl (by simp [hx, a0, a1, a3, a4, s2, hf, hcn, hcw, hs0, hs1, hA1, h4, hPv]) (fun hc => ?_) (fun hc => ?_) <;> (try simp [hx, a0, a1, a3, a4, s2, hf, hcn, hcw, hs0, hs1, hA1, h4, hPv] at hc) <;> (try (exfalso; omega)) <;> (try simp [hx, a0, a1, a3, a4, s2, hf, hcn, hcw, hs0, hs1, hA1, h4, hPv]))
  | (refine zau ?_; simp [hx, a0, a1, a3, a4, s2, hf, hcn, hcw, hs0, hs1, hA1, h4, hPv])
  | (refine zap ?_; simp [hx, a0, a1, a3, a4, s2, hf, hcn, hcw, hs0, hs1, hA1, h4, hPv])
  | (refine zaq ?_; simp only [zan])
  | (refine ⟨?_, by omega⟩)
  | (intro hc <;> (try (exfalso; omega)))
  | (refine CallV.fun_ (hct) (by first | rfl | fail) (by first | assumption | (simp; done) | fail) (by first | (simp [hx, a0, a1, a3, a4, s2, hf, hcn, hcw, hs0, hs1, hA1, h4, hPv]; done) | (simp [hx, a0, a1, a3, a4, s2, hf, hcn, hcw, hs0, hs1, hA1, h4, hPv]; rfl) | fail) (by first | (simp; done) | fail) ?_ <;> (try simp [hx, a0, a1, a3, a4, s2, hf, hcn, hcw, hs0, hs1, hA1, h4, hPv]))
  | fail)
     refine LoopW.next ⟨⟨i + 1, c, vs, day, f', P, A⟩, ⟨by simp only; omega, hnx, by simp only; omega, d0, d1, hP, hA⟩⟩ (by simp; omega) ?_
     exact (Wk.cut rfl (by simp [hn, St.lp]) (by simp [wkO, St.lp, zaa, getK, Ob.under, D.under, zad, zae, zav, zao, zar, zat, zam, hcn, hcw, h4]) (by simp [wkU, St.lp, zak, zaa, getK, D.under, zav, zao, zar, zat, zam, hcn, hcw, h4]) (by simp [wkE, St.lp, zak, zaa, getK, zav, zao, zar, zat, zam, hcn, hcw, h4] <;> (try (intros; simp_all; done)) <;> (try (intros; omega)) <;> (try grind)))
    ·have hPv : P = 0 := by omega
     repeat' (first
  | (refine zag ?_; simp [hx, a0, a1, a3, a4, s2, hf, hcn, hcw, hs0, hs1, hA1, h4, hPv])
  | (refine zaN rfl ?_; simp [hx, a0, a1, a3, a4, s2, hf, hcn, hcw, hs0, hs1, hA1, h4, hPv])
  | (refine zbu rfl ?_; simp [hx, a0, a1, a3, a4, s2, hf, hcn, hcw, hs0, hs1, hA1, h4, hPv])
  | (refine zaj ?_; simp [hx, a0, a1, a3, a4, s2, hf, hcn, hcw, hs0, hs1, hA1, h4, hPv])
  | (refine ⟨by omega, ?_⟩)
  | (refine zah ?_; simp [hx, a0, a1, a3, a4, s2, hf, hcn, hcw, hs0, hs1, hA1, h4, hPv])
  | (refine zai ?_; simp [hx, a0, a1, a3, a4, s2, hf, hcn, hcw, hs0, hs1, hA1, h4, hPv])
  | (refine zaS (hC _ (by kernel_rfl)) (hk _ ?_); clear hC hk C k; simp only [zan])
  | (refine zaM rfl (by kernel_rfl) (by first | (simp [hn]; done) | (simp [hn]; omega) | fail) fun C k hC hk => ?_; simp [hx, a0, a1, a3, a4, s2, hf, hcn, hcw, hs0, hs1, hA1, h4, hPv])
  | (refine zbl rfl (by simp [hx, a0, a1, a3, a4, s2, hf, hcn, hcw, hs0, hs1, hA1, h4, hPv]) (fun hc => ?_) (fun hc => ?_) <;> (try simp [hx, a0, a1, a3, a4, s2, hf, hcn, hcw, hs0, hs1, hA1, h4, hPv] at hc) <;> (try (exfalso; omega)) <;> (try simp [hx, a0, a1, a3, a4, s2, hf, hcn, hcw, hs0, hs1, hA1, h4, hPv]))
  | (refine zau ?_; simp [hx, a0, a1, a3, a4, s2, hf, hcn, hcw, hs0, hs1, hA1, h4, hPv])
  | (refine zap ?_; simp [hx, a0, a1, a3, a4, s2, hf, hcn, hcw, hs0, hs1, hA1, h4, hPv])
  | (refine zaq ?_; simp only [zan])
  | (refine ⟨?_, by omega⟩)
  | (intro hc <;> (try (exfalso; omega)))
  | (refine CallV.fun_ (hct) (by first | rfl | fail) (by first | assumption | (simp; done) | fail) (by first | (simp [hx, a0, a1, a3, a4, s2, hf, hcn, hcw, hs0, hs1, hA1, h4, hPv]; done) | (simp [hx, a0, a1, a3, a4, s2, hf, hcn, hcw, hs0, hs1, hA1, h4, hPv]; rfl) | fail) (by first | (simp; done) | fail) ?_ <;> (try simp [hx, a0, a1, a3, a4, s2, hf, hcn, hcw, hs0, hs1, hA1, h4, hPv]))
  | fail)
     refine LoopW.next ⟨⟨i + 1, c, vs, day, f', P, A⟩, ⟨by simp only; omega, hnx, by simp only; omega, d0, d1, hP, hA⟩⟩ (by simp; omega) ?_
     exact (Wk.cut rfl (by simp [hn, St.lp]) (by simp [wkO, St.lp, zaa, getK, Ob.under, D.under, zad, zae, zav, zao, zar, zat, zam, hcn, hcw, h4]) (by simp [wkU, St.lp, zak, zaa, getK, D.under, zav, zao, zar, zat, zam, hcn, hcw, h4]) (by simp [wkE, St.lp, zak, zaa, getK, zav, zao, zar, zat, zam, hcn, hcw, h4] <;> (try (intros; simp_all; done)) <;> (try (intros; omega)) <;> (try grind)))
 by_cases a2 : x.act = 2
 case neg =>
  by_cases h4 : c.state = 4
  ·have hPv : P = 1 := by omega
   repeat' (first
  | (refine zag ?_; simp [hx, a0, a1, a2, a3, a4, hcn, hcw, hs0, hs1, hA1, h4, hPv])
  | (refine zaj ?_; simp [hx, a0, a1, a2, a3, a4, hcn, hcw, hs0, hs1, hA1, h4, hPv])
  | (refine ⟨by omega, ?_⟩)
  | (refine zah ?_; simp [hx, a0, a1, a2, a3, a4, hcn, hcw, hs0, hs1, hA1, h4, hPv])
  | (refine zai ?_; simp [hx, a0, a1, a2, a3, a4, hcn, hcw, hs0, hs1, hA1, h4, hPv])
  | (refine zau ?_; simp [hx, a0, a1, a2, a3, a4, hcn, hcw, hs0, hs1, hA1, h4, hPv])
  | (refine zap ?_; simp [hx, a0, a1, a2, a3, a4, hcn, hcw, hs0, hs1, hA1, h4, hPv])
  | (refine zaq ?_; simp only [zan])
  | (refine ⟨?_, by omega⟩)
  | (intro hc <;> (try (exfalso; omega)))
  | fail)
   refine LoopW.next ⟨⟨i + 1, c, vs, day, f, P, A⟩, ⟨by simp only; omega, hnx, by simp only; omega, d0, d1, hP, hA⟩⟩ (by simp; omega) ?_
   exact (Wk.cut rfl (by simp [hn, St.lp]) (by simp [wkO, St.lp, zaa, getK, Ob.under, D.under, zad, zae, zav, zao, zar, zat, zam, hcn, hcw, h4]) (by simp [wkU, St.lp, zak, zaa, getK, D.under, zav, zao, zar, zat, zam, hcn, hcw, h4]) (by simp [wkE, St.lp, zak, zaa, getK, zav, zao, zar, zat, zam, hcn, hcw, h4] <;> (try (intros; simp_all; done)) <;> (try (intros; omega)) <;> (try grind)))
  ·have hPv : P = 0 := by omega
   repeat' (first
  | (refine zag ?_; simp [hx, a0, a1, a2, a3, a4, hcn, hcw, hs0, hs1, hA1, h4, hPv])
  | (refine zaj ?_; simp [hx, a0, a1, a2, a3, a4, hcn, hcw, hs0, hs1, hA1, h4, hPv])
  | (refine ⟨by omega, ?_⟩)
  | (refine zah ?_; simp [hx, a0, a1, a2, a3, a4, hcn, hcw, hs0, hs1, hA1, h4, hPv])
  | (refine zai ?_; simp [hx, a0, a1, a2, a3, a4, hcn, hcw, hs0, hs1, hA1, h4, hPv])
  | (refine zau ?_; simp [hx, a0, a1, a2, a3, a4, hcn, hcw, hs0, hs1, hA1, h4, hPv])
  | (refine zap ?_; simp [hx, a0, a1, a2, a3, a4, hcn, hcw, hs0, hs1, hA1, h4, hPv])
  | (refine zaq ?_; simp only [zan])
  | (refine ⟨?_, by omega⟩)
  | (intro hc <;> (try (exfalso; omega)))
  | fail)
   refine LoopW.next ⟨⟨i + 1, c, vs, day, f, P, A⟩, ⟨by simp only; omega, hnx, by simp only; omega, d0, d1, hP, hA⟩⟩ (by simp; omega) ?_
   exact (Wk.cut rfl (by simp [hn, St.lp]) (by simp [wkO, St.lp, zaa, getK, Ob.under, D.under, zad, zae, zav, zao, zar, zat, zam, hcn, hcw, h4]) (by simp [wkU, St.lp, zak, zaa, getK, D.under, zav, zao, zar, zat, zam, hcn, hcw, h4]) (by simp [wkE, St.lp, zak, zaa, getK, zav, zao, zar, zat, zam, hcn, hcw, h4] <;> (try (intros; simp_all; done)) <;> (try (intros; omega)) <;> (try grind)))
 obtain ⟨d', hd'⟩ : ∃ d', min (day + min (max x.n 1) 100) 1048576 = d' := ⟨_, rfl⟩
 have dd0 : 0 ≤ d' := by omega
 have dd1 : d' ≤ 1048576 := by omega
 have hct := zmJ c b cover vs d' (by omega) (by omega) (by omega)
 obtain ⟨hI, hag, hq, hq2, hq3, hq4⟩ := znb b cover vs d' hv
 have hkj := (ziO c b cover vs d').1
 generalize zce c b cover vs d' = c' at *
 have hcn := hI.hn
 have hcw := hI.hw
 have hs0 : ¬ c'.state < 0 := by have := hI.s0; omega
 have hs1 : ¬ 5 ≤ c'.state := by have := hI.s1; omega
 have hA2 : (A = 1 ∧ c'.again ≠ []) ∨ (A = 0 ∧ c'.again = []) := by rw [hag]; exact hA
 have hvl := zbD vs
 have hva := zei vs
 unfold clU zar zao at hct
 by_cases s0 : c.state = 0 ∧ (c'.state = 1 ∨ c'.state = 2)
 ·obtain ⟨s0, s12⟩ := s0
  rw [s0] at hct
  obtain ⟨q1, q2, q3, q4, q5, q6⟩ := hq s0 s12
  have hPv : P = 0 := by omega
  have h4 : ¬ c'.state = 4 := by omega
  obtain ⟨dj, hD⟩ : ∃ dj, dj = zbX c := ⟨_, rfl⟩
  rw [← hD] at q1
  have hDl : dj.length ≤ 12 := by rw [hD]; unfold zbX; split <;> omega
  have hmf := zmS dj vs (by omega) (by omega)
  obtain ⟨M, hM⟩ : ∃ M : Int, M = (zea dj vs : Nat) := ⟨_, rfl⟩
  have hM0 : 0 ≤ M ∧ M ≤ 12 := by have := zlB dj vs; omega
  rw [← hM] at q1 hmf
  have r1 : (2 * M ≤ (dj.length : Int)) = False := eq_false (by omega)
  have r2 : (c'.proofs < 1) = False := eq_false (by omega)
  have r3 : (c'.grant < 1) = False := eq_false (by omega)
  have r4 : (e.n < c'.grant) = False := eq_false (by omega)
  have r5 : (cover < c'.grant) = False := eq_false (by omega)
  have r6 : (c'.frm = d' + 1 + b.wait) = True := eq_true q6
  unfold zbV voU at hmf
  unfold zbX at hD
  by_cases ca : c.again = []
  ·rw [if_pos ca, hv.hj] at hD
   have ca' : (0 < c'.again.length) = False := by rw [hag, ca]; simp
   subst hD
   rcases s12 with s12 | s12
   ·repeat' (first
  | (refine zag ?_; simp [hx, a0, a1, a2, a3, a4, hd', s0, s12, hcn, hcw, hA1, hPv, r1, r2, r3, r4, r5, r6, ca', hvl, hva, del])
  | (refine zaj ?_; simp [hx, a0, a1, a2, a3, a4, hd', s0, s12, hcn, hcw, hA1, hPv, r1, r2, r3, r4, r5, r6, ca', hvl, hva, del])
  | (refine ⟨by omega, ?_⟩)
  | (refine zah ?_; simp [hx, a0, a1, a2, a3, a4, hd', s0, s12, hcn, hcw, hA1, hPv, r1, r2, r3, r4, r5, r6, ca', hvl, hva, del])
  | (refine zai ?_; simp [hx, a0, a1, a2, a3, a4, hd', s0, s12, hcn, hcw, hA1, hPv, r1, r2, r3, r4, r5, r6, ca', hvl, hva, del])
  | (refine zau ?_; simp [hx, a0, a1, a2, a3, a4, hd', s0, s12, hcn, hcw, hA1, hPv, r1, r2, r3, r4, r5, r6, ca', hvl, hva, del])
  | (refine zap ?_; simp [hx, a0, a1, a2, a3, a4, hd', s0, s12, hcn, hcw, hA1, hPv, r1, r2, r3, r4, r5, r6, ca', hvl, hva, del])
  | (refine zaq ?_; simp only [zan])
  | (refine ⟨?_, by omega⟩)
  | (intro hc <;> (try (exfalso; omega)))
  | (refine CallP.fun_ (hmf) (by first | rfl | fail) (by first | assumption | (simp; done) | fail) (by first | (simp [hx, a0, a1, a2, a3, a4, hd', s0, s12, hcn, hcw, hA1, hPv, r1, r2, r3, r4, r5, r6, ca', hvl, hva, del]; done) | (simp [hx, a0, a1, a2, a3, a4, hd', s0, s12, hcn, hcw, hA1, hPv, r1, r2, r3, r4, r5, r6, ca', hvl, hva, del]; rfl) | fail) (by first | (simp; done) | fail) (fun d hd => ?_); subst hd; (try simp [hx, a0, a1, a2, a3, a4, hd', s0, s12, hcn, hcw, hA1, hPv, r1, r2, r3, r4, r5, r6, ca', hvl, hva, del]))
  | (refine CallP.zkV (hct) (by simp [getK]) (by rfl) (by first | assumption | simp) (by rfl) (by simp) ?_; rintro d o n' hn' ⟨rfl, rfl, rfl⟩; (try simp at hn'); (try simp [hx, a0, a1, a2, a3, a4, hd', s0, s12, hcn, hcw, hA1, hPv, r1, r2, r3, r4, r5, r6, ca', hvl, hva, del]))
  | fail)
    refine LoopW.next ⟨⟨i + 1, c', vs, d', f, 0, A⟩, ⟨by simp only; omega, hI, by simp only; omega, dd0, dd1, .inr ⟨rfl, h4⟩, hA2⟩⟩ (by simp; omega) ?_
    exact (Wk.cut rfl (by simp [hn, St.lp]) (by simp [wkO, St.lp, zaa, getK, Ob.under, D.under, zad, zae, zav, zao, zar, zat, zam, hcn, hcw, s12]) (by simp [wkU, St.lp, zak, zaa, getK, D.under, zav, zao, zar, zat, zam, hcn, hcw, s12]) (by simp [wkE, St.lp, zak, zaa, getK, zav, zao, zar, zat, zam, hcn, hcw, s12] <;> (try (intros; simp_all; done)) <;> (try (intros; omega)) <;> (try grind)))
   ·have r7 : (d' + 1 < c'.frm) = False := eq_false (by have := hq2 s12 (by omega); omega)
    repeat' (first
  | (refine zag ?_; simp [hx, a0, a1, a2, a3, a4, hd', s0, s12, hcn, hcw, hA1, hPv, r1, r2, r3, r4, r5, r6, r7, ca', hvl, hva, del])
  | (refine zaj ?_; simp [hx, a0, a1, a2, a3, a4, hd', s0, s12, hcn, hcw, hA1, hPv, r1, r2, r3, r4, r5, r6, r7, ca', hvl, hva, del])
  | (refine ⟨by omega, ?_⟩)
  | (refine zah ?_; simp [hx, a0, a1, a2, a3, a4, hd', s0, s12, hcn, hcw, hA1, hPv, r1, r2, r3, r4, r5, r6, r7, ca', hvl, hva, del])
  | (refine zai ?_; simp [hx, a0, a1, a2, a3, a4, hd', s0, s12, hcn, hcw, hA1, hPv, r1, r2, r3, r4, r5, r6, r7, ca', hvl, hva, del])
  | (refine zau ?_; simp [hx, a0, a1, a2, a3, a4, hd', s0, s12, hcn, hcw, hA1, hPv, r1, r2, r3, r4, r5, r6, r7, ca', hvl, hva, del])
  | (refine zap ?_; simp [hx, a0, a1, a2, a3, a4, hd', s0, s12, hcn, hcw, hA1, hPv, r1, r2, r3, r4, r5, r6, r7, ca', hvl, hva, del])
  | (refine zaq ?_; simp only [zan])
  | (refine ⟨?_, by omega⟩)
  | (intro hc <;> (try (exfalso; omega)))
  | (refine CallP.fun_ (hmf) (by first | rfl | fail) (by first | assumption | (simp; done) | fail) (by first | (simp [hx, a0, a1, a2, a3, a4, hd', s0, s12, hcn, hcw, hA1, hPv, r1, r2, r3, r4, r5, r6, r7, ca', hvl, hva, del]; done) | (simp [hx, a0, a1, a2, a3, a4, hd', s0, s12, hcn, hcw, hA1, hPv, r1, r2, r3, r4, r5, r6, r7, ca', hvl, hva, del]; rfl) | fail) (by first | (simp; done) | fail) (fun d hd => ?_); subst hd; (try simp [hx, a0, a1, a2, a3, a4, hd', s0, s12, hcn, hcw, hA1, hPv, r1, r2, r3, r4, r5, r6, r7, ca', hvl, hva, del]))
  | (refine CallP.zkV (hct) (by simp [getK]) (by rfl) (by first | assumption | simp) (by rfl) (by simp) ?_; rintro d o n' hn' ⟨rfl, rfl, rfl⟩; (try simp at hn'); (try simp [hx, a0, a1, a2, a3, a4, hd', s0, s12, hcn, hcw, hA1, hPv, r1, r2, r3, r4, r5, r6, r7, ca', hvl, hva, del]))
  | fail)
    refine LoopW.next ⟨⟨i + 1, c', vs, d', f, 0, A⟩, ⟨by simp only; omega, hI, by simp only; omega, dd0, dd1, .inr ⟨rfl, h4⟩, hA2⟩⟩ (by simp; omega) ?_
    exact (Wk.cut rfl (by simp [hn, St.lp]) (by simp [wkO, St.lp, zaa, getK, Ob.under, D.under, zad, zae, zav, zao, zar, zat, zam, hcn, hcw, s12]) (by simp [wkU, St.lp, zak, zaa, getK, D.under, zav, zao, zar, zat, zam, hcn, hcw, s12]) (by simp [wkE, St.lp, zak, zaa, getK, zav, zao, zar, zat, zam, hcn, hcw, s12] <;> (try (intros; simp_all; done)) <;> (try (intros; omega)) <;> (try grind)))
  ·have htw : c.again = two := by rcases hv.ha with h | h; exact absurd h ca; exact h.1
   rw [if_neg ca, htw] at hD
   have ca' : (0 < c'.again.length) = True := by rw [hag]; exact eq_true (List.length_pos_iff.2 ca)
   subst hD
   rcases s12 with s12 | s12
   ·repeat' (first
  | (refine zag ?_; simp [hx, a0, a1, a2, a3, a4, hd', s0, s12, hcn, hcw, hA1, hPv, r1, r2, r3, r4, r5, r6, ca', hvl, hva, del])
  | (refine zaj ?_; simp [hx, a0, a1, a2, a3, a4, hd', s0, s12, hcn, hcw, hA1, hPv, r1, r2, r3, r4, r5, r6, ca', hvl, hva, del])
  | (refine ⟨by omega, ?_⟩)
  | (refine zah ?_; simp [hx, a0, a1, a2, a3, a4, hd', s0, s12, hcn, hcw, hA1, hPv, r1, r2, r3, r4, r5, r6, ca', hvl, hva, del])
  | (refine zai ?_; simp [hx, a0, a1, a2, a3, a4, hd', s0, s12, hcn, hcw, hA1, hPv, r1, r2, r3, r4, r5, r6, ca', hvl, hva, del])
  | (refine zau ?_; simp [hx, a0, a1, a2, a3, a4, hd', s0, s12, hcn, hcw, hA1, hPv, r1, r2, r3, r4, r5, r6, ca', hvl, hva, del])
  | (refine zap ?_; simp [hx, a0, a1, a2, a3, a4, hd', s0, s12, hcn, hcw, hA1, hPv, r1, r2, r3, r4, r5, r6, ca', hvl, hva, del])
  | (refine zaq ?_; simp only [zan])
  | (refine ⟨?_, by omega⟩)
  | (intro hc <;> (try (exfalso; omega)))
  | (refine CallP.fun_ (hmf) (by first | rfl | fail) (by first | assumption | (simp; done) | fail) (by first | (simp [hx, a0, a1, a2, a3, a4, hd', s0, s12, hcn, hcw, hA1, hPv, r1, r2, r3, r4, r5, r6, ca', hvl, hva, del]; done) | (simp [hx, a0, a1, a2, a3, a4, hd', s0, s12, hcn, hcw, hA1, hPv, r1, r2, r3, r4, r5, r6, ca', hvl, hva, del]; rfl) | fail) (by first | (simp; done) | fail) (fun d hd => ?_); subst hd; (try simp [hx, a0, a1, a2, a3, a4, hd', s0, s12, hcn, hcw, hA1, hPv, r1, r2, r3, r4, r5, r6, ca', hvl, hva, del]))
  | (refine CallP.zkV (hct) (by simp [getK]) (by rfl) (by first | assumption | simp) (by rfl) (by simp) ?_; rintro d o n' hn' ⟨rfl, rfl, rfl⟩; (try simp at hn'); (try simp [hx, a0, a1, a2, a3, a4, hd', s0, s12, hcn, hcw, hA1, hPv, r1, r2, r3, r4, r5, r6, ca', hvl, hva, del]))
  | fail)
    refine LoopW.next ⟨⟨i + 1, c', vs, d', f, 0, A⟩, ⟨by simp only; omega, hI, by simp only; omega, dd0, dd1, .inr ⟨rfl, h4⟩, hA2⟩⟩ (by simp; omega) ?_
    exact (Wk.cut rfl (by simp [hn, St.lp]) (by simp [wkO, St.lp, zaa, getK, Ob.under, D.under, zad, zae, zav, zao, zar, zat, zam, hcn, hcw, s12]) (by simp [wkU, St.lp, zak, zaa, getK, D.under, zav, zao, zar, zat, zam, hcn, hcw, s12]) (by simp [wkE, St.lp, zak, zaa, getK, zav, zao, zar, zat, zam, hcn, hcw, s12] <;> (try (intros; simp_all; done)) <;> (try (intros; omega)) <;> (try grind)))
   ·have r7 : (d' + 1 < c'.frm) = False := eq_false (by have := hq2 s12 (by omega); omega)
    repeat' (first
  | (refine zag ?_; simp [hx, a0, a1, a2, a3, a4, hd', s0, s12, hcn, hcw, hA1, hPv, r1, r2, r3, r4, r5, r6, r7, ca', hvl, hva, del])
  | (refine zaj ?_; simp [hx, a0, a1, a2, a3, a4, hd', s0, s12, hcn, hcw, hA1, hPv, r1, r2, r3, r4, r5, r6, r7, ca', hvl, hva, del])
  | (refine ⟨by omega, ?_⟩)
  | (refine zah ?_; simp [hx, a0, a1, a2, a3, a4, hd', s0, s12, hcn, hcw, hA1, hPv, r1, r2, r3, r4, r5, r6, r7, ca', hvl, hva, del])
  | (refine zai ?_; simp [hx, a0, a1, a2, a3, a4, hd', s0, s12, hcn, hcw, hA1, hPv, r1, r2, r3, r4, r5, r6, r7, ca', hvl, hva, del])
  | (refine zau ?_; simp [hx, a0, a1, a2, a3, a4, hd', s0, s12, hcn, hcw, hA1, hPv, r1, r2, r3, r4, r5, r6, r7, ca', hvl, hva, del])
  | (refine zap ?_; simp [hx, a0, a1, a2, a3, a4, hd', s0, s12, hcn, hcw, hA1, hPv, r1, r2, r3, r4, r5, r6, r7, ca', hvl, hva, del])
  | (refine zaq ?_; simp only [zan])
  | (refine ⟨?_, by omega⟩)
  | (intro hc <;> (try (exfalso; omega)))
  | (refine CallP.fun_ (hmf) (by first | rfl | fail) (by first | assumption | (simp; done) | fail) (by first | (simp [hx, a0, a1, a2, a3, a4, hd', s0, s12, hcn, hcw, hA1, hPv, r1, r2, r3, r4, r5, r6, r7, ca', hvl, hva, del]; done) | (simp [hx, a0, a1, a2, a3, a4, hd', s0, s12, hcn, hcw, hA1, hPv, r1, r2, r3, r4, r5, r6, r7, ca', hvl, hva, del]; rfl) | fail) (by first | (simp; done) | fail) (fun d hd => ?_); subst hd; (try simp [hx, a0, a1, a2, a3, a4, hd', s0, s12, hcn, hcw, hA1, hPv, r1, r2, r3, r4, r5, r6, r7, ca', hvl, hva, del]))
  | (refine CallP.zkV (hct) (by simp [getK]) (by rfl) (by first | assumption | simp) (by rfl) (by simp) ?_; rintro d o n' hn' ⟨rfl, rfl, rfl⟩; (try simp at hn'); (try simp [hx, a0, a1, a2, a3, a4, hd', s0, s12, hcn, hcw, hA1, hPv, r1, r2, r3, r4, r5, r6, r7, ca', hvl, hva, del]))
  | fail)
    refine LoopW.next ⟨⟨i + 1, c', vs, d', f, 0, A⟩, ⟨by simp only; omega, hI, by simp only; omega, dd0, dd1, .inr ⟨rfl, h4⟩, hA2⟩⟩ (by simp; omega) ?_
    exact (Wk.cut rfl (by simp [hn, St.lp]) (by simp [wkO, St.lp, zaa, getK, Ob.under, D.under, zad, zae, zav, zao, zar, zat, zam, hcn, hcw, s12]) (by simp [wkU, St.lp, zak, zaa, getK, D.under, zav, zao, zar, zat, zam, hcn, hcw, s12]) (by simp [wkE, St.lp, zak, zaa, getK, zav, zao, zar, zat, zam, hcn, hcw, s12] <;> (try (intros; simp_all; done)) <;> (try (intros; omega)) <;> (try grind)))
 by_cases t0 : c.state = 0
 ·rw [t0] at hct
  have t1 : ¬ c'.state = 1 := fun h => s0 ⟨t0, .inl h⟩
  have t2 : ¬ c'.state = 2 := fun h => s0 ⟨t0, .inr h⟩
  have h4 : ¬ c'.state = 4 := by omega
  have hPv : P = 0 := by omega
  by_cases t3 : c'.state = 0
  ·skip
   repeat' (first
  | (refine zag ?_; simp [hx, a0, a1, a2, a3, a4, hd', hcn, hcw, hA1, hs0, hs1, hvl, hva, del, t0, t3, hPv])
  | (refine zaj ?_; simp [hx, a0, a1, a2, a3, a4, hd', hcn, hcw, hA1, hs0, hs1, hvl, hva, del, t0, t3, hPv])
  | (refine ⟨by omega, ?_⟩)
  | (refine zah ?_; simp [hx, a0, a1, a2, a3, a4, hd', hcn, hcw, hA1, hs0, hs1, hvl, hva, del, t0, t3, hPv])
  | (refine zai ?_; simp [hx, a0, a1, a2, a3, a4, hd', hcn, hcw, hA1, hs0, hs1, hvl, hva, del, t0, t3, hPv])
  | (refine zau ?_; simp [hx, a0, a1, a2, a3, a4, hd', hcn, hcw, hA1, hs0, hs1, hvl, hva, del, t0, t3, hPv])
  | (refine zap ?_; simp [hx, a0, a1, a2, a3, a4, hd', hcn, hcw, hA1, hs0, hs1, hvl, hva, del, t0, t3, hPv])
  | (refine zaq ?_; simp only [zan])
  | (refine ⟨?_, by omega⟩)
  | (intro hc <;> (try (exfalso; omega)))
  | (refine CallP.zkV (hct) (by simp [getK]) (by rfl) (by first | assumption | simp) (by rfl) (by simp) ?_; rintro d o n' hn' ⟨rfl, rfl, rfl⟩; (try simp at hn'); (try simp [hx, a0, a1, a2, a3, a4, hd', hcn, hcw, hA1, hs0, hs1, hvl, hva, del, t0, t3, hPv]))
  | fail)
   refine LoopW.next ⟨⟨i + 1, c', vs, d', f, 0, A⟩, ⟨by simp only; omega, hI, by simp only; omega, dd0, dd1, .inr ⟨rfl, by simp only; omega⟩, hA2⟩⟩ (by simp; omega) ?_
   exact (Wk.cut rfl (by simp [hn, St.lp]) (by simp [wkO, St.lp, zaa, getK, Ob.under, D.under, zad, zae, zav, zao, zar, zat, zam, hcn, hcw, t3]) (by simp [wkU, St.lp, zak, zaa, getK, D.under, zav, zao, zar, zat, zam, hcn, hcw, t3]) (by simp [wkE, St.lp, zak, zaa, getK, zav, zao, zar, zat, zam, hcn, hcw, t3] <;> (try (intros; simp_all; done)) <;> (try (intros; omega)) <;> (try grind)))
  ·skip
   repeat' (first
  | (refine zag ?_; simp [hx, a0, a1, a2, a3, a4, hd', hcn, hcw, hA1, hs0, hs1, hvl, hva, del, t0, t1, t2, t3, h4, hPv])
  | (refine zaj ?_; simp [hx, a0, a1, a2, a3, a4, hd', hcn, hcw, hA1, hs0, hs1, hvl, hva, del, t0, t1, t2, t3, h4, hPv])
  | (refine ⟨by omega, ?_⟩)
  | (refine zah ?_; simp [hx, a0, a1, a2, a3, a4, hd', hcn, hcw, hA1, hs0, hs1, hvl, hva, del, t0, t1, t2, t3, h4, hPv])
  | (refine zai ?_; simp [hx, a0, a1, a2, a3, a4, hd', hcn, hcw, hA1, hs0, hs1, hvl, hva, del, t0, t1, t2, t3, h4, hPv])
  | (refine zau ?_; simp [hx, a0, a1, a2, a3, a4, hd', hcn, hcw, hA1, hs0, hs1, hvl, hva, del, t0, t1, t2, t3, h4, hPv])
  | (refine zap ?_; simp [hx, a0, a1, a2, a3, a4, hd', hcn, hcw, hA1, hs0, hs1, hvl, hva, del, t0, t1, t2, t3, h4, hPv])
  | (refine zaq ?_; simp only [zan])
  | (refine ⟨?_, by omega⟩)
  | (intro hc <;> (try (exfalso; omega)))
  | (refine CallP.zkV (hct) (by simp [getK]) (by rfl) (by first | assumption | simp) (by rfl) (by simp) ?_; rintro d o n' hn' ⟨rfl, rfl, rfl⟩; (try simp at hn'); (try simp [hx, a0, a1, a2, a3, a4, hd', hcn, hcw, hA1, hs0, hs1, hvl, hva, del, t0, t1, t2, t3, h4, hPv]))
  | fail)
   refine LoopW.next ⟨⟨i + 1, c', vs, d', f, 0, A⟩, ⟨by simp only; omega, hI, by simp only; omega, dd0, dd1, .inr ⟨rfl, by simp only; omega⟩, hA2⟩⟩ (by simp; omega) ?_
   exact (Wk.cut rfl (by simp [hn, St.lp]) (by simp [wkO, St.lp, zaa, getK, Ob.under, D.under, zad, zae, zav, zao, zar, zat, zam, hcn, hcw, t1, t2, t3]) (by simp [wkU, St.lp, zak, zaa, getK, D.under, zav, zao, zar, zat, zam, hcn, hcw, t1, t2, t3]) (by simp [wkE, St.lp, zak, zaa, getK, zav, zao, zar, zat, zam, hcn, hcw, t1, t2, t3] <;> (try (intros; simp_all; done)) <;> (try (intros; omega)) <;> (try grind)))
 by_cases t1 : c.state = 1
 ·rw [t1] at hct
  have h4 : ¬ c'.state = 4 := by omega
  have hPv : P = 0 := by omega
  by_cases t2 : c'.state = 2
  ·have r7 : (d' + 1 < c'.frm) = False := eq_false (by have := hq2 t2 (by omega); omega)
   repeat' (first
  | (refine zag ?_; simp [hx, a0, a1, a2, a3, a4, hd', hcn, hcw, hA1, hs0, hs1, hvl, hva, del, t1, t2, r7, hPv])
  | (refine zaj ?_; simp [hx, a0, a1, a2, a3, a4, hd', hcn, hcw, hA1, hs0, hs1, hvl, hva, del, t1, t2, r7, hPv])
  | (refine ⟨by omega, ?_⟩)
  | (refine zah ?_; simp [hx, a0, a1, a2, a3, a4, hd', hcn, hcw, hA1, hs0, hs1, hvl, hva, del, t1, t2, r7, hPv])
  | (refine zai ?_; simp [hx, a0, a1, a2, a3, a4, hd', hcn, hcw, hA1, hs0, hs1, hvl, hva, del, t1, t2, r7, hPv])
  | (refine zau ?_; simp [hx, a0, a1, a2, a3, a4, hd', hcn, hcw, hA1, hs0, hs1, hvl, hva, del, t1, t2, r7, hPv])
  | (refine zap ?_; simp [hx, a0, a1, a2, a3, a4, hd', hcn, hcw, hA1, hs0, hs1, hvl, hva, del, t1, t2, r7, hPv])
  | (refine zaq ?_; simp only [zan])
  | (refine ⟨?_, by omega⟩)
  | (intro hc <;> (try (exfalso; omega)))
  | (refine CallP.zkV (hct) (by simp [getK]) (by rfl) (by first | assumption | simp) (by rfl) (by simp) ?_; rintro d o n' hn' ⟨rfl, rfl, rfl⟩; (try simp at hn'); (try simp [hx, a0, a1, a2, a3, a4, hd', hcn, hcw, hA1, hs0, hs1, hvl, hva, del, t1, t2, r7, hPv]))
  | fail)
   refine LoopW.next ⟨⟨i + 1, c', vs, d', f, 0, A⟩, ⟨by simp only; omega, hI, by simp only; omega, dd0, dd1, .inr ⟨rfl, by simp only; omega⟩, hA2⟩⟩ (by simp; omega) ?_
   exact (Wk.cut rfl (by simp [hn, St.lp]) (by simp [wkO, St.lp, zaa, getK, Ob.under, D.under, zad, zae, zav, zao, zar, zat, zam, hcn, hcw, t1, t2]) (by simp [wkU, St.lp, zak, zaa, getK, D.under, zav, zao, zar, zat, zam, hcn, hcw, t1, t2]) (by simp [wkE, St.lp, zak, zaa, getK, zav, zao, zar, zat, zam, hcn, hcw, t1, t2] <;> (try (intros; simp_all; done)) <;> (try (intros; omega)) <;> (try grind)))
  by_cases t3 : c'.state = 1
  ·skip
   repeat' (first
  | (refine zag ?_; simp [hx, a0, a1, a2, a3, a4, hd', hcn, hcw, hA1, hs0, hs1, hvl, hva, del, t1, t3, hPv])
  | (refine zaj ?_; simp [hx, a0, a1, a2, a3, a4, hd', hcn, hcw, hA1, hs0, hs1, hvl, hva, del, t1, t3, hPv])
  | (refine ⟨by omega, ?_⟩)
  | (refine zah ?_; simp [hx, a0, a1, a2, a3, a4, hd', hcn, hcw, hA1, hs0, hs1, hvl, hva, del, t1, t3, hPv])
  | (refine zai ?_; simp [hx, a0, a1, a2, a3, a4, hd', hcn, hcw, hA1, hs0, hs1, hvl, hva, del, t1, t3, hPv])
  | (refine zau ?_; simp [hx, a0, a1, a2, a3, a4, hd', hcn, hcw, hA1, hs0, hs1, hvl, hva, del, t1, t3, hPv])
  | (refine zap ?_; simp [hx, a0, a1, a2, a3, a4, hd', hcn, hcw, hA1, hs0, hs1, hvl, hva, del, t1, t3, hPv])
  | (refine zaq ?_; simp only [zan])
  | (refine ⟨?_, by omega⟩)
  | (intro hc <;> (try (exfalso; omega)))
  | (refine CallP.zkV (hct) (by simp [getK]) (by rfl) (by first | assumption | simp) (by rfl) (by simp) ?_; rintro d o n' hn' ⟨rfl, rfl, rfl⟩; (try simp at hn'); (try simp [hx, a0, a1, a2, a3, a4, hd', hcn, hcw, hA1, hs0, hs1, hvl, hva, del, t1, t3, hPv]))
  | fail)
   refine LoopW.next ⟨⟨i + 1, c', vs, d', f, 0, A⟩, ⟨by simp only; omega, hI, by simp only; omega, dd0, dd1, .inr ⟨rfl, by simp only; omega⟩, hA2⟩⟩ (by simp; omega) ?_
   exact (Wk.cut rfl (by simp [hn, St.lp]) (by simp [wkO, St.lp, zaa, getK, Ob.under, D.under, zad, zae, zav, zao, zar, zat, zam, hcn, hcw, t1, t3]) (by simp [wkU, St.lp, zak, zaa, getK, D.under, zav, zao, zar, zat, zam, hcn, hcw, t1, t3]) (by simp [wkE, St.lp, zak, zaa, getK, zav, zao, zar, zat, zam, hcn, hcw, t1, t3] <;> (try (intros; simp_all; done)) <;> (try (intros; omega)) <;> (try grind)))
  ·skip
   repeat' (first
  | (refine zag ?_; simp [hx, a0, a1, a2, a3, a4, hd', hcn, hcw, hA1, hs0, hs1, hvl, hva, del, t1, t2, t3, h4, hPv])
  | (refine zaj ?_; simp [hx, a0, a1, a2, a3, a4, hd', hcn, hcw, hA1, hs0, hs1, hvl, hva, del, t1, t2, t3, h4, hPv])
  | (refine ⟨by omega, ?_⟩)
  | (refine zah ?_; simp [hx, a0, a1, a2, a3, a4, hd', hcn, hcw, hA1, hs0, hs1, hvl, hva, del, t1, t2, t3, h4, hPv])
  | (refine zai ?_; simp [hx, a0, a1, a2, a3, a4, hd', hcn, hcw, hA1, hs0, hs1, hvl, hva, del, t1, t2, t3, h4, hPv])
  | (refine zau ?_; simp [hx, a0, a1, a2, a3, a4, hd', hcn, hcw, hA1, hs0, hs1, hvl, hva, del, t1, t2, t3, h4, hPv])
  | (refine zap ?_; simp [hx, a0, a1, a2, a3, a4, hd', hcn, hcw, hA1, hs0, hs1, hvl, hva, del, t1, t2, t3, h4, hPv])
  | (refine zaq ?_; simp only [zan])
  | (refine ⟨?_, by omega⟩)
  | (intro hc <;> (try (exfalso; omega)))
  | (refine CallP.zkV (hct) (by simp [getK]) (by rfl) (by first | assumption | simp) (by rfl) (by simp) ?_; rintro d o n' hn' ⟨rfl, rfl, rfl⟩; (try simp at hn'); (try simp [hx, a0, a1, a2, a3, a4, hd', hcn, hcw, hA1, hs0, hs1, hvl, hva, del, t1, t2, t3, h4, hPv]))
  | fail)
   refine LoopW.next ⟨⟨i + 1, c', vs, d', f, 0, A⟩, ⟨by simp only; omega, hI, by simp only; omega, dd0, dd1, .inr ⟨rfl, by simp only; omega⟩, hA2⟩⟩ (by simp; omega) ?_
   exact (Wk.cut rfl (by simp [hn, St.lp]) (by simp [wkO, St.lp, zaa, getK, Ob.under, D.under, zad, zae, zav, zao, zar, zat, zam, hcn, hcw, t1, t2, t3]) (by simp [wkU, St.lp, zak, zaa, getK, D.under, zav, zao, zar, zat, zam, hcn, hcw, t1, t2, t3]) (by simp [wkE, St.lp, zak, zaa, getK, zav, zao, zar, zat, zam, hcn, hcw, t1, t2, t3] <;> (try (intros; simp_all; done)) <;> (try (intros; omega)) <;> (try grind)))
 have hse := hq3 (by omega)
 by_cases t2 : c.state = 2
 ·rw [t2] at hct
  have t3 : c'.state = 2 := by omega
  have hPv : P = 0 := by omega
  repeat' (first
  | (refine zag ?_; simp [hx, a0, a1, a2, a3, a4, hd', hcn, hcw, hA1, hs0, hs1, hvl, hva, del, t2, t3, hPv])
  | (refine zaj ?_; simp [hx, a0, a1, a2, a3, a4, hd', hcn, hcw, hA1, hs0, hs1, hvl, hva, del, t2, t3, hPv])
  | (refine ⟨by omega, ?_⟩)
  | (refine zah ?_; simp [hx, a0, a1, a2, a3, a4, hd', hcn, hcw, hA1, hs0, hs1, hvl, hva, del, t2, t3, hPv])
  | (refine zai ?_; simp [hx, a0, a1, a2, a3, a4, hd', hcn, hcw, hA1, hs0, hs1, hvl, hva, del, t2, t3, hPv])
  | (refine zau ?_; simp [hx, a0, a1, a2, a3, a4, hd', hcn, hcw, hA1, hs0, hs1, hvl, hva, del, t2, t3, hPv])
  | (refine zap ?_; simp [hx, a0, a1, a2, a3, a4, hd', hcn, hcw, hA1, hs0, hs1, hvl, hva, del, t2, t3, hPv])
  | (refine zaq ?_; simp only [zan])
  | (refine ⟨?_, by omega⟩)
  | (intro hc <;> (try (exfalso; omega)))
  | (refine CallP.zkV (hct) (by simp [getK]) (by rfl) (by first | assumption | simp) (by rfl) (by simp) ?_; rintro d o n' hn' ⟨rfl, rfl, rfl⟩; (try simp at hn'); (try simp [hx, a0, a1, a2, a3, a4, hd', hcn, hcw, hA1, hs0, hs1, hvl, hva, del, t2, t3, hPv]))
  | fail)
  refine LoopW.next ⟨⟨i + 1, c', vs, d', f, 0, A⟩, ⟨by simp only; omega, hI, by simp only; omega, dd0, dd1, .inr ⟨rfl, by simp only; omega⟩, hA2⟩⟩ (by simp; omega) ?_
  exact (Wk.cut rfl (by simp [hn, St.lp]) (by simp [wkO, St.lp, zaa, getK, Ob.under, D.under, zad, zae, zav, zao, zar, zat, zam, hcn, hcw, t2, t3]) (by simp [wkU, St.lp, zak, zaa, getK, D.under, zav, zao, zar, zat, zam, hcn, hcw, t2, t3]) (by simp [wkE, St.lp, zak, zaa, getK, zav, zao, zar, zat, zam, hcn, hcw, t2, t3] <;> (try (intros; simp_all; done)) <;> (try (intros; omega)) <;> (try grind)))
 by_cases t4 : c.state = 4
 ·rw [t4] at hct
  have t3 : c'.state = 4 := by omega
  have hPv : P = 1 := by omega
  repeat' (first
  | (refine zag ?_; simp [hx, a0, a1, a2, a3, a4, hd', hcn, hcw, hA1, hs0, hs1, hvl, hva, del, t4, t3, hPv])
  | (refine zaj ?_; simp [hx, a0, a1, a2, a3, a4, hd', hcn, hcw, hA1, hs0, hs1, hvl, hva, del, t4, t3, hPv])
  | (refine ⟨by omega, ?_⟩)
  | (refine zah ?_; simp [hx, a0, a1, a2, a3, a4, hd', hcn, hcw, hA1, hs0, hs1, hvl, hva, del, t4, t3, hPv])
  | (refine zai ?_; simp [hx, a0, a1, a2, a3, a4, hd', hcn, hcw, hA1, hs0, hs1, hvl, hva, del, t4, t3, hPv])
  | (refine zau ?_; simp [hx, a0, a1, a2, a3, a4, hd', hcn, hcw, hA1, hs0, hs1, hvl, hva, del, t4, t3, hPv])
  | (refine zap ?_; simp [hx, a0, a1, a2, a3, a4, hd', hcn, hcw, hA1, hs0, hs1, hvl, hva, del, t4, t3, hPv])
  | (refine zaq ?_; simp only [zan])
  | (refine ⟨?_, by omega⟩)
  | (intro hc <;> (try (exfalso; omega)))
  | (refine CallP.zkV (hct) (by simp [getK]) (by rfl) (by first | assumption | simp) (by rfl) (by simp) ?_; rintro d o n' hn' ⟨rfl, rfl, rfl⟩; (try simp at hn'); (try simp [hx, a0, a1, a2, a3, a4, hd', hcn, hcw, hA1, hs0, hs1, hvl, hva, del, t4, t3, hPv]))
  | fail)
  refine LoopW.next ⟨⟨i + 1, c', vs, d', f, 1, A⟩, ⟨by simp only; omega, hI, by simp only; omega, dd0, dd1, .inl ⟨rfl, by simp only; omega⟩, hA2⟩⟩ (by simp; omega) ?_
  exact (Wk.cut rfl (by simp [hn, St.lp]) (by simp [wkO, St.lp, zaa, getK, Ob.under, D.under, zad, zae, zav, zao, zar, zat, zam, hcn, hcw, t3]) (by simp [wkU, St.lp, zak, zaa, getK, D.under, zav, zao, zar, zat, zam, hcn, hcw, t3]) (by simp [wkE, St.lp, zak, zaa, getK, zav, zao, zar, zat, zam, hcn, hcw, t3] <;> (try (intros; simp_all; done)) <;> (try (intros; omega)) <;> (try grind)))
 have t5 : c.state = 3 := by omega
 rw [t5] at hct
 have t3 : c'.state = 3 := by omega
 have hPv : P = 0 := by omega
 repeat' (first
  | (refine zag ?_; simp [hx, a0, a1, a2, a3, a4, hd', hcn, hcw, hA1, hs0, hs1, hvl, hva, del, t5, t3, hPv])
  | (refine zaj ?_; simp [hx, a0, a1, a2, a3, a4, hd', hcn, hcw, hA1, hs0, hs1, hvl, hva, del, t5, t3, hPv])
  | (refine ⟨by omega, ?_⟩)
  | (refine zah ?_; simp [hx, a0, a1, a2, a3, a4, hd', hcn, hcw, hA1, hs0, hs1, hvl, hva, del, t5, t3, hPv])
  | (refine zai ?_; simp [hx, a0, a1, a2, a3, a4, hd', hcn, hcw, hA1, hs0, hs1, hvl, hva, del, t5, t3, hPv])
  | (refine zau ?_; simp [hx, a0, a1, a2, a3, a4, hd', hcn, hcw, hA1, hs0, hs1, hvl, hva, del, t5, t3, hPv])
  | (refine zap ?_; simp [hx, a0, a1, a2, a3, a4, hd', hcn, hcw, hA1, hs0, hs1, hvl, hva, del, t5, t3, hPv])
  | (refine zaq ?_; simp only [zan])
  | (refine ⟨?_, by omega⟩)
  | (intro hc <;> (try (exfalso; omega)))
  | (refine CallP.zkV (hct) (by simp [getK]) (by rfl) (by first | assumption | simp) (by rfl) (by simp) ?_; rintro d o n' hn' ⟨rfl, rfl, rfl⟩; (try simp at hn'); (try simp [hx, a0, a1, a2, a3, a4, hd', hcn, hcw, hA1, hs0, hs1, hvl, hva, del, t5, t3, hPv]))
  | fail)
 refine LoopW.next ⟨⟨i + 1, c', vs, d', f, 0, A⟩, ⟨by simp only; omega, hI, by simp only; omega, dd0, dd1, .inr ⟨rfl, by simp only; omega⟩, hA2⟩⟩ (by simp; omega) ?_
 exact (Wk.cut rfl (by simp [hn, St.lp]) (by simp [wkO, St.lp, zaa, getK, Ob.under, D.under, zad, zae, zav, zao, zar, zat, zam, hcn, hcw, t3]) (by simp [wkU, St.lp, zak, zaa, getK, D.under, zav, zao, zar, zat, zam, hcn, hcw, t3]) (by simp [wkE, St.lp, zak, zaa, getK, zav, zao, zar, zat, zam, hcn, hcw, t3] <;> (try (intros; simp_all; done)) <;> (try (intros; omega)) <;> (try grind)))
end Go.Proofs.YtepiegcjnaohjaaGreatDoor
