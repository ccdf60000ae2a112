import Derived.Test.YthnemhfamhnfjaaGreatDoorW5
set_option linter.all false
set_option maxRecDepth 100000
set_option maxHeartbeats 8000000
namespace Go.Proofs.YthnemhfamhnfjaaGreatDoor
open Go Go.VL
attribute [local simp] HS zc2 zck evPure opd uOf zaH St.put St.at getK binD binI binS binB nilD aggD zhr zh0 lookD lookR zcz Go.VL.nextD zcC ziz zia zgs zcu mkV zdn zbo zby mapEff zeb zgf Key.kk shiftI arith unD convD zdO loadD cellsAt fieldAddrD fieldD indexAddrD indexD sliceD cutD lenD minmaxD nilCheckD buildD fillD zbR zdd zeM setAll zcK zeS zcq zhB zcn St.add zaQ zbI rowsOf zdJ zcD zak zac zaa zbn zdb zba entry zbK zbT valD zb3 zcx zhn zdl zdm zbU zbM zav zaX zbr delAll effD St.effS zc8 zbg za5 zda zbh za7 zcc za6 zaW zcd zcX zbD zb7 zbp zb5 zb6 zaJ mkD zbV zbB zbL zav zco D.ids Op.operands Call.operands zbG makeIfD makeFuncD typeAssertD zhZ zdx zdy zhD zcA IntKind.bits zcL List.take_of_length_le List.range_succ
attribute [local irreducible] V G H HD HD2 HD4 zkz RetX zao Eff CallP CallV EndOK Fun Ret FinOK LoopI LoopW EndW
theorem _root_.Go.VL.CallP.pp {P : Program} {Γ : Ctx} {s : St} {k : St -> Prop} {dst : Option Tmp} {fop : Operand} {args : List Operand} {f caps} {ds : List D} {α : Type} {l : List Tok} {i : Nat} {ob : Ob} {val : α -> D} {r : PR α}
  (hret : RetX P f ds [(i, ob)] s.next (PPost l i s.next val r)) (hj : getK s.obs i = some ob) (hf : zav (opd s fop) = some (f, caps)) (hc : zam P f = true) (hds : args.map (opd s) ++ caps = ds) (hp : zaH dst s)
  (hk : ∀ a q, r = .ok a q -> k (({ s with obs := del s.obs i ++ [(i, pOb l q)], next := s.next } : St).put dst (val a)))
  (hx : ∀ pos e q, r = .stop pos e -> ∃ s2, Wk Γ { s with obs := del s.obs i ++ [(i, pOb l q)], next := s.next } s2 /\ Γ.pan (chP pos e) s2) : CallP P Γ fop args dst s k :=
 CallP.x1 hret hj hf hc hds hp (fun d o1 nx' _ h => by
  cases r with
  | ok a q => obtain ⟨h1, h2, h3⟩ := h; cases h1; subst h2; subst h3; exact hk a q rfl
  | stop pos e => obtain ⟨h1, _⟩ := h; cases h1) (fun ch o1 nx' _ h => by
  cases r with
  | ok a q => obtain ⟨h1, _⟩ := h; cases h1
  | stop pos e => obtain ⟨h1, ⟨ob', ⟨q, rfl⟩, h2⟩, h3⟩ := h; cases h1; subst h2; subst h3; exact hx pos e q rfl)
abbrev kbD (x : Int × Bool) : D := .tup [.u (.int .i64 x.1), .u (.bool x.2)]
theorem zpe (l : List Tok) (p : Nat) (i nx : Nat) (hi : i < nx) (hp : p < l.length) (hl : TokOK l) :
  RetX Tryz.prog 78 [.ptr i 0] [(i, pOb l p)] nx (PPost l i nx kbD (zfM l p)) := by
 have hne := zaB hi;have hll := hl.len;generalize hR : zfM l p = R;rw [zfM] at hR
 (refine RetX.of_bodyW Tryz.func78 rfl (by simp) fun Γ hn hpan => ?_); simp only [entry, ziC, ziN, maC, maN, oA, Tryz.ntmps78]
 repeat' (first
  | ((first | refine zae ?_ | refine zaj ?_ | refine zah ?_ | fail); simp [hne])
  | (refine zas (by first | rfl | fail) ?_; simp [hne, frzN, frz1, zaA, zaz, St.frz, St.frzS, frzS, fv, zaF, zbb, zbe, zaE, zau, zal, del, frz, zbf])
  | fail)
 (refine CallP.pp (zeW hl [99, 105, 114, 99, 108, 101] (q := p) (i := i) (by first | omega | simp <;> omega | fail) hp) (by first | (simp [hi, hne, nAA, zaa, getK, zab, zac]; done) | fail) (by rfl) (by first | assumption | (simp; done) | fail) (by rfl) (by simp) (fun v1 q1 h1 => ?_) (fun pos e q' h1 => ⟨_, Wk.refl _, ?_⟩); rotate_left 1; (focus (rw [h1, PR.zaK] at hR; (refine hpan _ _ ⟨{ n := _, env := [], obs := [(i, pOb l q')], next := nx }, (Wk.cut rfl (by simp [hn]) (by simp [wkO, zaa, getK, zab, zac, Ob.under, D.under, zad, zag, hi, hne, nAA, zab, zac, zaa, getK]) (by simp [wkU, zan, zaa, getK, D.under, hi, hne, nAA, zab, zac, zaa, getK]) (by simp [wkE, zan, zaa, getK, hi, hne, nAA, zab, zac, zaa, getK])), by simp [hn], ?_⟩; try simp); exact PPost.zay hR.symm)); rw [h1, PR.zat] at hR; (try simp [hi, hne, nAA]))
 obtain ⟨_, g1⟩ := za2 hl _ h1 hp;have hh1 := fun nx' (h : nx <= nx') => zbk l q1 [114, 111, 116, 97, 116, 105, 110, 103] i nx' (by omega) g1 hl.len;have hh2 := fun nx' (h : nx <= nx') => zbk l q1 [115, 97, 118, 105, 110, 103] i nx' (by omega) g1 hl.len;by_cases c1 : isB l q1 [114, 111, 116, 97, 116, 105, 110, 103] = true
 ·have g2 := zbd hl c1;rw [if_pos c1] at hR;simp only [c1, if_true] at hh1
  repeat' (first
  | ((first | refine zae ?_ | refine zaj ?_ | refine zah ?_ | refine zai ?_ | fail); simp [hne, del, nAA])
  | (refine CallP.ok1 (hh1 _ (by first | omega | simp <;> omega | fail)) (by first | (simp [hne, del, nAA, zaa, getK, zab, zac]; done) | fail) (by rfl) (by rfl) ?_; (try simp [hne, del, nAA]))
  | (refine zas (by first | rfl | fail) ?_; simp [hne, del, nAA, frzN, frz1, zaA, zaz, St.frz, St.frzS, frzS, fv, zaF, zbb, zbe, zaE, zau, zal, del, frz, zbf])
  | fail)
  (refine CallP.pp (zeW hl [59] (q := q1 + 1) (i := i) (by first | omega | simp <;> omega | fail) g2) (by first | (simp [hi, hne, nAA, zaa, getK, zab, zac]; done) | fail) (by rfl) (by first | assumption | (simp; done) | fail) (by rfl) (by simp) (fun v2 q2 h2 => ?_) (fun pos e q' h2 => ⟨_, Wk.refl _, ?_⟩); rotate_left 1; (focus (rw [h2, PR.zaK] at hR; (refine hpan _ _ ⟨{ n := _, env := [], obs := [(i, pOb l q')], next := nx }, (Wk.cut rfl (by simp [hn]) (by simp [wkO, zaa, getK, zab, zac, Ob.under, D.under, zad, zag, hi, hne, nAA, zab, zac, zaa, getK]) (by simp [wkU, zan, zaa, getK, D.under, hi, hne, nAA, zab, zac, zaa, getK]) (by simp [wkE, zan, zaa, getK, hi, hne, nAA, zab, zac, zaa, getK])), by simp [hn], ?_⟩; try simp); exact PPost.zay hR.symm)); rw [h2, PR.zat] at hR; (try simp [hi, hne, nAA]))
  repeat' (first
  | ((first | refine zae ?_ | refine zaj ?_ | refine zah ?_ | fail); simp [hne, del, nAA])
  | (refine zaq ?_; simp only [zao])
  | fail)
  (refine EndW.here ?_; (first | (refine EndOK.fin (.inr rfl) ?_) | (refine EndOK.fin (.inl rfl) ?_)); simp [zaG, zaf, Tryz.results78, hne, hi]; refine FinOK.cut [(i, pOb l q2)] (nx) (by simp [zaa, getK, zab, zac, Ob.under, D.under, zad, zag, hne, hi] <;> omega) (by simp [D.under]) (by simp [hn]) ?_; try simp)
  exact PPost.zcm hR.symm rfl rfl
 ·rw [if_neg c1] at hR;simp only [c1, Bool.false_eq_true, if_false] at hh1;by_cases c2 : isB l q1 [115, 97, 118, 105, 110, 103] = true
  ·have g2 := zbd hl c2;rw [if_pos c2] at hR;simp only [c2, if_true] at hh2
   repeat' (first
  | ((first | refine zae ?_ | refine zaj ?_ | refine zah ?_ | refine zai ?_ | fail); simp [hne, del, nAA])
  | (refine CallP.ok1 (hh1 _ (by first | omega | simp <;> omega | fail)) (by first | (simp [hne, del, nAA, zaa, getK, zab, zac]; done) | fail) (by rfl) (by rfl) ?_; (try simp [hne, del, nAA]))
  | (refine CallP.ok1 (hh2 _ (by first | omega | simp <;> omega | fail)) (by first | (simp [hne, del, nAA, zaa, getK, zab, zac]; done) | fail) (by rfl) (by rfl) ?_; (try simp [hne, del, nAA]))
  | (refine zas (by first | rfl | fail) ?_; simp [hne, del, nAA, frzN, frz1, zaA, zaz, St.frz, St.frzS, frzS, fv, zaF, zbb, zbe, zaE, zau, zal, del, frz, zbf])
  | fail)
   (refine CallP.pp (zeW hl [59] (q := q1 + 1) (i := i) (by first | omega | simp <;> omega | fail) g2) (by first | (simp [hi, hne, nAA, zaa, getK, zab, zac]; done) | fail) (by rfl) (by first | assumption | (simp; done) | fail) (by rfl) (by simp) (fun v2 q2 h2 => ?_) (fun pos e q' h2 => ⟨_, Wk.refl _, ?_⟩); rotate_left 1; (focus (rw [h2, PR.zaK] at hR; (refine hpan _ _ ⟨{ n := _, env := [], obs := [(i, pOb l q')], next := nx }, (Wk.cut rfl (by simp [hn]) (by simp [wkO, zaa, getK, zab, zac, Ob.under, D.under, zad, zag, hi, hne, nAA, zab, zac, zaa, getK]) (by simp [wkU, zan, zaa, getK, D.under, hi, hne, nAA, zab, zac, zaa, getK]) (by simp [wkE, zan, zaa, getK, hi, hne, nAA, zab, zac, zaa, getK])), by simp [hn], ?_⟩; try simp); exact PPost.zay hR.symm)); rw [h2, PR.zat] at hR; (try simp [hi, hne, nAA]))
   repeat' (first
  | ((first | refine zae ?_ | refine zaj ?_ | refine zah ?_ | fail); simp [hne, del, nAA])
  | (refine zaq ?_; simp only [zao])
  | fail)
   (refine EndW.here ?_; (first | (refine EndOK.fin (.inr rfl) ?_) | (refine EndOK.fin (.inl rfl) ?_)); simp [zaG, zaf, Tryz.results78, hne, hi]; refine FinOK.cut [(i, pOb l q2)] (nx) (by simp [zaa, getK, zab, zac, Ob.under, D.under, zad, zag, hne, hi] <;> omega) (by simp [D.under]) (by simp [hn]) ?_; try simp)
   exact PPost.zcm hR.symm rfl rfl
  ·rw [if_neg c2] at hR;simp only [c2, Bool.false_eq_true, if_false] at hh2
   repeat' (first
  | ((first | refine zae ?_ | refine zaj ?_ | refine zah ?_ | refine zai ?_ | fail); simp [hne, del, nAA])
  | (refine zap ?_; simp only [zao])
  | (refine CallP.ok1 (hh1 _ (by first | omega | simp <;> omega | fail)) (by first | (simp [hne, del, nAA, zaa, getK, zab, zac]; done) | fail) (by rfl) (by rfl) ?_; (try simp [hne, del, nAA]))
  | (refine CallP.ok1 (hh2 _ (by first | omega | simp <;> omega | fail)) (by first | (simp [hne, del, nAA, zaa, getK, zab, zac]; done) | fail) (by rfl) (by rfl) ?_; (try simp [hne, del, nAA]))
  | (refine zas (by first | rfl | fail) ?_; simp [hne, del, nAA, frzN, frz1, zaA, zaz, St.frz, St.frzS, frzS, fv, zaF, zbb, zbe, zaE, zau, zal, del, frz, zbf])
  | fail)
   (refine CallP.pp (zeW hl [98, 105, 100, 100, 105, 110, 103] (q := q1) (i := i) (by first | omega | simp <;> omega | fail) g1) (by first | (simp [hi, hne, nAA, zaa, getK, zab, zac]; done) | fail) (by rfl) (by first | assumption | (simp; done) | fail) (by rfl) (by simp) (fun v2 q2 h2 => ?_) (fun pos e q' h2 => ⟨_, Wk.refl _, ?_⟩); rotate_left 1; (focus (rw [h2, PR.zaK] at hR; (refine hpan _ _ ⟨{ n := _, env := [], obs := [(i, pOb l q')], next := nx }, (Wk.cut rfl (by simp [hn]) (by simp [wkO, zaa, getK, zab, zac, Ob.under, D.under, zad, zag, hi, hne, nAA, zab, zac, zaa, getK]) (by simp [wkU, zan, zaa, getK, D.under, hi, hne, nAA, zab, zac, zaa, getK]) (by simp [wkE, zan, zaa, getK, hi, hne, nAA, zab, zac, zaa, getK])), by simp [hn], ?_⟩; try simp); exact PPost.zay hR.symm)); rw [h2, PR.zat] at hR; (try simp [hi, hne, nAA]))
   obtain ⟨_, g2⟩ := za2 hl _ h2 g1;have hh3 := fun nx' (h : nx <= nx') => zbk l q2 [115, 101, 97, 108, 101, 100] i nx' (by omega) g2 hl.len;by_cases c3 : isB l q2 [115, 101, 97, 108, 101, 100] = true
   ·have g3 := zbd hl c3;rw [if_pos c3] at hR;simp only [c3, if_true] at hh3
    repeat' (first
  | ((first | refine zae ?_ | refine zaj ?_ | refine zah ?_ | fail); simp [hne, del, nAA])
  | (refine CallP.ok1 (hh3 _ (by first | omega | simp <;> omega | fail)) (by first | (simp [hne, del, nAA, zaa, getK, zab, zac]; done) | fail) (by rfl) (by rfl) ?_; (try simp [hne, del, nAA]))
  | (refine zas (by first | rfl | fail) ?_; simp [hne, del, nAA, frzN, frz1, zaA, zaz, St.frz, St.frzS, frzS, fv, zaF, zbb, zbe, zaE, zau, zal, del, frz, zbf])
  | fail)
    (refine CallP.pp (zeW hl [59] (q := q2 + 1) (i := i) (by first | omega | simp <;> omega | fail) g3) (by first | (simp [hi, hne, nAA, zaa, getK, zab, zac]; done) | fail) (by rfl) (by first | assumption | (simp; done) | fail) (by rfl) (by simp) (fun v3 q3 h3 => ?_) (fun pos e q' h3 => ⟨_, Wk.refl _, ?_⟩); rotate_left 1; (focus (rw [h3, PR.zaK] at hR; (refine hpan _ _ ⟨{ n := _, env := [], obs := [(i, pOb l q')], next := nx }, (Wk.cut rfl (by simp [hn]) (by simp [wkO, zaa, getK, zab, zac, Ob.under, D.under, zad, zag, hi, hne, nAA, zab, zac, zaa, getK]) (by simp [wkU, zan, zaa, getK, D.under, hi, hne, nAA, zab, zac, zaa, getK]) (by simp [wkE, zan, zaa, getK, hi, hne, nAA, zab, zac, zaa, getK])), by simp [hn], ?_⟩; try simp); exact PPost.zay hR.symm)); rw [h3, PR.zat] at hR; (try simp [hi, hne, nAA]))
    repeat' (first
  | ((first | refine zae ?_ | refine zaj ?_ | refine zah ?_ | fail); simp [hne, del, nAA])
  | (refine zaq ?_; simp only [zao])
  | fail)
    (refine EndW.here ?_; (first | (refine EndOK.fin (.inr rfl) ?_) | (refine EndOK.fin (.inl rfl) ?_)); simp [zaG, zaf, Tryz.results78, hne, hi]; refine FinOK.cut [(i, pOb l q3)] (nx) (by simp [zaa, getK, zab, zac, Ob.under, D.under, zad, zag, hne, hi] <;> omega) (by simp [D.under]) (by simp [hn]) ?_; try simp)
    exact PPost.zcm hR.symm rfl rfl
   ·rw [if_neg c3] at hR;simp only [c3, Bool.false_eq_true, if_false] at hh3
    repeat' (first
  | ((first | refine zae ?_ | refine zaj ?_ | refine zah ?_ | fail); simp [hne, del, nAA])
  | (refine CallP.ok1 (hh3 _ (by first | omega | simp <;> omega | fail)) (by first | (simp [hne, del, nAA, zaa, getK, zab, zac]; done) | fail) (by rfl) (by rfl) ?_; (try simp [hne, del, nAA]))
  | (refine zas (by first | rfl | fail) ?_; simp [hne, del, nAA, frzN, frz1, zaA, zaz, St.frz, St.frzS, frzS, fv, zaF, zbb, zbe, zaE, zau, zal, del, frz, zbf])
  | fail)
    (refine CallP.pp (zeW hl [59] (q := q2) (i := i) (by first | omega | simp <;> omega | fail) g2) (by first | (simp [hi, hne, nAA, zaa, getK, zab, zac]; done) | fail) (by rfl) (by first | assumption | (simp; done) | fail) (by rfl) (by simp) (fun v3 q3 h3 => ?_) (fun pos e q' h3 => ⟨_, Wk.refl _, ?_⟩); rotate_left 1; (focus (rw [h3, PR.zaK] at hR; (refine hpan _ _ ⟨{ n := _, env := [], obs := [(i, pOb l q')], next := nx }, (Wk.cut rfl (by simp [hn]) (by simp [wkO, zaa, getK, zab, zac, Ob.under, D.under, zad, zag, hi, hne, nAA, zab, zac, zaa, getK]) (by simp [wkU, zan, zaa, getK, D.under, hi, hne, nAA, zab, zac, zaa, getK]) (by simp [wkE, zan, zaa, getK, hi, hne, nAA, zab, zac, zaa, getK])), by simp [hn], ?_⟩; try simp); exact PPost.zay hR.symm)); rw [h3, PR.zat] at hR; (try simp [hi, hne, nAA]))
    repeat' (first
  | ((first | refine zae ?_ | refine zaj ?_ | refine zah ?_ | fail); simp [hne, del, nAA])
  | (refine zaq ?_; simp only [zao])
  | fail)
    (refine EndW.here ?_; (first | (refine EndOK.fin (.inr rfl) ?_) | (refine EndOK.fin (.inl rfl) ?_)); simp [zaG, zaf, Tryz.results78, hne, hi]; refine FinOK.cut [(i, pOb l q3)] (nx) (by simp [zaa, getK, zab, zac, Ob.under, D.under, zad, zag, hne, hi] <;> omega) (by simp [D.under]) (by simp [hn]) ?_; try simp)
    exact PPost.zcm hR.symm rfl rfl
theorem zpg {l : List Tok} (hl : TokOK l) {p q : Nat} {x : Int × Bool} (h : zfM l p = .ok x q) (hp : p < l.length) : p <= q /\ q < l.length := by
 unfold zfM at h;obtain ⟨_, r1, h1, h⟩ := PR.zaD h;have g1 := za2 hl _ h1 hp;split at h
 ·rename_i hb;obtain ⟨_, r2, h2, h⟩ := PR.zaD h;have g2 := za2 hl _ h2 (zbd hl hb);cases h;exact ⟨by omega, g2.2⟩
 ·split at h
  ·rename_i hb;obtain ⟨_, r2, h2, h⟩ := PR.zaD h;have g2 := za2 hl _ h2 (zbd hl hb);cases h;exact ⟨by omega, g2.2⟩
  ·obtain ⟨_, r2, h2, h⟩ := PR.zaD h;have g2 := za2 hl _ h2 g1.2;split at h
   ·rename_i hb;obtain ⟨_, r3, h3, h⟩ := PR.zaD h;have g3 := za2 hl _ h3 (zbd hl hb);cases h;exact ⟨by omega, g3.2⟩
   ·obtain ⟨_, r3, h3, h⟩ := PR.zaD h;have g3 := za2 hl _ h3 g2.2;cases h;exact ⟨by omega, g3.2⟩
theorem zfG : Fun Tryz.prog 60 [] (· = .u (.sl (ordersW.map fun w => [.str w]))) := by
 simp only [ordersW, List.map_cons, List.map_nil]
 (refine Fun.of_bodyW Tryz.func60 rfl (by simp) fun Γ hn => ?_); simp only [entry, ziC, ziN, maC, maN, oA, Tryz.ntmps60]
 repeat' (first
  | ((first | refine zae ?_ | refine zaj ?_ | refine zah ?_ | fail); simp [zbT, zbK])
  | (refine zaq ?_; simp only [zao])
  | fail)
 (refine EndW.frzN 1 ?_; simp [frzN, frz1, zaA, zaz, St.frz, St.frzS, frzS, fv, zaF, zbb, zbe, zaE, zau, zal, del, frz, zbf])
 refine EndW.here ?_
 (refine EndOK.val (.inr rfl) ?_; simp [zaG, zaf, zar, Tryz.results60])
def atW (l : List Tok) (q : Nat) (ws : List W8) : Option Nat := ws.findIdx? fun w => isB l q w
theorem zmv (l : List Tok) (q : Nat) (ws : List W8) (i nx : Nat) (hi : i < nx) (hq : q < l.length) (hl : TokOK l) :
  RetX Tryz.prog 129 [.u (.sl (ws.map fun w => [.str w])), .bnd (.func 127) [.ptr i 0]] [(i, pOb l q)] nx
   (fun r o n => r = .val (match atW l q ws with | some j => ziB j | none => ziB (-1)) /\ o = [(i, pOb l (if (atW l q ws).isSome then q + 1 else q))] /\ n = nx) := by
 have hne := zaB hi;generalize hA : atW l q ws = A
 (refine RetX.of_bodyW Tryz.func129 rfl (by simp) fun Γ hn hpan => ?_); simp only [entry, ziC, ziN, maC, maN, oA, Tryz.ntmps129]
 refine ziV (x := 0) rfl fun hll => ?_;simp at hll
 repeat' (first
  | ((first | refine zae ?_ | refine zaj ?_ | refine zah ?_ | refine zaw ?_ | fail); simp)
  | fail)
 refine zdL (α := { j : Nat // j <= ws.length /\ ∀ w ∈ ws.take j, isB l q w = false }) [0, 1, 7] (fun x => [(8, .u (.int .i64 x.1))]) (fun x => [(i, pOb l q)]) nx (fun x => ws.length - x.1) ⟨0, by omega, by simp⟩ ?_ ?_
 ·exact (Wk.cut rfl (by simp [hn, St.lp]) (by simp [wkO, St.lp, zaa, getK, Ob.under, D.under, zad, zag, hi]) (by simp [wkU, St.lp, zan, zaa, getK, D.under, hi]) (by simp [wkE, St.lp, zan, zaa, getK, hi] <;> (try (intros; simp_all; done)) <;> (try (intros; omega)) <;> (try grind)))
 rintro ⟨j, h1, h2⟩;simp [St.lp, St.only, zan, zaa, getK];rcases hx : ws[j]? with _ | w
 ·have hge : ws.length <= j := by simpa using hx
  rw [List.take_of_length_le hge] at h2;have hn0 : atW l q ws = none := by
   unfold atW;rw [List.findIdx?_eq_none_iff];exact h2
  rw [hn0] at hA;subst hA
  repeat' (first
  | ((first | refine zae ?_ | refine zaj ?_ | fail); simp [hx])
  | (refine ⟨by omega, ?_⟩)
  | (refine zah ?_; simp [hx])
  | (refine zaq ?_; simp only [zao])
  | (refine zbA ?_; simp [zao])
  | (intro hc <;> (try (exfalso; omega)))
  | fail)
  (refine EndW.here ?_; (first | (refine EndOK.fin (.inr rfl) ?_) | (refine EndOK.fin (.inl rfl) ?_)); simp [zaG, zaf, Tryz.results129]; refine FinOK.here (by simp) ?_; try simp)
 ·have hlt : j < ws.length := (lGE.1 hx).1;have hh := zbk l q w i nx hi hq hl.len;cases hb : isB l q w with
  | false =>
   rw [hb, if_neg (by simp)] at hh
   repeat' (first
  | ((first | refine zae ?_ | refine zaj ?_ | refine zah ?_ | fail); simp [hx])
  | (refine zap ?_; simp only [zao])
  | (refine ⟨?_, by omega⟩)
  | (intro hc <;> (try (exfalso; omega)))
  | fail)
   refine CallP.bok hh (by simp [zaa, getK]) rfl (by first | assumption | simp) rfl (by simp) ?_
   repeat' (first
  | ((first | refine zae ?_ | refine zaj ?_ | fail); simp [hx])
  | (refine ⟨by omega, ?_⟩)
  | ((first | refine zai ?_ | refine zax ?_ | fail); simp [hx])
  | (refine zap ?_; simp only [zao])
  | fail)
   refine LoopW.next ⟨j + 1, by omega, zbu hx h2 hb⟩ (by simp; omega) ?_
   exact (Wk.cut rfl (by simp [hn, St.lp]) (by simp [wkO, St.lp, zaa, getK, Ob.under, D.under, zad, zag, hi, zab, zac, zaa, getK]) (by simp [wkU, St.lp, zan, zaa, getK, D.under, hi, zab, zac, zaa, getK]) (by simp [wkE, St.lp, zan, zaa, getK, hi, zab, zac, zaa, getK] <;> (try (intros; simp_all; done)) <;> (try (intros; omega)) <;> (try grind)))
  | true =>
   rw [hb, if_pos rfl] at hh;have hn0 : atW l q ws = some j := by
    unfold atW;rw [List.findIdx?_eq_some_iff_getElem];obtain ⟨h3, h4⟩ := lGE.1 hx;refine ⟨h3, by rw [h4]; exact hb, fun k hk => ?_⟩;have := h2 ws[k] (by rw [List.mem_take_iff_getElem]; exact ⟨k, by omega, rfl⟩);simp [this]
   rw [hn0] at hA;subst hA
   repeat' (first
  | ((first | refine zae ?_ | refine zaj ?_ | refine zah ?_ | fail); simp [hx])
  | (refine zap ?_; simp only [zao])
  | (refine ⟨?_, by omega⟩)
  | (intro hc <;> (try (exfalso; omega)))
  | fail)
   refine CallP.bok hh (by simp [zaa, getK]) rfl (by first | assumption | simp) rfl (by simp) ?_
   repeat' (first
  | ((first | refine zae ?_ | refine zaj ?_ | refine zah ?_ | refine zai ?_ | fail); simp [hx])
  | (refine zaq ?_; simp only [zao])
  | fail)
   (refine EndW.here ?_; (first | (refine EndOK.fin (.inr rfl) ?_) | (refine EndOK.fin (.inl rfl) ?_)); simp [zaG, zaf, Tryz.results129]; refine FinOK.here (by simp) ?_; try simp)
theorem znr (l : List Tok) (p : Nat) (i nx : Nat) (hi : i < nx) (hp : p < l.length) (hl : TokOK l) :
  RetX Tryz.prog 81 [.ptr i 0] [(i, pOb l p)] nx (PPost l i nx ziB (zdP l p)) := by
 have hne := zaB hi;have hll := hl.len;have hor := zfG;generalize hR : zdP l p = R;rw [zdP] at hR;have hh1 := fun nx' (h : nx <= nx') => zbk l p [111, 114, 100, 101, 114] i nx' (by omega) hp hl.len;by_cases c1 : isB l p [111, 114, 100, 101, 114] = true
 ·have g1 := zbd hl c1;rw [if_pos c1] at hR;simp only [c1, if_true] at hh1;have hix := fun nx' (h : nx <= nx') => zmv l (p + 1) ordersW i nx' (by omega) g1 hl;have hat : atW l (p + 1) ordersW = ordersW.findIdx? fun w => isB l (p + 1) w := rfl;rw [<- hat] at hR;obtain ⟨t, ht⟩ : ∃ t, l[p + 1]? = some t := ⟨_, List.getElem?_eq_getElem g1⟩;have hpa : zcR l (p + 1) = t.pos := by unfold zcR; rw [ht]
  rw [hpa] at hR;cases hj : atW l (p + 1) ordersW with
  | none =>
   have hc2 := fun e nx' (h : nx <= nx') => zcG l (p + 1) t e i nx' (by omega) ht hl.len;rw [hj] at hR hix;simp only [Option.isSome_none, Bool.false_eq_true, if_false] at hR hix
   (refine RetX.of_bodyW Tryz.func81 rfl (by simp) fun Γ hn hpan => ?_); simp only [entry, ziC, ziN, maC, maN, oA, Tryz.ntmps81]
   repeat' (first
  | ((first | refine zae ?_ | refine zaj ?_ | refine zah ?_ | refine zai ?_ | fail); simp [hne, del, nAA])
  | (refine zap ?_; simp only [zao])
  | (refine CallP.fE (hor) (by first | rfl | fail) (by first | simp [hne, del, nAA] <;> rfl | fail) ?_; (try simp [hne, del, nAA]))
  | (refine CallP.ok1 (hh1 _ (by first | omega | simp <;> omega | fail)) (by first | (simp [hne, del, nAA, zaa, getK, zab, zac]; done) | fail) (by rfl) (by rfl) ?_; (try simp [hne, del, nAA]))
  | (refine CallP.ok1 (hix _ (by first | omega | simp <;> omega | fail)) (by first | (simp [hne, del, nAA, zaa, getK, zab, zac]; done) | fail) (by rfl) (by rfl) ?_; (try simp [hne, del, nAA]))
  | (refine CallP.zei (hc2 _ _ (by first | omega | simp <;> omega | fail)) (by first | (simp [hne, del, nAA, zaa, getK, zab, zac]; done) | fail) (by rfl) (by first | assumption | (simp; done) | fail) (by rfl) (by simp) ?_; rintro ob' ⟨q', rfl⟩; refine ⟨_, Wk.refl _, ?_⟩)
  | fail)
   (refine hpan _ _ ⟨{ n := _, env := [], obs := [(i, pOb l q')], next := nx }, (Wk.cut rfl (by simp [hn]) (by simp [wkO, zaa, getK, zab, zac, Ob.under, D.under, zad, zag, hi, hne, zab, zac, zaa, getK]) (by simp [wkU, zan, zaa, getK, D.under, hi, hne, zab, zac, zaa, getK]) (by simp [wkE, zan, zaa, getK, hi, hne, zab, zac, zaa, getK])), by simp [hn], ?_⟩; try simp)
   exact PPost.zay hR.symm
  | some j =>
   have g2 : p + 1 + 1 < l.length := by
    unfold atW at hj;rw [List.findIdx?_eq_some_iff_getElem] at hj;obtain ⟨_, hb, _⟩ := hj;exact zbd hl hb
   have hj0 : (0 : Int) <= (j : Int) := by omega
   have hc1 := fun e nx' (h : nx <= nx') => zdF l (p + 1 + 1) e i nx' (by omega);rw [hj] at hR hix;simp only [Option.isSome_some, if_true] at hR hix
   (refine RetX.of_bodyW Tryz.func81 rfl (by simp) fun Γ hn hpan => ?_); simp only [entry, ziC, ziN, maC, maN, oA, Tryz.ntmps81]
   repeat' (first
  | ((first | refine zae ?_ | refine zaj ?_ | refine zah ?_ | refine zai ?_ | fail); simp [hne, del, nAA, hj0])
  | (refine zap ?_; simp only [zao])
  | (refine CallP.fE (hor) (by first | rfl | fail) (by first | simp [hne, del, nAA, hj0] <;> rfl | fail) ?_; (try simp [hne, del, nAA, hj0]))
  | (refine CallP.ok1 (hh1 _ (by first | omega | simp <;> omega | fail)) (by first | (simp [hne, del, nAA, hj0, zaa, getK, zab, zac]; done) | fail) (by rfl) (by rfl) ?_; (try simp [hne, del, nAA, hj0]))
  | (refine CallP.ok1 (hix _ (by first | omega | simp <;> omega | fail)) (by first | (simp [hne, del, nAA, hj0, zaa, getK, zab, zac]; done) | fail) (by rfl) (by rfl) ?_; (try simp [hne, del, nAA, hj0]))
  | (refine CallP.ok1 (hc1 _ _ (by first | omega | simp <;> omega | fail)) (by first | (simp [hne, del, nAA, hj0, zaa, getK, zab, zac]; done) | fail) (by rfl) (by rfl) ?_; (try simp [hne, del, nAA, hj0]))
  | (refine zas (by first | rfl | fail) ?_; simp [hne, del, nAA, hj0, frzN, frz1, zaA, zaz, St.frz, St.frzS, frzS, fv, zaF, zbb, zbe, zaE, zau, zal, del, frz, zbf])
  | fail)
   (refine CallP.pp (zeW hl [59] (q := p + 1 + 1) (i := i) (by first | omega | simp <;> omega | fail) g2) (by first | (simp [hi, hne, nAA, zaa, getK, zab, zac]; done) | fail) (by rfl) (by first | assumption | (simp; done) | fail) (by rfl) (by simp) (fun v2 q2 h2 => ?_) (fun pos e q' h2 => ⟨_, Wk.refl _, ?_⟩); rotate_left 1; (focus (rw [h2, PR.zaK] at hR; (refine hpan _ _ ⟨{ n := _, env := [], obs := [(i, pOb l q')], next := nx }, (Wk.cut rfl (by simp [hn]) (by simp [wkO, zaa, getK, zab, zac, Ob.under, D.under, zad, zag, hi, hne, nAA, zab, zac, zaa, getK]) (by simp [wkU, zan, zaa, getK, D.under, hi, hne, nAA, zab, zac, zaa, getK]) (by simp [wkE, zan, zaa, getK, hi, hne, nAA, zab, zac, zaa, getK])), by simp [hn], ?_⟩; try simp); exact PPost.zay hR.symm)); rw [h2, PR.zat] at hR; (try simp [hi, hne, nAA]))
   repeat' (first
  | ((first | refine zae ?_ | refine zaj ?_ | refine zah ?_ | fail); simp [hne, del])
  | (refine zaq ?_; simp only [zao])
  | fail)
   (refine EndW.here ?_; (first | (refine EndOK.fin (.inr rfl) ?_) | (refine EndOK.fin (.inl rfl) ?_)); simp [zaG, zaf, Tryz.results81, hne, hi]; refine FinOK.cut [(i, pOb l q2)] (nx) (by simp [zaa, getK, zab, zac, Ob.under, D.under, zad, zag, hne, hi] <;> omega) (by simp [D.under]) (by simp [hn]) ?_; try simp)
   exact PPost.zcm hR.symm rfl rfl
 ·rw [if_neg c1] at hR;simp only [c1, Bool.false_eq_true, if_false] at hh1
  (refine RetX.of_bodyW Tryz.func81 rfl (by simp) fun Γ hn hpan => ?_); simp only [entry, ziC, ziN, maC, maN, oA, Tryz.ntmps81]
  repeat' (first
  | ((first | refine zae ?_ | refine zaj ?_ | refine zah ?_ | refine zai ?_ | fail); simp [hne, del, nAA])
  | (refine zaq ?_; simp only [zao])
  | (refine CallP.ok1 (hh1 _ (by first | omega | simp <;> omega | fail)) (by first | (simp [hne, del, nAA, zaa, getK, zab, zac]; done) | fail) (by rfl) (by rfl) ?_; (try simp [hne, del, nAA]))
  | fail)
  (refine EndW.here ?_; (first | (refine EndOK.fin (.inr rfl) ?_) | (refine EndOK.fin (.inl rfl) ?_)); simp [zaG, zaf, Tryz.results81, hne, hi]; refine FinOK.cut [(i, pOb l p)] (nx) (by simp [zaa, getK, zab, zac, Ob.under, D.under, zad, zag, hne, hi] <;> omega) (by simp [D.under]) (by simp [hn]) ?_; try simp)
  exact PPost.zcm hR.symm rfl rfl
theorem zns {l : List Tok} (hl : TokOK l) {p q : Nat} {n : Int} (h : zdP l p = .ok n q) (hp : p < l.length) : p <= q /\ q < l.length := by
 unfold zdP at h;split at h
 ·split at h
  ·rename_i j hj;rw [List.findIdx?_eq_some_iff_getElem] at hj;obtain ⟨_, hb, _⟩ := hj;obtain ⟨_, r2, h2, h⟩ := PR.zaD h;have g2 := za2 hl _ h2 (zbd hl hb);cases h;exact ⟨by omega, g2.2⟩
  ·cases h
 ·cases h; exact ⟨by omega, hp⟩
theorem zjg (x : Let) (s : W8) : Fun Tryz.prog 82 (zn3 x :: [U.row [.str s] 0].map .u) (· = .u (.bool (decide (x.name = s)))) := by
 simp only [zn3, List.map_cons, List.map_nil]
 (refine Fun.of_body Tryz.func82 rfl (by simp) fun Γ hn => ?_); simp only [entry, ziC, ziN, maC, maN, oA, Tryz.ntmps82]
 repeat' (first
  | ((first | refine zae ?_ | refine zaj ?_ | refine zah ?_ | fail); simp)
  | (refine zaq ?_; simp only [zao])
  | fail)
 (refine EndOK.val (.inr rfl) ?_; simp [zaG, zaf, zar, Tryz.results82])
theorem zm8 (lets : List Let) (s : W8) : Fun Tryz.prog 67 [.u (zfd lets), .fnc (.func 82) [.u (.row [.str s] 0)]]
  (· = .u (.bool (lets.any fun x => decide (x.name = s)))) :=
 zfq lets 82 [U.row [.str s] 0] _ (fun x _ => zjg x s) (by simp) (fun _ => rfl) (fun _ => rfl)
theorem zmR (l : List Tok) (hl0 : 0 < l.length) (hl : TokOK l) (hl2 : l.length <= 2001) :
  RetX Tryz.prog 37 [.ptr 3 0] [(3, pOb l 0)] 4 (PPost l 3 4 byD (zoH l)) := by
 have hi : 3 < 4 := by decide
 have hne := zaB hi;have hll := hl.len;have htE : True := trivial;generalize hR : zoH l = R;rw [zoH] at hR
 (refine RetX.of_bodyW Tryz.func37 rfl (by simp) fun Γ hn hpan => ?_); simp only [entry, ziC, ziN, maC, maN, oA, Tryz.ntmps37]
 repeat' (first
  | ((first | refine zae ?_ | refine zaj ?_ | refine zah ?_ | fail); simp [hne])
  | fail)
 (refine CallP.pp (zpe l 0 3 _ (by first | omega | simp <;> omega | fail) hl0 hl) (by first | (simp [hi, hne, del, htE, zaa, getK, zab, zac]; done) | fail) (by rfl) (by first | assumption | (simp; done) | fail) (by rfl) (by simp) (fun kb q1 h1 => ?_) (fun pos e q' h1 => ⟨_, Wk.refl _, ?_⟩); rotate_left 1; (focus (rw [h1, PR.zaK] at hR; (refine hpan _ _ ⟨{ n := _, env := [], obs := [(3, pOb l q')], next := 4 }, (Wk.cut rfl (by simp [hn]) (by simp [wkO, zaa, getK, zab, zac, Ob.under, D.under, zad, zag, hi, hne, del, htE, zab, zac, zaa, getK]) (by simp [wkU, zan, zaa, getK, D.under, hi, hne, del, htE, zab, zac, zaa, getK]) (by simp [wkE, zan, zaa, getK, hi, hne, del, htE, zab, zac, zaa, getK])), by simp [hn], ?_⟩; try simp); exact PPost.zay hR.symm)); rw [h1, PR.zat] at hR; (try simp [hi, hne, del, htE]))
 obtain ⟨_, g1⟩ := zpg hl h1 hl0;have hm := zed l q1 [112, 101, 114, 105, 111, 100] g1 hl.len
 repeat' (first
  | ((first | refine zae ?_ | refine zaj ?_ | refine zah ?_ | fail); simp [hne, del])
  | (refine CallP.fE (hm) (by first | rfl | fail) (by first | simp [hne, del] <;> rfl | fail) ?_; (try simp [hne, del]))
  | fail)
 (refine CallP.pp (zlf l q1 [112, 101, 114, 105, 111, 100] 3 _ (by first | omega | simp <;> omega | fail) g1 hl) (by first | (simp [hi, hne, del, htE, zaa, getK, zab, zac]; done) | fail) (by rfl) (by first | assumption | (simp; done) | fail) (by rfl) (by simp) (fun u2 q2 h2 => ?_) (fun pos e q' h2 => ⟨_, Wk.refl _, ?_⟩); rotate_left 1; (focus (rw [h2, PR.zaK] at hR; (refine hpan _ _ ⟨{ n := _, env := [], obs := [(3, pOb l q')], next := 4 }, (Wk.cut rfl (by simp [hn]) (by simp [wkO, zaa, getK, zab, zac, Ob.under, D.under, zad, zag, hi, hne, del, htE, zab, zac, zaa, getK]) (by simp [wkU, zan, zaa, getK, D.under, hi, hne, del, htE, zab, zac, zaa, getK]) (by simp [wkE, zan, zaa, getK, hi, hne, del, htE, zab, zac, zaa, getK])), by simp [hn], ?_⟩; try simp); exact PPost.zay hR.symm)); rw [h2, PR.zat] at hR; (try simp [hi, hne, del, htE]))
 obtain ⟨rfl, _⟩ := znF h2
 repeat' (first
  | ((first | refine zae ?_ | refine zaj ?_ | refine zah ?_ | fail); simp [hne, del])
  | (refine zas (by first | rfl | fail) ?_; simp [hne, del, frzN, frz1, zaA, zaz, St.frz, St.frzS, frzS, fv, zaF, zbb, zbe, zaE, zau, zal, del, frz, zbf])
  | fail)
 (refine CallP.pp (zdC l q2 [112, 101, 114, 105, 111, 100] 1 1000 [[100, 97, 121, 115], [59]] 3 _ (by first | omega | simp <;> omega | fail) g1 hl (by simp)) (by first | (simp [hi, hne, del, htE, zaa, getK, zab, zac]; done) | fail) (by rfl) (by first | assumption | (simp; done) | fail) (by rfl) (by simp) (fun period q3 h3 => ?_) (fun pos e q' h3 => ⟨_, Wk.refl _, ?_⟩); rotate_left 1; (focus (rw [h3, PR.zaK] at hR; (refine hpan _ _ ⟨{ n := _, env := [], obs := [(3, pOb l q')], next := 4 }, (Wk.cut rfl (by simp [hn]) (by simp [wkO, zaa, getK, zab, zac, Ob.under, D.under, zad, zag, hi, hne, del, htE, zab, zac, zaa, getK]) (by simp [wkU, zan, zaa, getK, D.under, hi, hne, del, htE, zab, zac, zaa, getK]) (by simp [wkE, zan, zaa, getK, hi, hne, del, htE, zab, zac, zaa, getK])), by simp [hn], ?_⟩; try simp); exact PPost.zay hR.symm)); rw [h3, PR.zat] at hR; (try simp [hi, hne, del, htE]))
 obtain ⟨_, g3⟩ := zdD hl h3 g1
 repeat' (first
  | ((first | refine zae ?_ | refine zaj ?_ | refine zah ?_ | fail); simp [hne, del])
  | fail)
 have hm := zed l q3 [108, 97, 115, 116] g3 hl.len
 repeat' (first
  | (refine zae ?_; simp [hne, del])
  | (refine CallP.fE (hm) (by first | rfl | fail) (by first | simp [hne, del] <;> rfl | fail) ?_; (try simp [hne, del]))
  | fail)
 (refine CallP.pp (zlf l q3 [108, 97, 115, 116] 3 _ (by first | omega | simp <;> omega | fail) g3 hl) (by first | (simp [hi, hne, del, htE, zaa, getK, zab, zac]; done) | fail) (by rfl) (by first | assumption | (simp; done) | fail) (by rfl) (by simp) (fun u4 q4 h4 => ?_) (fun pos e q' h4 => ⟨_, Wk.refl _, ?_⟩); rotate_left 1; (focus (rw [h4, PR.zaK] at hR; (refine hpan _ _ ⟨{ n := _, env := [], obs := [(3, pOb l q')], next := 4 }, (Wk.cut rfl (by simp [hn]) (by simp [wkO, zaa, getK, zab, zac, Ob.under, D.under, zad, zag, hi, hne, del, htE, zab, zac, zaa, getK]) (by simp [wkU, zan, zaa, getK, D.under, hi, hne, del, htE, zab, zac, zaa, getK]) (by simp [wkE, zan, zaa, getK, hi, hne, del, htE, zab, zac, zaa, getK])), by simp [hn], ?_⟩; try simp); exact PPost.zay hR.symm)); rw [h4, PR.zat] at hR; (try simp [hi, hne, del, htE]))
 obtain ⟨rfl, _⟩ := znF h4
 repeat' (first
  | ((first | refine zae ?_ | refine zaj ?_ | refine zah ?_ | fail); simp [hne, del])
  | (refine zas (by first | rfl | fail) ?_; simp [hne, del, frzN, frz1, zaA, zaz, St.frz, St.frzS, frzS, fv, zaF, zbb, zbe, zaE, zau, zal, del, frz, zbf])
  | fail)
 (refine CallP.pp (zdC l q4 [108, 97, 115, 116] 1 1000 [[59]] 3 _ (by first | omega | simp <;> omega | fail) g3 hl (by simp)) (by first | (simp [hi, hne, del, htE, zaa, getK, zab, zac]; done) | fail) (by rfl) (by first | assumption | (simp; done) | fail) (by rfl) (by simp) (fun last q5 h5 => ?_) (fun pos e q' h5 => ⟨_, Wk.refl _, ?_⟩); rotate_left 1; (focus (rw [h5, PR.zaK] at hR; (refine hpan _ _ ⟨{ n := _, env := [], obs := [(3, pOb l q')], next := 4 }, (Wk.cut rfl (by simp [hn]) (by simp [wkO, zaa, getK, zab, zac, Ob.under, D.under, zad, zag, hi, hne, del, htE, zab, zac, zaa, getK]) (by simp [wkU, zan, zaa, getK, D.under, hi, hne, del, htE, zab, zac, zaa, getK]) (by simp [wkE, zan, zaa, getK, hi, hne, del, htE, zab, zac, zaa, getK])), by simp [hn], ?_⟩; try simp); exact PPost.zay hR.symm)); rw [h5, PR.zat] at hR; (try simp [hi, hne, del, htE]))
 obtain ⟨_, g5⟩ := zdD hl h5 g3
 repeat' (first
  | ((first | refine zae ?_ | refine zaj ?_ | refine zah ?_ | fail); simp [hne, del])
  | (refine zas (by first | rfl | fail) ?_; simp [hne, del, frzN, frz1, zaA, zaz, St.frz, St.frzS, frzS, fv, zaF, zbb, zbe, zaE, zau, zal, del, frz, zbf])
  | fail)
 (refine CallP.pp (zdC l q5 [103, 114, 97, 99, 101] 0 1000 [[100, 97, 121, 115], [59]] 3 _ (by first | omega | simp <;> omega | fail) g5 hl (by simp)) (by first | (simp [hi, hne, del, htE, zaa, getK, zab, zac]; done) | fail) (by rfl) (by first | assumption | (simp; done) | fail) (by rfl) (by simp) (fun grace q6 h6 => ?_) (fun pos e q' h6 => ⟨_, Wk.refl _, ?_⟩); rotate_left 1; (focus (rw [h6, PR.zaK] at hR; (refine hpan _ _ ⟨{ n := _, env := [], obs := [(3, pOb l q')], next := 4 }, (Wk.cut rfl (by simp [hn]) (by simp [wkO, zaa, getK, zab, zac, Ob.under, D.under, zad, zag, hi, hne, del, htE, zab, zac, zaa, getK]) (by simp [wkU, zan, zaa, getK, D.under, hi, hne, del, htE, zab, zac, zaa, getK]) (by simp [wkE, zan, zaa, getK, hi, hne, del, htE, zab, zac, zaa, getK])), by simp [hn], ?_⟩; try simp); exact PPost.zay hR.symm)); rw [h6, PR.zat] at hR; (try simp [hi, hne, del, htE]))
 obtain ⟨_, g6⟩ := zdD hl h6 g5
 repeat' (first
  | ((first | refine zae ?_ | refine zaj ?_ | refine zah ?_ | fail); simp [hne, del])
  | (refine zas (by first | rfl | fail) ?_; simp [hne, del, frzN, frz1, zaA, zaz, St.frz, St.frzS, frzS, fv, zaF, zbb, zbe, zaE, zau, zal, del, frz, zbf])
  | fail)
 (refine CallP.pp (zdC l q6 [119, 97, 105, 116] 0 1000 [[100, 97, 121, 115], [59]] 3 _ (by first | omega | simp <;> omega | fail) g6 hl (by simp)) (by first | (simp [hi, hne, del, htE, zaa, getK, zab, zac]; done) | fail) (by rfl) (by first | assumption | (simp; done) | fail) (by rfl) (by simp) (fun wait q7 h7 => ?_) (fun pos e q' h7 => ⟨_, Wk.refl _, ?_⟩); rotate_left 1; (focus (rw [h7, PR.zaK] at hR; (refine hpan _ _ ⟨{ n := _, env := [], obs := [(3, pOb l q')], next := 4 }, (Wk.cut rfl (by simp [hn]) (by simp [wkO, zaa, getK, zab, zac, Ob.under, D.under, zad, zag, hi, hne, del, htE, zab, zac, zaa, getK]) (by simp [wkU, zan, zaa, getK, D.under, hi, hne, del, htE, zab, zac, zaa, getK]) (by simp [wkE, zan, zaa, getK, hi, hne, del, htE, zab, zac, zaa, getK])), by simp [hn], ?_⟩; try simp); exact PPost.zay hR.symm)); rw [h7, PR.zat] at hR; (try simp [hi, hne, del, htE]))
 obtain ⟨_, g7⟩ := zdD hl h7 g6
 repeat' (first
  | ((first | refine zae ?_ | refine zaj ?_ | refine zah ?_ | fail); simp [hne, del])
  | fail)
 (refine CallP.pp (znr l q7 3 _ (by first | omega | simp <;> omega | fail) g7 hl) (by first | (simp [hi, hne, del, htE, zaa, getK, zab, zac]; done) | fail) (by rfl) (by first | assumption | (simp; done) | fail) (by rfl) (by simp) (fun order q8 h8 => ?_) (fun pos e q' h8 => ⟨_, Wk.refl _, ?_⟩); rotate_left 1; (focus (rw [h8, PR.zaK] at hR; (refine hpan _ _ ⟨{ n := _, env := [], obs := [(3, pOb l q')], next := 4 }, (Wk.cut rfl (by simp [hn]) (by simp [wkO, zaa, getK, zab, zac, Ob.under, D.under, zad, zag, hi, hne, del, htE, zab, zac, zaa, getK]) (by simp [wkU, zan, zaa, getK, D.under, hi, hne, del, htE, zab, zac, zaa, getK]) (by simp [wkE, zan, zaa, getK, hi, hne, del, htE, zab, zac, zaa, getK])), by simp [hn], ?_⟩; try simp); exact PPost.zay hR.symm)); rw [h8, PR.zat] at hR; (try simp [hi, hne, del, htE]))
 obtain ⟨_, g8⟩ := zns hl h8 g7
 repeat' (first
  | ((first | refine zae ?_ | refine zaj ?_ | refine zah ?_ | fail); simp [hne, del])
  | (refine zas (by first | rfl | fail) ?_; simp [hne, del, frzN, frz1, zaA, zaz, St.frz, St.frzS, frzS, fv, zaF, zbb, zbe, zaE, zau, zal, del, frz, zbf])
  | fail)
 (refine CallP.pp (zdC l q8 [98, 97, 99, 107, 115] 0 60 [[59]] 3 _ (by first | omega | simp <;> omega | fail) g8 hl (by simp)) (by first | (simp [hi, hne, del, htE, zaa, getK, zab, zac]; done) | fail) (by rfl) (by first | assumption | (simp; done) | fail) (by rfl) (by simp) (fun backs q9 h9 => ?_) (fun pos e q' h9 => ⟨_, Wk.refl _, ?_⟩); rotate_left 1; (focus (rw [h9, PR.zaK] at hR; (refine hpan _ _ ⟨{ n := _, env := [], obs := [(3, pOb l q')], next := 4 }, (Wk.cut rfl (by simp [hn]) (by simp [wkO, zaa, getK, zab, zac, Ob.under, D.under, zad, zag, hi, hne, del, htE, zab, zac, zaa, getK]) (by simp [wkU, zan, zaa, getK, D.under, hi, hne, del, htE, zab, zac, zaa, getK]) (by simp [wkE, zan, zaa, getK, hi, hne, del, htE, zab, zac, zaa, getK])), by simp [hn], ?_⟩; try simp); exact PPost.zay hR.symm)); rw [h9, PR.zat] at hR; (try simp [hi, hne, del, htE]))
 obtain ⟨_, g9⟩ := zdD hl h9 g8
 repeat' (first
  | ((first | refine zae ?_ | refine zaj ?_ | refine zah ?_ | fail); simp [hne, del])
  | (refine zas (by first | rfl | fail) ?_; simp [hne, del, frzN, frz1, zaA, zaz, St.frz, St.frzS, frzS, fv, zaF, zbb, zbe, zaE, zau, zal, del, frz, zbf])
  | fail)
 (refine CallP.pp (zdC l q9 [118, 111, 105, 99, 101, 115] 0 1000 [[112, 101, 114], [109, 105, 108, 108, 101], [59]] 3 _ (by first | omega | simp <;> omega | fail) g9 hl (by simp)) (by first | (simp [hi, hne, del, htE, zaa, getK, zab, zac]; done) | fail) (by rfl) (by first | assumption | (simp; done) | fail) (by rfl) (by simp) (fun voices q10 h10 => ?_) (fun pos e q' h10 => ⟨_, Wk.refl _, ?_⟩); rotate_left 1; (focus (rw [h10, PR.zaK] at hR; (refine hpan _ _ ⟨{ n := _, env := [], obs := [(3, pOb l q')], next := 4 }, (Wk.cut rfl (by simp [hn]) (by simp [wkO, zaa, getK, zab, zac, Ob.under, D.under, zad, zag, hi, hne, del, htE, zab, zac, zaa, getK]) (by simp [wkU, zan, zaa, getK, D.under, hi, hne, del, htE, zab, zac, zaa, getK]) (by simp [wkE, zan, zaa, getK, hi, hne, del, htE, zab, zac, zaa, getK])), by simp [hn], ?_⟩; try simp); exact PPost.zay hR.symm)); rw [h10, PR.zat] at hR; (try simp [hi, hne, del, htE]))
 obtain ⟨_, g10⟩ := zdD hl h10 g9
 repeat' (first
  | ((first | refine zae ?_ | refine zaj ?_ | refine zah ?_ | fail); simp [hne, del])
  | (refine zas (by first | rfl | fail) ?_; simp [hne, del, frzN, frz1, zaA, zaz, St.frz, St.frzS, frzS, fv, zaF, zbb, zbe, zaE, zau, zal, del, frz, zbf])
  | fail)
 (refine CallP.pp (zdC l q10 [106, 117, 114, 121] 0 60 [[59]] 3 _ (by first | omega | simp <;> omega | fail) g10 hl (by simp)) (by first | (simp [hi, hne, del, htE, zaa, getK, zab, zac]; done) | fail) (by rfl) (by first | assumption | (simp; done) | fail) (by rfl) (by simp) (fun jury q11 h11 => ?_) (fun pos e q' h11 => ⟨_, Wk.refl _, ?_⟩); rotate_left 1; (focus (rw [h11, PR.zaK] at hR; (refine hpan _ _ ⟨{ n := _, env := [], obs := [(3, pOb l q')], next := 4 }, (Wk.cut rfl (by simp [hn]) (by simp [wkO, zaa, getK, zab, zac, Ob.under, D.under, zad, zag, hi, hne, del, htE, zab, zac, zaa, getK]) (by simp [wkU, zan, zaa, getK, D.under, hi, hne, del, htE, zab, zac, zaa, getK]) (by simp [wkE, zan, zaa, getK, hi, hne, del, htE, zab, zac, zaa, getK])), by simp [hn], ?_⟩; try simp); exact PPost.zay hR.symm)); rw [h11, PR.zat] at hR; (try simp [hi, hne, del, htE]))
 obtain ⟨_, g11⟩ := zdD hl h11 g10
 repeat' (first
  | ((first | refine zae ?_ | refine zaj ?_ | refine zah ?_ | fail); simp [hne, del])
  | (refine zas (by first | rfl | fail) ?_; simp [hne, del, frzN, frz1, zaA, zaz, St.frz, St.frzS, frzS, fv, zaF, zbb, zbe, zaE, zau, zal, del, frz, zbf])
  | fail)
 (refine CallP.pp (zdC l q11 [102, 117, 110, 100] 0 1000 [[112, 101, 114], [109, 105, 108, 108, 101], [59]] 3 _ (by first | omega | simp <;> omega | fail) g11 hl (by simp)) (by first | (simp [hi, hne, del, htE, zaa, getK, zab, zac]; done) | fail) (by rfl) (by first | assumption | (simp; done) | fail) (by rfl) (by simp) (fun fund q12 h12 => ?_) (fun pos e q' h12 => ⟨_, Wk.refl _, ?_⟩); rotate_left 1; (focus (rw [h12, PR.zaK] at hR; (refine hpan _ _ ⟨{ n := _, env := [], obs := [(3, pOb l q')], next := 4 }, (Wk.cut rfl (by simp [hn]) (by simp [wkO, zaa, getK, zab, zac, Ob.under, D.under, zad, zag, hi, hne, del, htE, zab, zac, zaa, getK]) (by simp [wkU, zan, zaa, getK, D.under, hi, hne, del, htE, zab, zac, zaa, getK]) (by simp [wkE, zan, zaa, getK, hi, hne, del, htE, zab, zac, zaa, getK])), by simp [hn], ?_⟩; try simp); exact PPost.zay hR.symm)); rw [h12, PR.zat] at hR; (try simp [hi, hne, del, htE]))
 obtain ⟨_, g12⟩ := zdD hl h12 g11
 repeat' (first
  | ((first | refine zae ?_ | refine zaj ?_ | refine zah ?_ | fail); simp [hne, del])
  | fail)
 refine zgw _ (Wk.ownC 5 _ 11 45 6 (by decide) rfl rfl) ?_;simp [St.ownC];refine zdL (α := { x : Nat × List Let × Nat // x.1 < l.length /\ x.2.1.length + x.2.2 = 21 /\ x.2.1.length <= 20 /\ zfL l 21 q12 [] = zfL l x.2.2 x.1 x.2.1 }) [0, 2, 3] (fun x => [])
  (fun x => [(5, .box [.u (.int .i64 kb.1), .u (.int .i64 period), .u (.int .i64 grace), .u (.int .i64 wait), .u (.int .i64 last), .u (.int .i64 order), .u (.bool kb.2), .u (.int .i64 backs), .u (.int .i64 voices), .u (.int .i64 jury), .u (.int .i64 fund), .vec 14 x.1.2.1.length, .u (.int .i64 0), .u (.int .i64 0), .u (.int .i64 0), .u (.str []), .u .nil, .u (.int .i64 0), .u (.int .i64 0), .u (.int .i64 0), .u (.str []), .u .nil, .u (.int .i64 0), .u (.int .i64 0), .u (.int .i64 0), .u (.str []), .u .nil, .u (.int .i64 0), .u (.int .i64 0), .u (.int .i64 0), .u (.str []), .u .nil, .u (.int .i64 0), .u (.int .i64 0), .u (.int .i64 0), .u (.str []), .u .nil]), (14, .vec 45 6 (rowsD (zgi x.1.2.1))), (4, .box [.u (.int .i64 0), .u (.int .i64 0), .u (.int .i64 0), .u (.int .i64 0), .u (.int .i64 0), .u (.int .i64 0), .u (.bool false), .u (.int .i64 0), .u (.int .i64 0), .u (.int .i64 0), .u (.int .i64 0), .u .nil, .u (.int .i64 0), .u (.int .i64 0), .u (.int .i64 0), .u (.str []), .u .nil, .u (.int .i64 0), .u (.int .i64 0), .u (.int .i64 0), .u (.str []), .u .nil, .u (.int .i64 0), .u (.int .i64 0), .u (.int .i64 0), .u (.str []), .u .nil, .u (.int .i64 0), .u (.int .i64 0), .u (.int .i64 0), .u (.str []), .u .nil, .u (.int .i64 0), .u (.int .i64 0), .u (.int .i64 0), .u (.str []), .u .nil]), (3, pOb l x.1.1)]) 15 (fun x => x.1.2.2) ⟨(q12, [], 21), g12, rfl, by simp, rfl⟩ ?_ ?_
 ·exact (Wk.cut rfl (by simp [hn, St.lp]) (by simp [wkO, St.lp, zaa, getK, Ob.under, D.under, zad, zag, zgi]) (by simp [wkU, St.lp, zan, zaa, getK, D.under, zgi]) (by simp [wkE, St.lp, zan, zaa, getK, zgi] <;> (try (intros; simp_all; done)) <;> (try (intros; omega)) <;> (try grind)))
 rintro ⟨⟨q, acc, g⟩, gq, hg, hg2, hS⟩;simp only at gq hg hg2 hS;simp [St.lp, St.only, zan, zaa, getK];have hm := zed l q [108, 101, 116] gq hl.len;have hAl := znS acc;have hsn := zmo acc;generalize hA : zgi acc = A at *;have htk : A.take acc.length = A := List.take_of_length_le (by omega);obtain ⟨g, rfl⟩ : ∃ g', g = g' + 1 := ⟨g - 1, by omega⟩;by_cases hb : isB l q [108, 101, 116] = true
 ·have g1q := zbd hl hb;obtain ⟨t, ht⟩ : ∃ t, l[q + 1]? = some t := ⟨_, List.getElem?_eq_getElem g1q⟩;have hnx := zbW l (q + 1) t ht hl.len;rw [zmn ht, if_pos hb] at hS;rw [hS, PR.zdX] at hR;rw [hb] at hm
  repeat' (first
  | ((first | refine zae ?_ | refine zaj ?_ | refine zah ?_ | refine zai ?_ | refine zaw ?_ | fail); simp [hne, del, hAl])
  | (refine zap ?_; simp only [zao])
  | (refine CallP.fE (hm) (by first | rfl | fail) (by first | simp [hne, del, hAl] <;> rfl | fail) ?_; (try simp [hne, del, hAl]))
  | fail)
  (refine CallP.pp (zhj l q (decide ((acc.length : Int) < 20)) 6 3 _ (by first | omega | simp <;> omega | fail) gq hl) (by first | (simp [hi, hne, del, zaa, getK, zab, zac]; done) | fail) (by rfl) (by first | assumption | (simp; done) | fail) (by rfl) (by simp) (fun u20 q20 h20 => ?_) (fun pos e q' h20 => ⟨_, Wk.refl _, ?_⟩); rotate_left 1; (focus (rw [h20, PR.zaK] at hR; (refine hpan _ _ ⟨{ n := _, env := [], obs := [(3, pOb l q')], next := 4 }, (Wk.cut rfl (by simp [hn]) (by simp [wkO, zaa, getK, zab, zac, Ob.under, D.under, zad, zag, hi, hne, del, zab, zac, zaa, getK]) (by simp [wkU, zan, zaa, getK, D.under, hi, hne, del, zab, zac, zaa, getK]) (by simp [wkE, zan, zaa, getK, hi, hne, del, zab, zac, zaa, getK])), by simp [hn], ?_⟩; try simp); exact PPost.zay hR.symm)); rw [h20, PR.zat] at hR; (try simp [hi, hne, del]))
  obtain ⟨rfl, hlt⟩ := zop h20;rw [h20, PR.zat] at hS;rw [PR.zdX] at hR;by_cases hw : t.kind = 1
  case neg =>
   have hc2 := fun e nx' (h : 15 <= nx') => zcG l (q20 + 1) t e 3 nx' (by omega) ht hl.len;have e3 : zmW l (q20 + 1) (decide (t.kind = 1) && zbO t.text) 12 = .stop t.pos 12 := by
    unfold zmW zcR; rw [ht]; simp [hw]
   rw [e3, PR.zaK] at hR
   repeat' (first
  | ((first | refine zae ?_ | refine zaj ?_ | fail); simp [hne, del, hw])
  | (refine ⟨by omega, ?_⟩)
  | (refine zah ?_; simp [hne, del, hw])
  | (refine CallP.fE (hnx) (by first | rfl | fail) (by first | simp [hne, del, hw] <;> rfl | fail) ?_; (try simp [hne, del, hw]))
  | (refine CallP.zei (hc2 _ _ (by first | omega | simp <;> omega | fail)) (by first | (simp [hne, del, hw, zaa, getK, zab, zac]; done) | fail) (by rfl) (by first | assumption | (simp; done) | fail) (by rfl) (by simp) ?_; rintro ob' ⟨q', rfl⟩; refine ⟨_, Wk.refl _, ?_⟩)
  | fail)
   (refine hpan _ _ ⟨{ n := _, env := [], obs := [(3, pOb l q')], next := 4 }, (Wk.cut rfl (by simp [hn]) (by simp [wkO, zaa, getK, zab, zac, Ob.under, D.under, zad, zag, hi, hne, zab, zac, zaa, getK]) (by simp [wkU, zan, zaa, getK, D.under, hi, hne, zab, zac, zaa, getK]) (by simp [wkE, zan, zaa, getK, hi, hne, zab, zac, zaa, getK])), by simp [hn], ?_⟩; try simp)
   exact PPost.zay hR.symm
  have hnm := zeB t.text;have e3 : (decide (t.kind = 1) && zbO t.text) = zbO t.text := by simp [hw]
  rw [e3] at hR hS;generalize zbO t.text = nb at hnm hR hS
  repeat' (first
  | ((first | refine zae ?_ | refine zaj ?_ | fail); simp [hne, del, hw])
  | (refine ⟨by omega, ?_⟩)
  | (refine zah ?_; simp [hne, del, hw])
  | (refine CallP.fE (hnx) (by first | rfl | fail) (by first | simp [hne, del, hw] <;> rfl | fail) ?_; (try simp [hne, del, hw]))
  | (refine CallP.fE (hnm) (by first | rfl | fail) (by first | simp [hne, del, hw] <;> rfl | fail) ?_; (try simp [hne, del, hw]))
  | fail)
  (refine CallP.pp (zhj l (q20 + 1) nb 12 3 _ (by first | omega | simp <;> omega | fail) g1q hl) (by first | (simp [hi, hne, del, zaa, getK, zab, zac]; done) | fail) (by rfl) (by first | assumption | (simp; done) | fail) (by rfl) (by simp) (fun u21 q21 h21 => ?_) (fun pos e q' h21 => ⟨_, Wk.refl _, ?_⟩); rotate_left 1; (focus (rw [h21, PR.zaK] at hR; (refine hpan _ _ ⟨{ n := _, env := [], obs := [(3, pOb l q')], next := 4 }, (Wk.cut rfl (by simp [hn]) (by simp [wkO, zaa, getK, zab, zac, Ob.under, D.under, zad, zag, hi, hne, del, zab, zac, zaa, getK]) (by simp [wkU, zan, zaa, getK, D.under, hi, hne, del, zab, zac, zaa, getK]) (by simp [wkE, zan, zaa, getK, hi, hne, del, zab, zac, zaa, getK])), by simp [hn], ?_⟩; try simp); exact PPost.zay hR.symm)); rw [h21, PR.zat] at hR; (try simp [hi, hne, del]))
  obtain ⟨rfl, hnb⟩ := zop h21;rw [h21, PR.zat] at hS;rw [PR.zdX] at hR;have htw := zm8 acc t.text;have htw : Fun Tryz.prog 67 [.u (.sl (zgi acc)), .fnc (.func 82) [.u (.row [.str t.text] 0)]] (· = .u (.bool (acc.any fun x => decide (x.name = t.text)))) := htw;rw [hA] at htw;generalize (acc.any fun x => decide (x.name = t.text)) = tb at htw hR hS
  repeat' (first
  | ((first | refine zae ?_ | refine zaj ?_ | refine zah ?_ | fail); simp [hne, del, hw, htk, hAl])
  | (refine CallP.fE (htw) (by first | rfl | fail) (by first | simp [hne, del, hw, htk, hAl] <;> rfl | fail) ?_; (try simp [hne, del, hw, htk, hAl]))
  | fail)
  (refine CallP.pp (zhj l (q20 + 1) (!tb) 5 3 _ (by first | omega | simp <;> omega | fail) g1q hl) (by first | (simp [hi, hne, del, zaa, getK, zab, zac]; done) | fail) (by rfl) (by first | assumption | (simp; done) | fail) (by rfl) (by simp) (fun u22 q22 h22 => ?_) (fun pos e q' h22 => ⟨_, Wk.refl _, ?_⟩); rotate_left 1; (focus (rw [h22, PR.zaK] at hR; (refine hpan _ _ ⟨{ n := _, env := [], obs := [(3, pOb l q')], next := 4 }, (Wk.cut rfl (by simp [hn]) (by simp [wkO, zaa, getK, zab, zac, Ob.under, D.under, zad, zag, hi, hne, del, zab, zac, zaa, getK]) (by simp [wkU, zan, zaa, getK, D.under, hi, hne, del, zab, zac, zaa, getK]) (by simp [wkE, zan, zaa, getK, hi, hne, del, zab, zac, zaa, getK])), by simp [hn], ?_⟩; try simp); exact PPost.zay hR.symm)); rw [h22, PR.zat] at hR; (try simp [hi, hne, del]))
  obtain ⟨rfl, htb⟩ := zop h22;rw [h22, PR.zat] at hS;rw [PR.zdX] at hR;have g2q := hl.fin (q20 + 1) t ht (by omega)
  repeat' (first
  | ((first | refine zae ?_ | refine zaj ?_ | fail); simp [hne, del])
  | (refine ⟨by omega, ?_⟩)
  | (refine zah ?_; simp [hne, del])
  | (refine zas (by first | rfl | fail) ?_; simp [hne, del, frzN, frz1, zaA, zaz, St.frz, St.frzS, frzS, fv, zaF, zbb, zbe, zaE, zau, zal, del, frz, zbf])
  | fail)
  (refine CallP.pp (zeW hl [61] (q := q20 + 1 + 1) (i := 3) (by first | omega | simp <;> omega | fail) g2q) (by first | (simp [hi, hne, del, zaa, getK, zab, zac]; done) | fail) (by rfl) (by first | assumption | (simp; done) | fail) (by rfl) (by simp) (fun u23 q23 h23 => ?_) (fun pos e q' h23 => ⟨_, Wk.refl _, ?_⟩); rotate_left 1; (focus (rw [h23, PR.zaK] at hR; (refine hpan _ _ ⟨{ n := _, env := [], obs := [(3, pOb l q')], next := 4 }, (Wk.cut rfl (by simp [hn]) (by simp [wkO, zaa, getK, zab, zac, Ob.under, D.under, zad, zag, hi, hne, del, zab, zac, zaa, getK]) (by simp [wkU, zan, zaa, getK, D.under, hi, hne, del, zab, zac, zaa, getK]) (by simp [wkE, zan, zaa, getK, hi, hne, del, zab, zac, zaa, getK])), by simp [hn], ?_⟩; try simp); exact PPost.zay hR.symm)); rw [h23, PR.zat] at hR; (try simp [hi, hne, del]))
  obtain ⟨_, g23⟩ := za2 hl _ h23 g2q;rw [h23, PR.zat] at hS;rw [PR.zdX] at hR;have hwh := fun nx' (h : 15 <= nx') => zgy l q23 3 nx' (by omega) g23 hl hl2;cases hr : zdz l q23 with
  | stop pos e =>
   rw [hr, PR.zaK] at hR;simp only [hr] at hwh
   repeat' (first
  | (refine zfy (fun nx' h' => hwh nx' (by simp at h'; omega)) (by first | (simp [hne, del, htk, hAl, zaa, getK, zab, zac, zak, zaJ]; done) | fail) (by rfl) (by first | assumption | simp) (by rfl) (by simp) ?_ ?_; rintro env' ob' n' hn' ⟨q', rfl⟩; refine ⟨_, Wk.refl _, ?_⟩)
  | (refine zez rfl (by simp) ?_; simp)
  | ((first | refine zaU rfl ?_ | refine zaj ?_ | fail); simp [hne, del, htk, hAl])
  | (refine zfz (hC _ (by kernel_rfl)) rfl; done)
  | (refine za9 rfl (by kernel_rfl) (by first | (simp [hn]; done) | (simp [hn]; omega) | fail) fun C k hC hk => ?_; simp [hne, del, htk, hAl])
  | fail)
   (refine hpan _ _ ⟨{ n := _, env := [], obs := [(3, pOb l q')], next := 4 }, (Wk.cut rfl (by simp [hn]) (by simp [wkO, zaa, getK, zab, zac, Ob.under, D.under, zad, zag, hi, hne, zab, zac, zaa, getK]) (by simp [wkU, zan, zaa, getK, D.under, hi, hne, zab, zac, zaa, getK]) (by simp [wkE, zan, zaa, getK, hi, hne, zab, zac, zaa, getK])), by simp [hn], ?_⟩; try simp)
   exact PPost.zay hR.symm
  | ok e r =>
   have hwh := fun nx' h => zde (hwh nx' h) hr;obtain ⟨_, g24⟩ := zgB hl hr g23;rw [hr, PR.zat] at hS
   repeat' (first
  | (refine zhq (fun nx' h' => hwh nx' (by simp at h'; omega)) (by first | (simp [hne, del, htk, hAl, zaa, getK, zab, zac, zak, zaJ]; done) | fail) (by rfl) (by first | assumption | simp) (by rfl) (by simp [D.under, Ob.under]) (by simp) ?_; (try simp [hne, del, htk, hAl]))
  | ((first | refine zaU rfl ?_ | refine zbJ rfl ?_ | refine zaj ?_ | fail); simp [hne, del, htk, hAl])
  | (refine ⟨by omega, ?_⟩)
  | (refine za8 (hC _ (by kernel_rfl)) (hk _ ?_); clear hC hk C k; simp only [zao])
  | (refine za9 rfl (by kernel_rfl) (by first | (simp [hn]; done) | (simp [hn]; omega) | fail) fun C k hC hk => ?_; simp [hne, del, htk, hAl])
  | fail)
   have hlt' : acc.length < 20 := by have := of_decide_eq_true hlt; omega
   refine LoopW.next ⟨(r, acc ++ [⟨t.text, e⟩], g), g24, (by simp; omega), (by simp; omega), hS⟩ (by simp) ?_
   exact (Wk.ren ((fun j => if j = 14 then 18 else j)) rfl (by first | (simp [hn]; done) | (intro i hi; rw [hn] at hi; constructor <;> (try simp) <;> (try (intro _)) <;> omega)) (by simp [zge, St.lp, zan, zaa, getK, zac, zak, D.under, D.le, D.ren, hsn, htk] <;> (try (intros; simp_all; done)) <;> (try omega)) (by simp [wkR, St.lp, zaa, getK, zac, zak, obR, leU, zbi, zaO, Ob.under, D.under, D.le, D.ren, hsn, htk] <;> (try (intros; simp_all; done)) <;> (try omega)) (by simp [hsn, htk]))
 ·rw [znR hb] at hS;rw [hS, PR.zat] at hR;have hb2 : isB l q [108, 101, 116] = false := by simpa using hb
  rw [hb2] at hm
  repeat' (first
  | ((first | refine zae ?_ | refine zaj ?_ | refine zah ?_ | refine zai ?_ | fail); simp [hne, del])
  | (refine zbA ?_; simp [zao])
  | (refine CallP.fE (hm) (by first | rfl | fail) (by first | simp [hne, del] <;> rfl | fail) ?_; (try simp [hne, del]))
  | (refine zas (by first | rfl | fail) ?_; simp [hne, del, frzN, frz1, zaA, zaz, St.frz, St.frzS, frzS, fv, zaF, zbb, zbe, zaE, zau, zal, del, frz, zbf])
  | fail)
  (refine CallP.pp (zeW hl [100, 117, 101] (q := q) (i := 3) (by first | omega | simp <;> omega | fail) gq) (by first | (simp [hi, hne, del, zaa, getK, zab, zac]; done) | fail) (by rfl) (by first | assumption | (simp; done) | fail) (by rfl) (by simp) (fun u30 q30 h30 => ?_) (fun pos e q' h30 => ⟨_, Wk.refl _, ?_⟩); rotate_left 1; (focus (rw [h30, PR.zaK] at hR; (refine hpan _ _ ⟨{ n := _, env := [], obs := [(3, pOb l q')], next := 4 }, (Wk.cut rfl (by simp [hn]) (by simp [wkO, zaa, getK, zab, zac, Ob.under, D.under, zad, zag, hi, hne, del, zab, zac, zaa, getK]) (by simp [wkU, zan, zaa, getK, D.under, hi, hne, del, zab, zac, zaa, getK]) (by simp [wkE, zan, zaa, getK, hi, hne, del, zab, zac, zaa, getK])), by simp [hn], ?_⟩; try simp); exact PPost.zay hR.symm)); rw [h30, PR.zat] at hR; (try simp [hi, hne, del]))
  obtain ⟨_, g30⟩ := za2 hl _ h30 gq
  repeat' (first
  | ((first | refine zae ?_ | refine zaj ?_ | refine zah ?_ | fail); simp [hne, del])
  | fail)
  (refine CallP.pp (zgy l q30 3 _ (by first | omega | simp <;> omega | fail) g30 hl hl2) (by first | (simp [hi, hne, del, zee, Exp.row_eq, zaa, getK, zab, zac]; done) | fail) (by rfl) (by first | assumption | (simp; done) | fail) (by rfl) (by simp) (fun due q31 h31 => ?_) (fun pos e q' h31 => ⟨_, Wk.refl _, ?_⟩); rotate_left 1; (focus (rw [h31, PR.zaK] at hR; (refine hpan _ _ ⟨{ n := _, env := [], obs := [(3, pOb l q')], next := 4 }, (Wk.cut rfl (by simp [hn]) (by simp [wkO, zaa, getK, zab, zac, Ob.under, D.under, zad, zag, hi, hne, del, zee, Exp.row_eq, zab, zac, zaa, getK]) (by simp [wkU, zan, zaa, getK, D.under, hi, hne, del, zee, Exp.row_eq, zab, zac, zaa, getK]) (by simp [wkE, zan, zaa, getK, hi, hne, del, zee, Exp.row_eq, zab, zac, zaa, getK])), by simp [hn], ?_⟩; try simp); exact PPost.zay hR.symm)); rw [h31, PR.zat] at hR; (try simp [hi, hne, del, zee, Exp.row_eq]))
  obtain ⟨_, g31⟩ := zgB hl h31 g30
  repeat' (first
  | ((first | refine zae ?_ | refine zaj ?_ | refine zah ?_ | fail); simp [hne, del])
  | fail)
  (refine CallP.pp (zeI l q31 [102, 105, 110, 101] 3 _ (by first | omega | simp <;> omega | fail) g31 hl hl2) (by first | (simp [hi, hne, del, zee, Exp.row_eq, zaa, getK, zab, zac]; done) | fail) (by rfl) (by first | assumption | (simp; done) | fail) (by rfl) (by simp) (fun fine q32 h32 => ?_) (fun pos e q' h32 => ⟨_, Wk.refl _, ?_⟩); rotate_left 1; (focus (rw [h32, PR.zaK] at hR; (refine hpan _ _ ⟨{ n := _, env := [], obs := [(3, pOb l q')], next := 4 }, (Wk.cut rfl (by simp [hn]) (by simp [wkO, zaa, getK, zab, zac, Ob.under, D.under, zad, zag, hi, hne, del, zee, Exp.row_eq, zab, zac, zaa, getK]) (by simp [wkU, zan, zaa, getK, D.under, hi, hne, del, zee, Exp.row_eq, zab, zac, zaa, getK]) (by simp [wkE, zan, zaa, getK, hi, hne, del, zee, Exp.row_eq, zab, zac, zaa, getK])), by simp [hn], ?_⟩; try simp); exact PPost.zay hR.symm)); rw [h32, PR.zat] at hR; (try simp [hi, hne, del, zee, Exp.row_eq]))
  obtain ⟨_, g32⟩ := zeJ hl h32 g31
  repeat' (first
  | (refine zae ?_; simp [hne, del])
  | fail)
  (refine CallP.pp (zeI l q32 [112, 97, 121] 3 _ (by first | omega | simp <;> omega | fail) g32 hl hl2) (by first | (simp [hi, hne, del, zee, Exp.row_eq, zaa, getK, zab, zac]; done) | fail) (by rfl) (by first | assumption | (simp; done) | fail) (by rfl) (by simp) (fun pay q33 h33 => ?_) (fun pos e q' h33 => ⟨_, Wk.refl _, ?_⟩); rotate_left 1; (focus (rw [h33, PR.zaK] at hR; (refine hpan _ _ ⟨{ n := _, env := [], obs := [(3, pOb l q')], next := 4 }, (Wk.cut rfl (by simp [hn]) (by simp [wkO, zaa, getK, zab, zac, Ob.under, D.under, zad, zag, hi, hne, del, zee, Exp.row_eq, zab, zac, zaa, getK]) (by simp [wkU, zan, zaa, getK, D.under, hi, hne, del, zee, Exp.row_eq, zab, zac, zaa, getK]) (by simp [wkE, zan, zaa, getK, hi, hne, del, zee, Exp.row_eq, zab, zac, zaa, getK])), by simp [hn], ?_⟩; try simp); exact PPost.zay hR.symm)); rw [h33, PR.zat] at hR; (try simp [hi, hne, del, zee, Exp.row_eq]))
  obtain ⟨_, g33⟩ := zeJ hl h33 g32
  repeat' (first
  | (refine zae ?_; simp [hne, del])
  | fail)
  (refine CallP.pp (zeI l q33 [99, 111, 118, 101, 114] 3 _ (by first | omega | simp <;> omega | fail) g33 hl hl2) (by first | (simp [hi, hne, del, zee, Exp.row_eq, zaa, getK, zab, zac]; done) | fail) (by rfl) (by first | assumption | (simp; done) | fail) (by rfl) (by simp) (fun cover q34 h34 => ?_) (fun pos e q' h34 => ⟨_, Wk.refl _, ?_⟩); rotate_left 1; (focus (rw [h34, PR.zaK] at hR; (refine hpan _ _ ⟨{ n := _, env := [], obs := [(3, pOb l q')], next := 4 }, (Wk.cut rfl (by simp [hn]) (by simp [wkO, zaa, getK, zab, zac, Ob.under, D.under, zad, zag, hi, hne, del, zee, Exp.row_eq, zab, zac, zaa, getK]) (by simp [wkU, zan, zaa, getK, D.under, hi, hne, del, zee, Exp.row_eq, zab, zac, zaa, getK]) (by simp [wkE, zan, zaa, getK, hi, hne, del, zee, Exp.row_eq, zab, zac, zaa, getK])), by simp [hn], ?_⟩; try simp); exact PPost.zay hR.symm)); rw [h34, PR.zat] at hR; (try simp [hi, hne, del, zee, Exp.row_eq]))
  obtain ⟨_, g34⟩ := zeJ hl h34 g33
  repeat' (first
  | (refine zae ?_; simp [hne, del])
  | fail)
  (refine CallP.pp (zeI l q34 [104, 111, 108, 100] 3 _ (by first | omega | simp <;> omega | fail) g34 hl hl2) (by first | (simp [hi, hne, del, zee, Exp.row_eq, zaa, getK, zab, zac]; done) | fail) (by rfl) (by first | assumption | (simp; done) | fail) (by rfl) (by simp) (fun hold q35 h35 => ?_) (fun pos e q' h35 => ⟨_, Wk.refl _, ?_⟩); rotate_left 1; (focus (rw [h35, PR.zaK] at hR; (refine hpan _ _ ⟨{ n := _, env := [], obs := [(3, pOb l q')], next := 4 }, (Wk.cut rfl (by simp [hn]) (by simp [wkO, zaa, getK, zab, zac, Ob.under, D.under, zad, zag, hi, hne, del, zee, Exp.row_eq, zab, zac, zaa, getK]) (by simp [wkU, zan, zaa, getK, D.under, hi, hne, del, zee, Exp.row_eq, zab, zac, zaa, getK]) (by simp [wkE, zan, zaa, getK, hi, hne, del, zee, Exp.row_eq, zab, zac, zaa, getK])), by simp [hn], ?_⟩; try simp); exact PPost.zay hR.symm)); rw [h35, PR.zat] at hR; (try simp [hi, hne, del, zee, Exp.row_eq]))
  obtain ⟨_, g35⟩ := zeJ hl h35 g34;obtain ⟨t, ht⟩ : ∃ t, l[q35]? = some t := ⟨_, List.getElem?_eq_getElem g35⟩;have hnx := zbW l q35 t ht hl.len
  repeat' (first
  | ((first | refine zae ?_ | refine zaj ?_ | refine zah ?_ | fail); simp [hne, del])
  | (refine CallP.fE (hnx) (by first | rfl | fail) (by first | simp [hne, del] <;> rfl | fail) ?_; (try simp [hne, del]))
  | fail)
  (refine CallP.pp (zqz ht 3 _ (by first | omega | simp <;> omega | fail) hl) (by first | (simp [hi, hne, del, zaa, getK, zab, zac]; done) | fail) (by rfl) (by first | assumption | (simp; done) | fail) (by rfl) (by simp) (fun u36 q36 h36 => ?_) (fun pos e q' h36 => ⟨_, Wk.refl _, ?_⟩); rotate_left 1; (focus (rw [h36, PR.zaK] at hR; (refine hpan _ _ ⟨{ n := _, env := [], obs := [(3, pOb l q')], next := 4 }, (Wk.cut rfl (by simp [hn]) (by simp [wkO, zaa, getK, zab, zac, Ob.under, D.under, zad, zag, hi, hne, del, zab, zac, zaa, getK]) (by simp [wkU, zan, zaa, getK, D.under, hi, hne, del, zab, zac, zaa, getK]) (by simp [wkE, zan, zaa, getK, hi, hne, del, zab, zac, zaa, getK])), by simp [hn], ?_⟩; try simp); exact PPost.zay hR.symm)); rw [h36, PR.zat] at hR; (try simp [hi, hne, del]))
  obtain rfl := zrf h36
  repeat' (first
  | ((first | refine zae ?_ | refine zaj ?_ | refine zah ?_ | fail); simp [hne, del])
  | (refine zaq ?_; simp only [zao])
  | fail)
  (refine EndW.frzN 1 ?_; simp [frzN, frz1, zaA, zaz, St.frz, St.frzS, frzS, fv, zaF, zbb, zbe, zaE, zau, zal, del, frz, zbf, hAl, htk])
  refine EndW.norm ?_;simp [St.norm, zbj, zbX, zci, zcj, hne]
  (refine EndW.here ?_; (first | (refine EndOK.fin (.inr rfl) ?_) | (refine EndOK.fin (.inl rfl) ?_)); simp [zaG, zaf, Tryz.results37, hne, hi]; refine FinOK.cut [(3, pOb l q36)] (4) (by simp [zaa, getK, zab, zac, Ob.under, D.under, zad, zag, hne, hi] <;> omega) (by simp [D.under]) (by simp [hn]) ?_; try simp)
  exact PPost.zcm hR.symm (by simp [za1, <- hA, zgi]) rfl
def zcM : Nat -> Exp -> Int -> Int
 | 0, _, most => most + 1
 | L + 1, e, most => if 40 < e.s.length then most + 1 else e.args.foldl (fun n x => if n <= most then n + zcM L x (most - n) else n) 1
theorem zkM (L : Nat) (e : Exp) (most : Int) : zcM (L + 1) e most = if 40 < e.s.length then most + 1 else e.args.foldl (fun n x => if n <= most then n + zcM L x (most - n) else n) 1 := by rw [zcM]
theorem zgW : ∀ (L : Nat) (e : Exp) (most : Int), 0 <= most -> 1 <= zcM L e most /\ zcM L e most <= most + 1
 | 0, e, most, h => by rw [zcM]; omega
 | L + 1, e, most, h => by
  rw [zcM];split
  ·omega
  ·have : ∀ (l : List Exp) (n : Int), 1 <= n -> n <= most + 1 -> 1 <= l.foldl (fun n x => if n <= most then n + zcM L x (most - n) else n) n /\ l.foldl (fun n x => if n <= most then n + zcM L x (most - n) else n) n <= most + 1 := by
    intro l
    induction l with
    | nil => intro n h1 h2; exact ⟨h1, h2⟩
    | cons a l ih =>
     intro n h1 h2;rw [List.foldl_cons];split
     ·rename_i hn;have := zgW L a (most - n) (by omega);exact ih _ (by omega) (by omega)
     ·exact ih n h1 h2
   exact this _ 1 (by omega) (by omega)
theorem zhW {L : Nat} {most : Int} : ∀ (l : List Exp) (n : Int), ¬ n <= most -> l.foldl (fun n x => if n <= most then n + zcM L x (most - n) else n) n = n
 | [], _, _ => rfl
 | a :: l, n, h => by rw [List.foldl_cons, if_neg h]; exact zhW l n h
theorem zjJ : ∀ (L : Nat) (e : Exp) (most : Int), 0 <= most -> most <= 1000 -> (L : Int) <= 100 -> Fun Tryz.prog 74 [zhz e, .u (.int .i64 most), .u (.int .i64 L)] (· = .u (.int .i64 (zcM L e most)))
 | 0, e, most, _, _, _ => by
  rw [zcM]
  (refine Fun.of_body Tryz.func74 rfl (by simp) fun Γ hn => ?_); simp only [entry, ziC, ziN, maC, maN, oA, Tryz.ntmps74]
  simp only [zhz]
  repeat' (first
  | ((first | refine zae ?_ | refine zaj ?_ | fail); simp)
  | (refine ⟨by omega, ?_⟩)
  | ((first | refine zah ?_ | refine zai ?_ | fail); simp)
  | (refine zaq ?_; simp only [zao])
  | fail)
  (refine EndOK.val (.inr rfl) ?_; simp [zaG, zaf, zar, Tryz.results74])
 | L + 1, e, most, h0, h1, hL => by
  rw [zkM];by_cases hs : 40 < e.s.length
  ·rw [if_pos hs]
   (refine Fun.of_body Tryz.func74 rfl (by simp) fun Γ hn => ?_); simp only [entry, ziC, ziN, maC, maN, oA, Tryz.ntmps74]
   simp only [zhz]
   repeat' (first
  | ((first | refine zae ?_ | refine zaj ?_ | fail); simp)
  | (refine ⟨by omega, ?_⟩)
  | ((first | refine zah ?_ | refine zai ?_ | fail); simp)
  | (refine zaq ?_; simp only [zao])
  | (refine ⟨?_, by omega⟩)
  | (intro hc <;> (try (exfalso; omega)))
  | fail)
   all_goals first
    | (exfalso; omega)
    | ((refine EndOK.val (.inr rfl) ?_; simp [zaG, zaf, zar, Tryz.results74]); done)
  rw [if_neg hs];generalize hg : (e.args.foldl (fun n x => if n <= most then n + zcM L x (most - n) else n) 1) = g
  (refine Fun.of_body Tryz.func74 rfl (by simp) fun Γ hn => ?_); simp only [entry, ziC, ziN, maC, maN, oA, Tryz.ntmps74]
  simp only [zhz];refine zoz (x := 0) (j := 4) rfl rfl fun hl => ?_;simp only [List.length_map] at hl
  repeat' (first
  | ((first | refine zae ?_ | refine zaj ?_ | fail); simp)
  | (refine ⟨by omega, ?_⟩)
  | ((first | refine zah ?_ | refine zai ?_ | refine zaw ?_ | fail); simp)
  | (refine zap ?_; simp only [zao])
  | (refine ⟨?_, by omega⟩)
  | (intro hc <;> (try (exfalso; omega)))
  | fail)
  refine zcl (α := { p : Nat × Int // p.1 <= e.args.length /\ 1 <= p.2 /\ p.2 <= most + 1 /\ g = (e.args.drop p.1).foldl (fun n x => if n <= most then n + zcM L x (most - n) else n) p.2 }) [1, 2, 3] (fun p => [(7, .u (.int .i64 p.1.2)), (8, .u (.int .i64 p.1.1))]) (fun p => e.args.length - p.1.1) ⟨(0, 1), by simp, by simp, by simp; omega, by simp [hg]⟩ ?_ ?_
  ·exact (Wk.cut rfl (by simp [hn, St.lp]) (by simp [wkO, St.lp, zaa, getK, Ob.under, D.under, zad, zag]) (by simp [wkU, St.lp, zan, zaa, getK, D.under]) (by simp [wkE, St.lp, zan, zaa, getK] <;> (try (intros; simp_all; done)) <;> (try (intros; omega)) <;> (try grind)))
  rintro ⟨⟨i, n⟩, hi, hn1, hn2, hgn⟩;simp only at hi hn1 hn2 hgn;simp [St.lp, St.only, zan, zaa, getK];rcases hx : e.args[i]? with _ | x
  ·have hge : e.args.length <= i := by simpa using hx
   rw [List.drop_of_length_le hge] at hgn
   repeat' (first
  | ((first | refine zae ?_ | refine zaj ?_ | fail); simp [hx])
  | (refine ⟨by omega, ?_⟩)
  | ((first | refine zah ?_ | refine zai ?_ | fail); simp [hx])
  | (refine zaq ?_; simp only [zao])
  | (refine zbA ?_; simp [zao])
  | (intro hc <;> (try (exfalso; omega)))
  | fail)
   (refine EndOK.val (.inr rfl) ?_; simp [zaG, zaf, zar, Tryz.results74])
   rw [hgn]; rfl
  ·have hlt : i < e.args.length := (lGE.1 hx).1;by_cases hm : n <= most
   ·have h5 := zjJ L x (most - n) (by omega) (by omega) (by omega);have hb := zgW L x (most - n) (by omega);simp only [zhz] at h5;rw [List.drop_eq_getElem_cons hlt, List.foldl_cons, if_pos hm, (lGE.1 hx).2] at hgn;generalize zcM L x (most - n) = y at h5 hb hgn
    repeat' (first
  | ((first | refine zae ?_ | refine zaj ?_ | fail); simp [hx, x.row_eq])
  | (refine ⟨by omega, ?_⟩)
  | ((first | refine zah ?_ | refine zai ?_ | refine zax ?_ | fail); simp [hx, x.row_eq])
  | (refine zap ?_; simp only [zao])
  | (refine ⟨?_, by omega⟩)
  | (intro hc <;> (try (exfalso; omega)))
  | (refine CallP.fE (h5) (by first | rfl | fail) (by first | simp [hx, x.row_eq] <;> rfl | fail) ?_; (try simp [hx, x.row_eq]))
  | fail)
    refine LoopW.next ⟨(i + 1, n + y), (by omega : i + 1 <= e.args.length), (by omega : 1 <= n + y), (by omega : n + y <= most + 1), hgn⟩ (by simp; omega) ?_
    exact (Wk.cut rfl (by simp [hn, St.lp]) (by simp [wkO, St.lp, zaa, getK, Ob.under, D.under, zad, zag]) (by simp [wkU, St.lp, zan, zaa, getK, D.under]) (by simp [wkE, St.lp, zan, zaa, getK] <;> (try (intros; simp_all; done)) <;> (try (intros; omega)) <;> (try grind)))
   ·rw [zhW _ _ hm] at hgn
    repeat' (first
  | ((first | refine zae ?_ | refine zaj ?_ | fail); simp [hx])
  | (refine ⟨by omega, ?_⟩)
  | ((first | refine zah ?_ | refine zai ?_ | fail); simp [hx])
  | (refine zaq ?_; simp only [zao])
  | (refine zbA ?_; simp [zao])
  | (refine ⟨?_, by omega⟩)
  | (intro hc <;> (try (exfalso; omega)))
  | fail)
    (refine EndOK.val (.inr rfl) ?_; simp [zaG, zaf, zar, Tryz.results74])
    rw [hgn]
def zkx (e : Exp) : Bool := decide (zcM 16 e 60 <= 60)
theorem zmI (e : Exp) : Fun Tryz.prog 31 [.u (.agg e.row)] (· = .u (.bool (zkx e))) := by
 have h2 := zjJ 16 e 60 (by omega) (by omega) (by omega);unfold zkx;rw [Exp.row_eq];simp only [zhz] at h2 ⊢;generalize zcM 16 e 60 = y at h2 ⊢
 (refine Fun.of_body Tryz.func31 rfl (by simp) fun Γ hn => ?_); simp only [entry, ziC, ziN, maC, maN, oA, Tryz.ntmps31]
 repeat' (first
  | ((first | refine zae ?_ | refine zaj ?_ | refine zah ?_ | fail); simp)
  | (refine zaq ?_; simp only [zao])
  | (refine CallP.fE (h2) (by first | rfl | fail) (by first | (simp; done) | (simp; rfl) | fail) ?_; (try simp))
  | fail)
 (refine EndOK.val (.inr rfl) ?_; simp [zaG, zaf, zar, Tryz.results31])
theorem zqv (b : By) : ∃ B : Bool, Fun Tryz.prog 18 [.u (.agg (za1 b))] (· = .u (.bool B)) := by
 have hf : ∀ e : Exp, Fun Tryz.prog 31 [.u (.agg [.int .i64 e.op, .int .i64 e.n, .int .i64 e.unit, .str e.s, .sl (e.args.map Exp.row)])] (· = .u (.bool (zkx e))) := fun e => by
  have := zmI e
  rwa [Exp.row_eq] at this
 have f1 := hf b.due;have f2 := hf b.fine;have f3 := hf b.pay;have f4 := hf b.cover;have f5 := hf b.hold
 let ok : Let -> Bool := fun l => decide (l.name.length <= 40) && zkx l.body
 refine ⟨(b.lets.take 23).all ok && (decide ((b.lets.length : Int) <= 22) && zkx b.due && zkx b.fine && zkx b.pay && zkx b.cover && zkx b.hold), ?_⟩;generalize hC : ((b.lets.take 23).all ok) = C;generalize zkx b.due = y1 at *;generalize zkx b.fine = y2 at *;generalize zkx b.pay = y3 at *;generalize zkx b.cover = y4 at *;generalize zkx b.hold = y5 at *
 (refine Fun.of_body Tryz.func18 rfl (by simp) fun Γ hn => ?_); simp only [entry, ziC, ziN, maC, maN, oA, Tryz.ntmps18]
 simp only [za1]
 repeat' (first
  | ((first | refine zae ?_ | refine zaj ?_ | refine zah ?_ | refine zaw ?_ | fail); simp)
  | fail)
 refine zcl (α := { i : Nat // i <= b.lets.length /\ (i : Int) <= 23 /\ ∀ l ∈ b.lets.take i, ok l = true }) [1, 2] (fun i => [(3, .u (.int .i64 i.1))]) (fun i => b.lets.length - i.1) ⟨0, by omega, by omega, by simp⟩ ?_ ?_
 ·exact (Wk.env rfl rfl rfl (by simp [wkE, St.lp, zan, zaa, getK] <;> (try (intros; simp_all; done)) <;> (try (intros; omega)) <;> (try grind)))
 rintro ⟨i, hi, hin, hb⟩;simp [St.lp, St.only, zan, zaa, getK];have fin : (i = b.lets.length \/ (i : Int) = 23) -> C = true := fun h => by
  rw [<- hC, List.all_eq_true];intro l hl;refine hb l ?_;rcases h with h | h
  ·rw [h, List.take_length]; exact List.mem_of_mem_take hl
  ·rw [show i = 23 by omega]; exact hl
 rcases hx : b.lets[i]? with _ | l
 ·have hge : b.lets.length <= i := by simpa using hx
  obtain rfl : i = b.lets.length := by omega
  have := fin (.inl rfl);subst this
  repeat' (first
  | ((first | refine zae ?_ | refine zaj ?_ | refine zah ?_ | refine zai ?_ | fail); simp [hx])
  | (refine zaq ?_; simp only [zao])
  | (refine zbA ?_; simp [zao])
  | (refine ⟨fun hc => ?_, fun hc => ?_⟩ <;> (try (exfalso; omega)))
  | (refine CallP.fE (f1) (by first | rfl | fail) (by first | simp [hx] <;> rfl | fail) ?_; (try simp [hx]))
  | (refine CallP.fE (f2) (by first | rfl | fail) (by first | simp [hx] <;> rfl | fail) ?_; (try simp [hx]))
  | (refine CallP.fE (f3) (by first | rfl | fail) (by first | simp [hx] <;> rfl | fail) ?_; (try simp [hx]))
  | (refine CallP.fE (f4) (by first | rfl | fail) (by first | simp [hx] <;> rfl | fail) ?_; (try simp [hx]))
  | (refine CallP.fE (f5) (by first | rfl | fail) (by first | simp [hx] <;> rfl | fail) ?_; (try simp [hx]))
  | fail)
  all_goals
   (refine EndOK.val (.inr rfl) ?_; simp [zaG, zaf, zar, Tryz.results18])
  all_goals (clear hC fin hf f1 f2 f3 f4 f5; simp_all <;> (try (intros; omega)))
 ·have hlt : i < b.lets.length := (lGE.1 hx).1;have f6 := hf l.body;by_cases hm : (i : Int) < 23
  ·by_cases hnv : 40 < l.name.length
   ·have hnv1 : 40 < (l.name.length : Int) := by omega
    repeat' (first
  | ((first | refine zae ?_ | refine zaj ?_ | refine zah ?_ | refine zai ?_ | fail); simp [hx, hm, hnv, hnv1])
  | ((first | refine zaq ?_ | refine zap ?_ | fail); simp only [zao])
  | (refine ⟨?_, by omega⟩)
  | (intro hc <;> (try (exfalso; omega)))
  | fail)
    (refine EndOK.val (.inr rfl) ?_; simp [zaG, zaf, zar, Tryz.results18])
    have : C = false := by
     rw [<- hC, List.all_eq_false];exact ⟨l, List.mem_of_getElem? (i := i) (by rw [List.getElem?_take, if_pos (by omega)]; exact hx), by simp [ok]; omega⟩
    simp [this]
   ·have hnv1 : ¬ 40 < (l.name.length : Int) := by omega
    have hok : ok l = zkx l.body := by simp [ok]; omega
    generalize zkx l.body = y6 at f6 hok;cases y6 with
    | false =>
     repeat' (first
  | ((first | refine zae ?_ | refine zaj ?_ | refine zah ?_ | refine zai ?_ | fail); simp [hx, hm, hnv, hnv1])
  | ((first | refine zaq ?_ | refine zap ?_ | fail); simp only [zao])
  | (refine ⟨?_, by omega⟩)
  | (intro hc <;> (try (exfalso; omega)))
  | (refine CallP.fE (f6) (by first | rfl | fail) (by first | simp [hx, hm, hnv, hnv1] <;> rfl | fail) ?_; (try simp [hx, hm, hnv, hnv1]))
  | fail)
     (refine EndOK.val (.inr rfl) ?_; simp [zaG, zaf, zar, Tryz.results18])
     have : C = false := by
      rw [<- hC, List.all_eq_false];exact ⟨l, List.mem_of_getElem? (i := i) (by rw [List.getElem?_take, if_pos (by omega)]; exact hx), by simp [hok]⟩
     simp [this]
    | true =>
     repeat' (first
  | ((first | refine zae ?_ | refine zaj ?_ | fail); simp [hx, hm, hnv, hnv1])
  | (refine ⟨by omega, ?_⟩)
  | ((first | refine zah ?_ | refine zai ?_ | refine zax ?_ | fail); simp [hx, hm, hnv, hnv1])
  | (refine zap ?_; simp only [zao])
  | (refine ⟨?_, by omega⟩)
  | (intro hc <;> (try (exfalso; omega)))
  | (refine CallP.fE (f6) (by first | rfl | fail) (by first | simp [hx, hm, hnv, hnv1] <;> rfl | fail) ?_; (try simp [hx, hm, hnv, hnv1]))
  | fail)
     refine LoopW.next ⟨i + 1, by omega, by omega, zbu hx hb hok⟩ (by simp; omega) ?_
     exact (Wk.env rfl rfl rfl (by simp [wkE, St.lp, zan, zaa, getK] <;> (try (intros; simp_all; done)) <;> (try (intros; omega)) <;> (try grind)))
  ·have := fin (.inr (by omega));subst this
   repeat' (first
  | ((first | refine zae ?_ | refine zaj ?_ | fail); simp [hx, hm])
  | (refine ⟨by omega, ?_⟩)
  | ((first | refine zah ?_ | refine zai ?_ | fail); simp [hx, hm])
  | (refine zaq ?_; simp only [zao])
  | (refine zbA ?_; simp [zao])
  | (refine ⟨?_, by omega⟩)
  | (intro hc <;> (try (exfalso; omega)))
  | fail)
   all_goals
    (refine EndOK.val (.inr rfl) ?_; simp [zaG, zaf, zar, Tryz.results18])
   all_goals (clear hC fin hf f1 f2 f3 f4 f5; simp_all <;> (try (intros; omega)))
abbrev zfx (a b : Exp) : Prop := Fun Tryz.prog 15 [.u (.agg a.row), .u (.agg b.row)] (· = .u (.bool (eqB a b)))
theorem zng : ∀ (n : Nat) (a b : Exp), SizeOf.sizeOf a <= n -> zfx a b := by
 intro n
 induction n with
 | zero =>
  intro a b h;cases a with
  | mk op n u s args => simp only [Exp.mk.sizeOf_spec] at h; omega
 | succ n ih =>
  intro a b hs;have hch : ∀ x ∈ a.args, ∀ y, zfx x y := fun x hx y => ih x y (by have := Exp.ze6 hx; omega);unfold zfx;have key : ∀ B : Bool, (B = true ↔ a = b) -> eqB a b = B := fun B h => by
   cases B with
   | true => exact zb1.2 (h.1 rfl)
   | false => exact zdV fun e => by have := h.2 e; cases this
  have hmk : a = b ↔ a.op = b.op /\ a.n = b.n /\ a.unit = b.unit /\ a.s = b.s /\ a.args = b.args := by
   cases a; cases b;simp only [Exp.op, Exp.n, Exp.unit, Exp.s, Exp.args, Exp.mk.injEq]
  rw [Exp.row_eq, Exp.row_eq b];by_cases c1 : a.op = b.op
  ·by_cases c2 : a.n = b.n
   ·by_cases c3 : a.unit = b.unit
    ·by_cases c4 : a.s = b.s
     ·by_cases c5 : a.args.length = b.args.length
      ·have c5' : (a.args.length : Int) = b.args.length := by omega
       rw [key (eqB a.args b.args) (by rw [zb1, hmk]; exact ⟨fun h => ⟨c1, c2, c3, c4, h⟩, fun h => h.2.2.2.2⟩)];clear key hmk
       (refine Fun.of_body Tryz.func15 rfl (by simp) fun Γ hn => ?_); simp only [entry, ziC, ziN, maC, maN, oA, Tryz.ntmps15]
       refine zoz (x := 0) (j := 4) rfl rfl fun hll => ?_;simp only [List.length_map] at hll
       repeat' (first
  | ((first | refine zae ?_ | refine zaj ?_ | refine zah ?_ | refine zai ?_ | refine zaw ?_ | fail); simp [c1, c2, c3, c4, c5, c5'])
  | (refine zap ?_; simp only [zao])
  | fail)
       refine zdL (α := { i : Nat // i <= a.args.length /\ a.args.take i = b.args.take i }) [2, 3, 4] (fun x => [(5, .u (.int .i64 x.1))]) (fun x => [(1, .box [.u (.int .i64 b.op), .u (.int .i64 b.n), .u (.int .i64 b.unit), .u (.str b.s), .u (.sl (b.args.map Exp.row))]), (0, .box [.u (.int .i64 a.op), .u (.int .i64 a.n), .u (.int .i64 a.unit), .u (.str a.s), .u (.sl (a.args.map Exp.row))])]) 2 (fun x => a.args.length - x.1) ⟨0, by omega, by simp⟩ ?_ ?_
       ·exact (Wk.cut rfl (by simp [hn, St.lp]) (by simp [wkO, St.lp, zaa, getK, Ob.under, D.under, zad, zag, c1, c2, c3, c4, c5]) (by simp [wkU, St.lp, zan, zaa, getK, D.under, c1, c2, c3, c4, c5]) (by simp [wkE, St.lp, zan, zaa, getK, c1, c2, c3, c4, c5] <;> (try (intros; simp_all; done)) <;> (try (intros; omega)) <;> (try grind)))
       rintro ⟨i, hi, hb⟩;simp [St.lp, St.only, zan, zaa, getK];rcases hx : a.args[i]? with _ | x
       ·have hge : a.args.length <= i := by simpa using hx
        obtain rfl : i = a.args.length := by omega
        rw [List.take_of_length_le (Nat.le_refl _), List.take_of_length_le (by omega)] at hb;rw [zb1.2 hb]
        repeat' (first
  | ((first | refine zae ?_ | refine zaj ?_ | refine zah ?_ | refine zai ?_ | fail); simp [hx, c5])
  | (refine zaq ?_; simp only [zao])
  | (refine zbA ?_; simp [zao])
  | fail)
        (refine EndOK.val (.inr rfl) ?_; simp [zaG, zaf, zar, Tryz.results15])
       ·have hlt : i < a.args.length := (lGE.1 hx).1;have hlt2 : i < b.args.length := by omega
        obtain ⟨y, hy⟩ : ∃ y, b.args[i]? = some y := ⟨_, List.getElem?_eq_getElem hlt2⟩;have hi2 : (i : Int) < b.args.length := by omega
        have hi1 : (i : Int) < a.args.length := by omega
        have h1 : zfx x y := hch x (List.mem_of_getElem? hx) y;unfold zfx at h1;by_cases hab : x = y
        ·rw [zb1.2 hab] at h1;rw [Exp.row_eq, Exp.row_eq] at h1;have hsn : a.args.take (i + 1) = b.args.take (i + 1) := by
          rw [List.take_succ_eq_append_getElem hlt, List.take_succ_eq_append_getElem hlt2, hb, (lGE.1 hx).2, (lGE.1 hy).2, hab]
         repeat' (first
  | ((first | refine zae ?_ | refine zaU rfl ?_ | refine zaj ?_ | fail); simp [hx, hy, hi1, hi2, c5, Exp.row_eq])
  | (refine ⟨by omega, ?_⟩)
  | ((first | refine zah ?_ | refine zai ?_ | fail); simp [hx, hy, hi1, hi2, c5, Exp.row_eq])
  | (refine za8 (hC _ (by kernel_rfl)) (hk _ ?_); clear hC hk C k; simp only [zao])
  | (refine za9 rfl (by kernel_rfl) (by first | (simp [hn]; done) | (simp [hn]; omega) | fail) fun C k hC hk => ?_; simp [hx, hy, hi1, hi2, c5, Exp.row_eq])
  | (refine zax ?_; simp [hx, hy, hi1, hi2, c5, Exp.row_eq])
  | (refine zap ?_; simp only [zao])
  | (refine CallV.fun_ (h1) (by first | rfl | fail) (by first | simp [hx, hy, hi1, hi2, c5, Exp.row_eq] <;> rfl | fail) ?_ <;> (try simp [hx, hy, hi1, hi2, c5, Exp.row_eq]))
  | fail)
         refine LoopW.next ⟨i + 1, by omega, hsn⟩ (by simp; omega) ?_
         exact (Wk.cut rfl (by simp [hn, St.lp]) (by simp [wkO, St.lp, zaa, getK, Ob.under, D.under, zad, zag, c5]) (by simp [wkU, St.lp, zan, zaa, getK, D.under, c5]) (by simp [wkE, St.lp, zan, zaa, getK, c5] <;> (try (intros; simp_all; done)) <;> (try (intros; omega)) <;> (try grind)))
        ·rw [zdV hab] at h1;rw [Exp.row_eq, Exp.row_eq] at h1;have hne : a.args ≠ b.args := fun e => by rw [e] at hx; rw [hx] at hy; cases hy; exact hab rfl
         rw [zdV hne]
         repeat' (first
  | ((first | refine zae ?_ | refine zaU rfl ?_ | refine zaj ?_ | refine zah ?_ | refine zai ?_ | fail); simp [hx, hy, hi1, hi2, c5, Exp.row_eq])
  | (refine za8 (hC _ (by kernel_rfl)) (hk _ ?_); clear hC hk C k; simp only [zao])
  | (refine za9 rfl (by kernel_rfl) (by first | (simp [hn]; done) | (simp [hn]; omega) | fail) fun C k hC hk => ?_; simp [hx, hy, hi1, hi2, c5, Exp.row_eq])
  | ((first | refine zaq ?_ | refine zap ?_ | fail); simp only [zao])
  | (refine CallV.fun_ (h1) (by first | rfl | fail) (by first | simp [hx, hy, hi1, hi2, c5, Exp.row_eq] <;> rfl | fail) ?_ <;> (try simp [hx, hy, hi1, hi2, c5, Exp.row_eq]))
  | fail)
         (refine EndOK.val (.inr rfl) ?_; simp [zaG, zaf, zar, Tryz.results15])
      ·have c5' : ¬ (a.args.length : Int) = b.args.length := by omega
       rw [key false (by rw [hmk]; simp; intro _ _ _ _ h; exact c5 (by rw [h]))]
       (refine Fun.of_body Tryz.func15 rfl (by simp) fun Γ hn => ?_); simp only [entry, ziC, ziN, maC, maN, oA, Tryz.ntmps15]
       repeat' (first
  | ((first | refine zae ?_ | refine zaj ?_ | refine zah ?_ | refine zai ?_ | fail); simp [c1, c2, c3, c4, c5, c5'])
  | (refine zaq ?_; simp only [zao])
  | fail)
       (refine EndOK.val (.inr rfl) ?_; simp [zaG, zaf, zar, Tryz.results15])
     ·rw [key false (by rw [hmk]; simp [c4])]
      (refine Fun.of_body Tryz.func15 rfl (by simp) fun Γ hn => ?_); simp only [entry, ziC, ziN, maC, maN, oA, Tryz.ntmps15]
      repeat' (first
  | ((first | refine zae ?_ | refine zaj ?_ | refine zah ?_ | refine zai ?_ | fail); simp [c1, c2, c3, c4])
  | (refine zaq ?_; simp only [zao])
  | fail)
      (refine EndOK.val (.inr rfl) ?_; simp [zaG, zaf, zar, Tryz.results15])
    ·rw [key false (by rw [hmk]; simp [c3])]
     (refine Fun.of_body Tryz.func15 rfl (by simp) fun Γ hn => ?_); simp only [entry, ziC, ziN, maC, maN, oA, Tryz.ntmps15]
     repeat' (first
  | ((first | refine zae ?_ | refine zaj ?_ | refine zah ?_ | refine zai ?_ | fail); simp [c1, c2, c3])
  | (refine zaq ?_; simp only [zao])
  | fail)
     (refine EndOK.val (.inr rfl) ?_; simp [zaG, zaf, zar, Tryz.results15])
   ·rw [key false (by rw [hmk]; simp [c2])]
    (refine Fun.of_body Tryz.func15 rfl (by simp) fun Γ hn => ?_); simp only [entry, ziC, ziN, maC, maN, oA, Tryz.ntmps15]
    repeat' (first
  | ((first | refine zae ?_ | refine zaj ?_ | refine zah ?_ | refine zai ?_ | fail); simp [c1, c2])
  | (refine zaq ?_; simp only [zao])
  | fail)
    (refine EndOK.val (.inr rfl) ?_; simp [zaG, zaf, zar, Tryz.results15])
  ·rw [key false (by rw [hmk]; simp [c1])]
   (refine Fun.of_body Tryz.func15 rfl (by simp) fun Γ hn => ?_); simp only [entry, ziC, ziN, maC, maN, oA, Tryz.ntmps15]
   repeat' (first
  | ((first | refine zae ?_ | refine zaj ?_ | refine zah ?_ | refine zai ?_ | fail); simp [c1])
  | (refine zaq ?_; simp only [zao])
  | fail)
   (refine EndOK.val (.inr rfl) ?_; simp [zaG, zaf, zar, Tryz.results15])
theorem zcy (a b : Exp) : zfx a b := zng (SizeOf.sizeOf a) a b (Nat.le_refl _)
theorem zhs (A : List Let) : Fun Tryz.prog 46 [.u (zfd A), .u (zfd A)] (· = .u (.bool true)) := by
 simp only [zfd]
 (refine Fun.of_body Tryz.func46 rfl (by simp) fun Γ hn => ?_); simp only [entry, ziC, ziN, maC, maN, oA, Tryz.ntmps46]
 refine ziV (x := 0) rfl fun hll => ?_;simp at hll
 repeat' (first
  | ((first | refine zae ?_ | refine zaj ?_ | refine zah ?_ | refine zai ?_ | refine zaw ?_ | fail); simp)
  | (refine zap ?_; simp only [zao])
  | fail)
 refine zcl (α := { i : Nat // i <= A.length }) [0, 1, 4] (fun x => [(5, .u (.int .i64 x.1))]) (fun x => A.length - x.1) ⟨0, by omega⟩ ?_ ?_
 ·exact (Wk.env rfl rfl rfl (by simp [wkE, St.lp, zan, zaa, getK] <;> (try (intros; simp_all; done)) <;> (try (intros; omega)) <;> (try grind)))
 rintro ⟨i, hi⟩;simp [St.lp, St.only, zan, zaa, getK];rcases hx : A[i]? with _ | x
 ·have hge : A.length <= i := by simpa using hx
  obtain rfl : i = A.length := by omega
  repeat' (first
  | ((first | refine zae ?_ | refine zaj ?_ | refine zah ?_ | refine zai ?_ | fail); simp [hx])
  | (refine zaq ?_; simp only [zao])
  | (refine zbA ?_; simp [zao])
  | fail)
  (refine EndOK.val (.inr rfl) ?_; simp [zaG, zaf, zar, Tryz.results46])
 ·have hlt : i < A.length := (lGE.1 hx).1;have hi1 : (i : Int) < A.length := by omega
  have h1 : zfx x.body x.body := zcy _ _;unfold zfx at h1;rw [zev] at h1;rw [Exp.row_eq] at h1
  repeat' (first
  | ((first | refine zae ?_ | refine zaU rfl ?_ | refine zdp rfl ?_ | refine zaj ?_ | fail); simp [hx, hi1])
  | (refine ⟨by omega, ?_⟩)
  | ((first | refine zah ?_ | refine zai ?_ | fail); simp [hx, hi1])
  | (refine za8 (hC _ (by kernel_rfl)) (hk _ ?_); clear hC hk C k; simp only [zao])
  | (refine za9 rfl (by kernel_rfl) (by first | (simp [hn]; done) | (simp [hn]; omega) | fail) fun C k hC hk => ?_; simp [hx, hi1])
  | (refine zcr rfl (by simp [hx, hi1]) (fun hc => ?_) (fun hc => ?_) <;> (try simp [hx, hi1] at hc) <;> (try (exfalso; omega)) <;> (try simp [hx, hi1]))
  | (refine zax ?_; simp [hx, hi1])
  | (refine zap ?_; simp only [zao])
  | (refine CallV.fun_ (h1) (by first | rfl | fail) (by first | simp [hx, hi1] <;> rfl | fail) ?_ <;> (try simp [hx, hi1]))
  | fail)
  refine LoopW.next ⟨i + 1, by omega⟩ (by simp; omega) ?_
  exact (Wk.env rfl rfl rfl (by simp [wkE, St.lp, zan, zaa, getK] <;> (try (intros; simp_all; done)) <;> (try (intros; omega)) <;> (try grind)))
theorem zl3 (b : By) : Fun Tryz.prog 14 [.u (.agg (za1 b)), .u (.agg (za1 b))] (· = .u (.bool true)) := by
 have e0 := zhs b.lets;have e1 : zfx b.due b.due := zcy _ _;have e2 : zfx b.fine b.fine := zcy _ _;have e3 : zfx b.pay b.pay := zcy _ _;have e4 : zfx b.cover b.cover := zcy _ _;have e5 : zfx b.hold b.hold := zcy _ _;unfold zfx at e1 e2 e3 e4 e5;rw [Exp.row_eq] at e1 e2 e3 e4 e5;rw [zev] at e1 e2 e3 e4 e5;simp only [zfd] at e0;unfold za1
 (refine Fun.of_body Tryz.func14 rfl (by simp) fun Γ hn => ?_); simp only [entry, ziC, ziN, maC, maN, oA, Tryz.ntmps14]
 repeat' (first
  | ((first | refine zae ?_ | refine zaj ?_ | refine zah ?_ | fail); simp)
  | (refine zaq ?_; simp only [zao])
  | (refine CallP.fE (e0) (by first | rfl | fail) (by first | (simp; done) | (simp; rfl) | fail) ?_; (try simp))
  | (refine CallP.fE (e1) (by first | rfl | fail) (by first | (simp; done) | (simp; rfl) | fail) ?_; (try simp))
  | (refine CallP.fE (e2) (by first | rfl | fail) (by first | (simp; done) | (simp; rfl) | fail) ?_; (try simp))
  | (refine CallP.fE (e3) (by first | rfl | fail) (by first | (simp; done) | (simp; rfl) | fail) ?_; (try simp))
  | (refine CallP.fE (e4) (by first | rfl | fail) (by first | (simp; done) | (simp; rfl) | fail) ?_; (try simp))
  | (refine CallP.fE (e5) (by first | rfl | fail) (by first | (simp; done) | (simp; rfl) | fail) ?_; (try simp))
  | fail)
 (refine EndOK.val (.inr rfl) ?_; simp [zaG, zaf, zar, Tryz.results14])
theorem zjh : Fun Tryz.prog 30 [] (· = .u (.agg nothingE.row)) := by
 simp only [nothingE, Exp.row, List.map_nil]
 (refine Fun.of_bodyW Tryz.func30 rfl (by simp) fun Γ hn => ?_); simp only [entry, ziC, ziN, maC, maN, oA, Tryz.ntmps30]
 repeat' (first
  | ((first | refine zae ?_ | refine zaj ?_ | refine zah ?_ | fail); simp)
  | (refine zaq ?_; simp only [zao])
  | fail)
 refine EndW.norm ?_;simp [St.norm, zbj, zbX, zci, zcj];refine EndW.here ?_
 (refine EndOK.val (.inr rfl) ?_; simp [zaG, zaf, zar, Tryz.results30])
end Go.Proofs.YthnemhfamhnfjaaGreatDoor
namespace Go.Proofs.YthnemhfamhnfjaaGreatDoor
open Go Go.VL
theorem zer : ∀ ws : List W8, (zbs ws).length <= (ws.map fun w => w.length + 1).sum
 | [] => by simp [zbs, spW, zbw]
 | [w] => by rw [za4]; simp
 | w :: v :: l => by rw [zaY]; have := zer (v :: l); simp at this ⊢; omega
theorem zc0 {w : W8} {n : Int} {ws : List W8} (h0 : 0 <= n) (h1 : n <= 1099511627776) (h : w.length + (ws.map fun w => w.length + 1).sum <= 80) : (zbq w n ws).length <= 100 := by
 rw [zbq];split
 ·simp
 ·have h2 := ziA h0 h1;have h3 := zer (w :: Lib.itoa n :: ws);rw [zbz];simp at h3 ⊢;omega
theorem zdu {w : W8} {e : Exp} (hw : w.length <= 20) (h : zaC 12 e = true) : (clauseT w e).length <= 60000000 := by
 rw [clauseT];split
 ·simp
 ·have := zct h (Nat.le_refl _) 0;rw [zjQ];omega
def zeq (b : By) : W8 := zbz (if b.sld = true then [[99, 105, 114, 99, 108, 101], [98, 105, 100, 100, 105, 110, 103], [115, 101, 97, 108, 101, 100]] else [[99, 105, 114, 99, 108, 101], if b.kind = 0 then [114, 111, 116, 97, 116, 105, 110, 103] else if b.kind = 1 then [98, 105, 100, 100, 105, 110, 103] else [115, 97, 118, 105, 110, 103]])
def zgR (o : Int) : W8 := if o = 0 then [] else zbz [[111, 114, 100, 101, 114], ordersW.getD o.toNat []]
def ziY (l : Let) : W8 := zbz [[108, 101, 116], l.name, [61], txt l.body 0]
def zdi (L : List Let) : W8 := (L.map ziY).flatten
noncomputable def textP (b : By) : W8 := zeq b ++ zbq [112, 101, 114, 105, 111, 100] b.period [[100, 97, 121, 115]] ++ zbq [108, 97, 115, 116] b.last [] ++ zbq [103, 114, 97, 99, 101] b.grace [[100, 97, 121, 115]] ++ zbq [119, 97, 105, 116] b.wait [[100, 97, 121, 115]] ++ zgR b.order ++
 zbq [98, 97, 99, 107, 115] b.backs [] ++ zbq [118, 111, 105, 99, 101, 115] b.voices [[112, 101, 114], [109, 105, 108, 108, 101]] ++ zbq [106, 117, 114, 121] b.jury [] ++ zbq [102, 117, 110, 100] b.fund [[112, 101, 114], [109, 105, 108, 108, 101]] ++ zdi b.lets ++
 clauseT [100, 117, 101] b.due ++ clauseT [102, 105, 110, 101] b.fine ++ clauseT [112, 97, 121] b.pay ++ clauseT [99, 111, 118, 101, 114] b.cover ++ clauseT [104, 111, 108, 100] b.hold
noncomputable def printB (b : By) : W8 × Int := if za3 b = true then (if 2000 < (textP b).length then ([], 6) else (textP b, 0)) else ([], 1)
theorem zg6 : ∀ (seen L : List Let), zfe seen L = true -> ∀ l ∈ L, zbO l.name = true /\ zaC 12 l.body = true
 | _, [], _, l, hl => by cases hl
 | seen, x :: r, h, l, hl => by
  rw [zfe] at h;simp only [Bool.and_eq_true] at h;rcases List.mem_cons.1 hl with rfl | hl
  ·exact ⟨h.1.1.1, h.1.1.2⟩
  ·exact zg6 _ r h.2 l hl
theorem zlq {l : Let} (hn : zbO l.name = true) (h : zaC 12 l.body = true) : (ziY l).length <= 60000000 := by
 have h1 := zer [[108, 101, 116], l.name, [61], txt l.body 0];have h2 := zct h (Nat.le_refl _) 0;have h3 := ziv hn;rw [ziY, zbz];simp at h1 ⊢;omega
theorem zjR : ∀ (L : List Let), (∀ l ∈ L, zbO l.name = true /\ zaC 12 l.body = true) -> (zdi L).length <= L.length * 60000000
 | [], _ => by simp [zdi]
 | l :: r, h => by
  have h1 := zjR r fun x hx => h x (by simp [hx]);have h2 := zlq (h l (by simp)).1 (h l (by simp)).2;simp only [zdi, List.map_cons, List.flatten_cons, List.length_append, List.length_cons] at h1 ⊢;omega
theorem zmm {L : List Let} {i : Nat} {l : Let} (h : L[i]? = some l) : zdi (L.take (i + 1)) = zdi (L.take i) ++ ziY l := by
 obtain ⟨hi, rfl⟩ := lGE.1 h;rw [List.take_succ_eq_append_getElem hi, zdi, List.map_append, List.flatten_append];simp [zdi]
theorem zkN {P : Program} {f : FuncId} {a c e : D} {obs nx post} (h : RetX P f [a, c, .u (.sl []), e] obs nx post) : RetX P f [a, c, .u .nil, e] obs nx post := by
 intro k own w vs hsat hhdr hown hrep;refine h k own w vs hsat hhdr hown ⟨hrep.1, fun j d hj => ?_⟩
 match j, hj with
 | 0, hj => exact hrep.2 0 d hj
 | 1, hj => exact hrep.2 1 d hj
 | 2, hj =>
  cases hj;have := zcQ (hrep.2 2 (.u .nil) rfl);rw [this];exact .u _ _ (.slE none 0 fun _ => rfl)
 | 3, hj => exact hrep.2 3 d hj
end Go.Proofs.YthnemhfamhnfjaaGreatDoor
namespace Go.Proofs.YthnemhfamhnfjaaGreatDoor
open Go Go.VL
def zeQ : By := ⟨0, 0, 0, 0, 0, 0, false, 0, 0, 0, 0, [], zdM, zdM, zdM, zdM, zdM⟩
def zeR (s : W8) : By × Int × Int := match zkw s with
 | .error (p, e) => (zeQ, p, e)
 | .ok l => match zoH l with
  | .stop pos e => (zeQ, pos, e)
  | .ok b _ => (b, 0, 0)
def zrk (r : By × Int × Int) : D := .tup [.u (.agg (za1 r.1)), .u (.int .i64 r.2.1), .u (.int .i64 r.2.2)]
abbrev zpz : Ob := .box [.u (.int .i64 0), .u (.int .i64 0), .u (.int .i64 0), .u (.int .i64 0), .u (.int .i64 0), .u (.int .i64 0), .u (.bool false), .u (.int .i64 0), .u (.int .i64 0), .u (.int .i64 0), .u (.int .i64 0), .u .nil, .u (.int .i64 0), .u (.int .i64 0), .u (.int .i64 0), .u (.str []), .u .nil, .u (.int .i64 0), .u (.int .i64 0), .u (.int .i64 0), .u (.str []), .u .nil, .u (.int .i64 0), .u (.int .i64 0), .u (.int .i64 0), .u (.str []), .u .nil, .u (.int .i64 0), .u (.int .i64 0), .u (.int .i64 0), .u (.str []), .u .nil, .u (.int .i64 0), .u (.int .i64 0), .u (.int .i64 0), .u (.str []), .u .nil]
end Go.Proofs.YthnemhfamhnfjaaGreatDoor
namespace Go.Proofs.YthnemhfamhnfjaaGreatDoor
open Go Go.VL
mutual
def zra : Exp -> Int
 | .mk _ _ _ _ args => znP args + 1
def znP : List Exp -> Int
 | [] => 0
 | e :: l => max (zra e) (znP l)
end
theorem zhw (l : List Int) (a : Int) (ha : 0 <= a) : l.foldl max a = max a (l.foldl max 0) := by
 induction l generalizing a with
 | nil => simp; omega
 | cons b l ih => simp only [List.foldl_cons]; rw [ih (max a b) (by omega), ih (max 0 b) (by omega)]; omega
mutual
theorem zkU : ∀ e : Exp, zra e = e.lev
 | .mk op n u s args => by rw [zra, Exp.zgd, zlo]; rfl
theorem zlo : ∀ l : List Exp, znP l = (l.map Exp.lev).foldl max 0
 | [] => by rw [znP]; rfl
 | e :: l => by
  have := e.lev_pos;rw [znP, zkU, zlo, List.map_cons, List.foldl_cons, zhw (l.map Exp.lev) (max 0 e.lev) (by omega)];omega
end
def zjA (s : List UInt8) : Exp × Int × Int := match zkw s with
 | .error (p, e) => (zdM, p, e)
 | .ok l => match zc4 l (4 * l.length + 3) 0 0 with
  | .stop pos e => (zdM, pos, e)
  | .ok y q => if zls l q ≠ 0 then (zdM, zcR l q, 12) else if 12 < zra y then (zdM, zcR l q, 6) else (y, 0, 0)
theorem znp (s : List UInt8) : zf5 s = zjA s := by
 unfold zf5 zjA;simp only [zkU]
 try rfl
def zi2 (l : List Tok) (p : Nat) : PR Exp := (zc4 l (4 * l.length + 3) p 0).bind fun e q =>
 if isB l q [59] = true then if zra e <= 12 then .ok e (q + 1) else .stop (zcR l q) 6 else .stop (zcR l q) 12
def zo9 (l : List Tok) : Nat -> Nat -> List Let -> PR (List Let)
 | 0, _, _ => .stop 0 0
 | f + 1, p, acc => if isB l p [108, 101, 116] = true then
   if acc.length < 20 then match l[p + 1]? with
    | none => .stop 0 0
    | some t => if t.kind = 1 ∧ zbO t.text = true then
          if (acc.any fun x => decide (x.name = t.text)) = true then .stop t.pos 5
          else (zbt l (p + 2) [[61]]).bind fun _ q => (zi2 l q).bind fun e r => zo9 l f r (acc ++ [⟨t.text, e⟩])
     else .stop t.pos 12
   else .stop (zcR l p) 6
  else .ok acc p
def zfT (l : List Tok) (p : Nat) (word : W8) : PR Exp := if isB l p word = true then zi2 l (p + 1) else .ok nothingE p
def zr0 (l : List Tok) : PR By :=
 (zfM l 0).bind fun k p => (ziw l p [112, 101, 114, 105, 111, 100]).bind fun _ p => (zdw l p [112, 101, 114, 105, 111, 100] 1 1000 [[100, 97, 121, 115], [59]]).bind fun period p =>
 (ziw l p [108, 97, 115, 116]).bind fun _ p => (zdw l p [108, 97, 115, 116] 1 1000 [[59]]).bind fun last p =>
 (zdw l p [103, 114, 97, 99, 101] 0 1000 [[100, 97, 121, 115], [59]]).bind fun grace p => (zdw l p [119, 97, 105, 116] 0 1000 [[100, 97, 121, 115], [59]]).bind fun wait p =>
 (zdP l p).bind fun order p => (zdw l p [98, 97, 99, 107, 115] 0 60 [[59]]).bind fun backs p => (zdw l p [118, 111, 105, 99, 101, 115] 0 1000 [[112, 101, 114], [109, 105, 108, 108, 101], [59]]).bind fun voices p =>
 (zdw l p [106, 117, 114, 121] 0 60 [[59]]).bind fun jury p => (zdw l p [102, 117, 110, 100] 0 1000 [[112, 101, 114], [109, 105, 108, 108, 101], [59]]).bind fun fund p =>
 (zo9 l 21 p []).bind fun lets p => (zbt l p [[100, 117, 101]]).bind fun _ p => (zi2 l p).bind fun due p =>
 (zfT l p [102, 105, 110, 101]).bind fun fine p => (zfT l p [112, 97, 121]).bind fun pay p => (zfT l p [99, 111, 118, 101, 114]).bind fun cover p => (zfT l p [104, 111, 108, 100]).bind fun hold p =>
 (zpo l p).bind fun _ p => .ok ⟨k.1, period, grace, wait, last, order, k.2, backs, voices, jury, fund, lets, due, fine, pay, cover, hold⟩ p
theorem zgA : zdz = zi2 := by
 funext l p;unfold zdz zi2;simp only [zkU]
theorem zlp (l : List Tok) : ∀ f p acc, zfL l f p acc = zo9 l f p acc
 | 0, p, acc => rfl
 | f + 1, p, acc => by
  rw [zfL, zo9, zgA];simp only [zlp l f]
  try rfl
theorem zmN : zcw = zfT := by
 funext l p w;unfold zcw zfT;rw [zgA]
theorem zqC (l : List Tok) : zoH l = zr0 l := by
 unfold zoH zr0;rw [zgA, zmN];simp only [zlp]
def zhJ (s : W8) : By × Int × Int := match zkw s with
 | .error (p, e) => (zeQ, p, e)
 | .ok l => match zr0 l with
  | .stop pos e => (zeQ, pos, e)
  | .ok b _ => (b, 0, 0)
theorem znq (s : W8) : zeR s = zhJ s := by
 unfold zeR zhJ;simp only [zqC]
 try rfl
end Go.Proofs.YthnemhfamhnfjaaGreatDoor
namespace Go.Proofs.YthnemhfamhnfjaaGreatDoor
open Go Go.VL
def eA : Exp := .mk 3 0 0 [] [.mk 1 0 0 [112, 111, 116] [], .mk 4 0 0 [] [.mk 1 0 0 [112, 97, 105, 100] [], .mk 0 50 4 [] []]]
def eS : Exp := .mk 2 0 0 [] [.mk 0 5 3 [] [], .mk 1 0 0 [112, 111, 116] []]
def eM : Exp := .mk 4 0 0 [] [.mk 0 3 1 [] [], eS]
def bB : By := ⟨2, 7, 0, 0, 10, 0, false, 0, 0, 0, 0, [], .mk 0 100 3 [] [], nothingE, nothingE, nothingE, nothingE⟩
theorem pv1 : zjA [112, 111, 116, 45, 112, 97, 105, 100, 42, 53, 48, 32, 112, 101, 114, 32, 109, 105, 108, 108, 101] = (eA, 0, 0) := by kernel_rfl
theorem pv2 : (zjA [49, 32, 99, 111, 105, 110, 115, 32, 50]) = (zdM, 8, 12) := by kernel_rfl
theorem pv3 : zhJ [99, 105, 114, 99, 108, 101, 32, 115, 97, 118, 105, 110, 103, 59, 112, 101, 114, 105, 111, 100, 32, 55, 32, 100, 97, 121, 115, 59, 108, 97, 115, 116, 32, 49, 48, 59, 103, 114, 97, 99, 101, 32, 48, 32, 100, 97, 121, 115, 59, 100, 117, 101, 32, 49, 48, 48, 32, 99, 111, 105, 110, 115, 59] = (bB, 0, 0) := by kernel_rfl
theorem pv4 : zhJ [99, 105, 114, 99, 108, 101, 32, 115, 97, 118, 105, 110, 103, 59, 112, 101, 114, 105, 111, 100, 32, 48, 32, 100, 97, 121, 115, 59] = (zeQ, 21, 3) := by kernel_rfl
theorem pv5 : zhJ [99, 105, 114, 99, 108, 101, 32, 115, 101, 97, 108, 101, 100, 59] = (zeQ, 7, 12) := by kernel_rfl
theorem zq1 (n : Nat) (h : n < 10) : Lib.decDigits n = [UInt8.ofNat (48 + n)] := by rw [Lib.decDigits, dif_pos h]
theorem zrA (n : Nat) (h : ¬ n < 10) : Lib.decDigits n = Lib.decDigits (n / 10) ++ [UInt8.ofNat (48 + n % 10)] := by rw [Lib.decDigits, dif_neg h]
theorem it3 : Lib.itoa 3 = [51] := by rw [Lib.itoa, if_neg (by decide)]; show Lib.decDigits 3 = _; rw [zq1 3 (by decide)]; rfl
theorem it5 : Lib.itoa 5 = [53] := by rw [Lib.itoa, if_neg (by decide)]; show Lib.decDigits 5 = _; rw [zq1 5 (by decide)]; rfl
theorem it7 : Lib.itoa 7 = [55] := by rw [Lib.itoa, if_neg (by decide)]; show Lib.decDigits 7 = _; rw [zq1 7 (by decide)]; rfl
theorem zsQ : Lib.itoa 10 = [49, 48] := by rw [Lib.itoa, if_neg (by decide)]; show Lib.decDigits 10 = _; rw [zrA 10 (by decide), zq1 (10 / 10) (by decide)]; rfl
theorem zsP : Lib.itoa 50 = [53, 48] := by rw [Lib.itoa, if_neg (by decide)]; show Lib.decDigits 50 = _; rw [zrA 50 (by decide), zq1 (50 / 10) (by decide)]; rfl
theorem zrG : Lib.itoa 100 = [49, 48, 48] := by rw [Lib.itoa, if_neg (by decide)]; show Lib.decDigits 100 = _; rw [zrA 100 (by decide), zrA (100 / 10) (by decide), zq1 (100 / 10 / 10) (by decide)]; rfl
theorem zie (s : W8) {least : Int} (h : least <= 7) : txt (.mk 1 0 0 s []) least = s := by
 rw [zcS (by show ¬ (7 : Int) < least; omega), zaV, zcJ, if_neg (by decide), if_pos rfl, za4]
theorem zid (n u : Int) {least : Int} (h : least <= 7) : txt (.mk 0 n u [] []) least = zbs (zdh n u) := by
 rw [zcS (by show ¬ (7 : Int) < least; omega), zaV, zcJ, if_pos rfl]
theorem tA : txt eA 0 = [112, 111, 116, 32, 45, 32, 112, 97, 105, 100, 32, 42, 32, 53, 48, 32, 112, 101, 114, 32, 109, 105, 108, 108, 101] := by
 have h1 := zeE (d := 11) (a := .mk 1 0 0 [112, 97, 105, 100] []) (b := .mk 0 50 4 [] []) (o := ⟨[42], 4, 6⟩) (by simp [oprs]) (by kernel_rfl) (by kernel_rfl);have h2 := zeE (d := 11) (a := .mk 1 0 0 [112, 111, 116] []) (b := .mk 4 0 0 [] [.mk 1 0 0 [112, 97, 105, 100] [], .mk 0 50 4 [] []]) (o := ⟨[45], 3, 5⟩) (by simp [oprs]) (by kernel_rfl) (by kernel_rfl);have e : txt eA 0 = zbs (zaV eA) := zcS (by show ¬ (5 : Int) < 0; decide);rw [e];refine Eq.trans h2 ?_;rw [zie _ (by decide)];have e2 : txt (.mk 4 0 0 [] [.mk 1 0 0 [112, 97, 105, 100] [], .mk 0 50 4 [] []]) (5 + 1) = zbs (zaV (.mk 4 0 0 [] [.mk 1 0 0 [112, 97, 105, 100] [], .mk 0 50 4 [] []])) := zcS (by show ¬ (6 : Int) < 5 + 1; decide);rw [e2];have e3 : zbs (zaV (.mk 4 0 0 [] [.mk 1 0 0 [112, 97, 105, 100] [], .mk 0 50 4 [] []])) = _ := h1;rw [e3, zie _ (by decide), zid _ _ (by decide), zdh, if_neg (by decide), if_neg (by decide), if_neg (by decide), if_pos (by decide), zsP];rfl
theorem tM : txt eM 0 = [51, 32, 42, 32, 40, 32, 53, 32, 99, 111, 105, 110, 115, 32, 43, 32, 112, 111, 116, 32, 41] := by
 have h1 := zeE (d := 11) (a := .mk 0 5 3 [] []) (b := .mk 1 0 0 [112, 111, 116] []) (o := ⟨[43], 2, 5⟩) (by simp [oprs]) (by kernel_rfl) (by kernel_rfl);have h2 := zeE (d := 11) (a := .mk 0 3 1 [] []) (b := eS) (o := ⟨[42], 4, 6⟩) (by simp [oprs]) (by kernel_rfl) (by kernel_rfl);have e : txt eM 0 = zbs (zaV eM) := zcS (by show ¬ (6 : Int) < 0; decide);rw [e];refine Eq.trans h2 ?_;have e2 : txt eS (6 + 1) = [40, 32] ++ zbs (zaV eS) ++ [32, 41] := zgm (d := 11) (by kernel_rfl) (by show (5 : Int) < 6 + 1; decide);have e3 : zbs (zaV eS) = _ := h1;rw [e2, e3, zid _ _ (by decide), zid _ _ (by decide), zie _ (by decide), zdh, if_neg (by decide), if_neg (by decide), if_neg (by decide), if_neg (by decide), zdh, if_neg (by decide), if_pos (by decide), it3, it5];rfl
theorem zsJ : txt (.mk 0 100 3 [] []) 0 = [49, 48, 48, 32, 99, 111, 105, 110, 115] := by
 rw [zid _ _ (by decide), zdh, if_neg (by decide), if_pos (by decide), zrG];rfl
theorem tB : textP bB = [99, 105, 114, 99, 108, 101, 32, 115, 97, 118, 105, 110, 103, 32, 59] ++ [10] ++ [112, 101, 114, 105, 111, 100, 32, 55, 32, 100, 97, 121, 115, 32, 59] ++ [10] ++ [108, 97, 115, 116, 32, 49, 48, 32, 59] ++ [10] ++ [100, 117, 101, 32, 49, 48, 48, 32, 99, 111, 105, 110, 115, 32, 59] ++ [10] := by
 have hk : zeq bB = [99, 105, 114, 99, 108, 101, 32, 115, 97, 118, 105, 110, 103, 32, 59] ++ [10] := by kernel_rfl
 have hd : clauseT [100, 117, 101] bB.due = [100, 117, 101, 32, 49, 48, 48, 32, 99, 111, 105, 110, 115, 32, 59] ++ [10] := by
  rw [clauseT, if_neg (by simp)];show zbz [_, txt (.mk 0 100 3 [] []) 0] = _;rw [zsJ]; kernel_rfl
 have hn : ∀ w : W8, w ≠ [100, 117, 101] -> clauseT w nothingE = [] := fun w hw => by rw [clauseT, if_pos ⟨zev _, hw⟩]
 have h7 : zbq [112, 101, 114, 105, 111, 100] bB.period [[100, 97, 121, 115]] = [112, 101, 114, 105, 111, 100, 32, 55, 32, 100, 97, 121, 115, 32, 59] ++ [10] := by
  rw [zbq, if_neg (by decide)]; show zbz [_, Lib.itoa 7, _] = _; rw [it7]; kernel_rfl
 have h10 : zbq [108, 97, 115, 116] bB.last [] = [108, 97, 115, 116, 32, 49, 48, 32, 59] ++ [10] := by
  rw [zbq, if_neg (by decide)]; show zbz [_, Lib.itoa 10] = _; rw [zsQ]; kernel_rfl
 have h0 : ∀ w ws, zbq w 0 ws = [] := fun w ws => by rw [zbq, if_pos rfl]
 rw [textP, hk, h7, h10, hd];rw [show bB.grace = 0 from rfl, show bB.wait = 0 from rfl, show bB.order = 0 from rfl, show bB.backs = 0 from rfl, show bB.voices = 0 from rfl, show bB.jury = 0 from rfl, show bB.fund = 0 from rfl, show bB.lets = [] from rfl, show bB.fine = nothingE from rfl, show bB.pay = nothingE from rfl, show bB.cover = nothingE from rfl, show bB.hold = nothingE from rfl];rw [h0, h0, h0, h0, h0, h0, hn _ (by decide), hn _ (by decide), hn _ (by decide), hn _ (by decide), show zgR 0 = [] from rfl, show zdi [] = [] from rfl];simp
end Go.Proofs.YthnemhfamhnfjaaGreatDoor
namespace Go.Proofs.YthnemhfamhnfjaaGreatDoor
open Go Go.VL
theorem zg3 {ws : List W8} (h : ws ≠ []) (hs : NoSemi ws) : zbz ws = zbw (zec (ws ++ [[59]])) := by rw [zg1 ws h hs, zbz]
theorem zjx {w : W8} {n : Int} {ws : List W8} (hw : w ≠ [59]) (h0 : 0 <= n) (h1 : n <= 1099511627776) (hs : NoSemi ws) : zbq w n ws = zbw (zec (zjw w n ws)) := by
 rw [zbq, zjw];split
 ·rfl
 ·rw [zg3 (by simp) (((hs.cons (zjT h0 h1))).cons hw)];rfl
theorem zn5 {b : By} : zeq b = zbw (zec (zfg b.kind b.sld)) := by
 rw [zeq, zfg];split
 ·exact zg3 (by simp) (by intro w hw; revert w; decide)
 ·refine zg3 (by simp) ?_;intro w hw;simp only [List.mem_cons, List.mem_nil_iff, or_false] at hw;rcases hw with rfl | rfl
  ·decide
  ·split
   ·decide
   ·split <;> decide
theorem zhi {w : W8} {e : Exp} (hw : w ≠ [59]) (he : zaC 12 e = true) : zbz [w, txt e 0] = zbw (zec (zbm w e)) := by
 rw [zkX hw he, zbz, zaY, za4, txt]
theorem zgI {w : W8} {e : Exp} (hw : w ≠ [59]) (hd : w ≠ [100, 117, 101]) (he : zaC 12 e = true) : clauseT w e = zbw (zec (restW w e)) := by
 rw [clauseT, restW];by_cases h : e = nothingE
 ·rw [if_pos ⟨zb1.2 h, hd⟩, if_pos h]; rfl
 ·rw [if_neg (by rw [zb1]; exact fun g => h g.1), if_neg h];exact zhi hw he
end Go.Proofs.YthnemhfamhnfjaaGreatDoor
namespace Go.Proofs.YthnemhfamhnfjaaGreatDoor
open Go Go.VL
def zcH (b : By) : By := { b with grace := 0, wait := 0, order := 0, backs := 0, voices := 0, jury := 0, fund := 0, lets := [], fine := nothingE }
theorem zk0 (b : By) : zqT (zcH b) := ⟨rfl, rfl, rfl, rfl, rfl, rfl, rfl, rfl, rfl⟩
theorem zgc {b : By} (h : za3 b = true) : za3 (zcH b) = true := by
 simp only [za3, zfP, zfR, Bool.and_eq_true, decide_eq_true_eq] at h ⊢;obtain ⟨⟨⟨⟨⟨⟨⟨⟨i1, i2⟩, i3⟩, i4⟩, i5⟩, hsl⟩, hLn⟩, hLb⟩, ⟨⟨⟨e1, e2⟩, e3⟩, e4⟩, e5⟩ := h;exact ⟨⟨⟨⟨⟨⟨⟨⟨i1, rfl⟩, i3⟩, rfl⟩, rfl⟩, hsl⟩, by simp [zcH]⟩, rfl⟩, ⟨⟨⟨e1, by show zaC 12 nothingE = true; kernel_rfl⟩, e3⟩, e4⟩, e5⟩
def zeO (b : By) : W8 := zeq b ++ zbq [112, 101, 114, 105, 111, 100] b.period [[100, 97, 121, 115]] ++ zbq [108, 97, 115, 116] b.last []
noncomputable def tailT (b : By) : W8 := clauseT [100, 117, 101] b.due ++ clauseT [112, 97, 121] b.pay ++ clauseT [99, 111, 118, 101, 114] b.cover ++ clauseT [104, 111, 108, 100] b.hold
theorem zkj (b : By) : textP (zcH b) = zeO b ++ tailT b := by
 have h1 : clauseT [102, 105, 110, 101] nothingE = [] := by rw [clauseT, if_pos ⟨zev _, by decide⟩]
 have hk : zeq (zcH b) = zeq b := rfl;unfold textP;rw [hk];simp only [zcH, zbq, zgR, zdi, if_true, List.map_nil, List.flatten_nil, List.append_nil, h1, zeO, tailT, List.append_assoc];rfl
theorem zpJ (b : By) : (textP (zcH b)).length <= (textP b).length := by
 rw [zkj];unfold textP zeO tailT;simp only [List.length_append];omega
theorem zq9 {ws : List W8} (h : (ws.all fun w => decide (w ≠ [59])) = true) : NoSemi ws := fun w hw => of_decide_eq_true (List.all_eq_true.1 h w hw)
theorem zod {b : By} (h : za3 b = true) : zeO b = zbw (zec (headW b)) := by
 simp only [za3, zfP, zfR, Bool.and_eq_true, decide_eq_true_eq] at h;obtain ⟨⟨⟨⟨⟨⟨⟨⟨i1, i2⟩, i3⟩, i4⟩, i5⟩, hsl⟩, hLn⟩, hLb⟩, _⟩ := h;have k1 := zfh i3 (n := b.period) (by simp);have k2 := zfh i3 (n := b.last) (by simp);rw [zeO, headW, zn5, zjx (by decide) (by omega) (by omega) (zq9 (by decide)), zjx (by decide) (by omega) (by omega) (zq9 (by decide))];simp only [zlc, zeu, List.append_assoc]
theorem zna {b : By} (h : za3 b = true) : tailT b = zbw (zec (tailW b)) := by
 simp only [za3, zfP, zfR, Bool.and_eq_true, decide_eq_true_eq] at h;obtain ⟨_, ⟨⟨⟨e1, e2⟩, e3⟩, e4⟩, e5⟩ := h;have hdue : clauseT [100, 117, 101] b.due = zbw (zec (zbm [100, 117, 101] b.due)) := by
  rw [clauseT, if_neg (by simp)];exact zhi (by decide) e1
 rw [tailT, tailW, hdue, zgI (by decide) (by decide) e3, zgI (by decide) (by decide) e4, zgI (by decide) (by decide) e5];have hnil : zbw (zec []) = [] := rfl;simp only [zlc, zeu, List.append_assoc, hnil, List.append_nil]
theorem zmD {b : By} (h : za3 b = true) : AllGood (headW b) := by
 simp only [za3, zfP, zfR, Bool.and_eq_true, decide_eq_true_eq] at h;obtain ⟨⟨⟨⟨⟨⟨⟨⟨i1, i2⟩, i3⟩, i4⟩, i5⟩, hsl⟩, hLn⟩, hLb⟩, _⟩ := h;have k1 := zfh i3 (n := b.period) (by simp);have k2 := zfh i3 (n := b.last) (by simp);exact (zn4 _ _).app ((zjv (zaR (by decide)) (by omega) (by omega) (AllGood.cons (zaR (by decide)) AllGood.nil)).app (zjv (zaR (by decide)) (by omega) (by omega) AllGood.nil))
theorem zlX {b : By} (h : za3 b = true) : AllGood (tailW b) := by
 simp only [za3, zfP, zfR, Bool.and_eq_true, decide_eq_true_eq] at h;obtain ⟨_, ⟨⟨⟨e1, e2⟩, e3⟩, e4⟩, e5⟩ := h;exact (zhh (zaR (by decide)) e1).app ((zgH (zaR (by decide)) e3).app ((zgH (zaR (by decide)) e4).app ((zgH (zaR (by decide)) e5).app AllGood.nil)))
def zeroT : W8 := zbw zeroS
theorem zlR {b : By} (h : za3 b = true) (hlen : (zeO b ++ (zeroT ++ tailT b)).length <= 2000) : zeR (zeO b ++ (zeroT ++ tailT b)) = (zcH b, 0, 0) := by
 have hb := zgc h;have e1 : zeO b = zbw (zec (headW (zcH b))) := zod (b := zcH b) hb;have e2 : tailT b = zbw (zec (tailW (zcH b))) := zna (b := zcH b) hb;rw [e1, e2, zeroT] at hlen ⊢;obtain ⟨ts, q, h1, h2⟩ := zmX hb (zk0 b) (zmD hb) (zlX hb) hlen;unfold zeR;rw [h1];simp only;rw [h2]
theorem zjK {c : UInt8} : ∀ {ws : List W8}, c ∈ zbs ws -> c = 32 \/ ∃ w ∈ ws, c ∈ w
 | [], h => by simp [zbs, spW, zbw] at h
 | [w], h => by rw [za4] at h; exact .inr ⟨w, by simp, h⟩
 | w :: v :: l, h => by
  rw [zaY] at h;rcases List.mem_append.1 h with h | h
  ·rcases List.mem_append.1 h with h | h
   ·exact .inr ⟨w, by simp, h⟩
   ·simp at h; exact .inl h
  ·rcases zjK h with h | ⟨u, hu, h⟩
   ·exact .inl h
   ·exact .inr ⟨u, List.mem_cons_of_mem _ hu, h⟩
theorem zfK {ws : List W8} (h : ∀ w ∈ ws, (10 : UInt8) ∉ w) : ∃ A : W8, zbz ws = A ++ [10] /\ A.count 10 = 0 := by
 refine ⟨zbs ws ++ [32, 59], by rw [zbz]; simp, ?_⟩;rw [List.count_eq_zero];intro hc;rcases List.mem_append.1 hc with hc | hc
 ·rcases zjK hc with hc | ⟨w, hw, hc⟩
  ·exact absurd hc (by decide)
  ·exact h w hw hc
 ·simp at hc
theorem zjU {n : Int} (h0 : 0 <= n) : (10 : UInt8) ∉ Lib.itoa n := fun h => by
 rw [Lib.itoa, if_neg (by omega)] at h;have := zdt _ _ h
 revert this
 decide
theorem zmC {b : By} (h : za3 b = true) : ∃ A : W8, zeO b = A ++ [10] /\ A.count 10 = 2 := by
 simp only [za3, zfP, zfR, Bool.and_eq_true, decide_eq_true_eq] at h;obtain ⟨⟨⟨⟨⟨⟨⟨⟨i1, i2⟩, i3⟩, i4⟩, i5⟩, hsl⟩, hLn⟩, hLb⟩, _⟩ := h;have k1 := zfh i3 (n := b.period) (by simp);have k2 := zfh i3 (n := b.last) (by simp);obtain ⟨A1, a1, c1⟩ : ∃ A : W8, zeq b = A ++ [10] /\ A.count 10 = 0 := by
  unfold zeq;refine zfK fun w hw => ?_;split at hw
  ·simp only [List.mem_cons, List.not_mem_nil, or_false] at hw;rcases hw with rfl | rfl | rfl <;> decide
  ·simp only [List.mem_cons, List.not_mem_nil, or_false] at hw;rcases hw with rfl | rfl
   ·decide
   ·split
    ·decide
    ·split <;> decide
 obtain ⟨A2, a2, c2⟩ : ∃ A : W8, zbq [112, 101, 114, 105, 111, 100] b.period [[100, 97, 121, 115]] = A ++ [10] /\ A.count 10 = 0 := by
  rw [zbq, if_neg (by omega)];refine zfK fun w hw => ?_;simp only [List.mem_cons, List.not_mem_nil, or_false] at hw;rcases hw with rfl | rfl | rfl
  ·decide
  ·exact zjU (by omega)
  ·decide
 obtain ⟨A3, a3, c3⟩ : ∃ A : W8, zbq [108, 97, 115, 116] b.last [] = A ++ [10] /\ A.count 10 = 0 := by
  rw [zbq, if_neg (by omega)];refine zfK fun w hw => ?_;simp only [List.mem_cons, List.not_mem_nil, or_false] at hw;rcases hw with rfl | rfl
  ·decide
  ·exact zjU (by omega)
 refine ⟨A1 ++ [10] ++ A2 ++ [10] ++ A3, ?_, ?_⟩
 ·rw [zeO, a1, a2, a3]; simp
 ·simp only [List.count_append, c1, c2, c3]; rfl
def zg7 (b : By) (i : Nat) : By := { b with lets := b.lets.take i ++ b.lets.drop (i + 1) }
theorem zg5 : ∀ (seen seen' L L' : List Let), zfe seen L = true -> (∀ x ∈ seen', x ∈ seen) -> L'.Sublist L -> zfe seen' L' = true
 | seen, seen', L, [], _, _, _ => rfl
 | seen, seen', [], l :: L', _, _, hs => by cases hs
 | seen, seen', l :: L, l' :: L', h, hm, hs => by
  rw [zfe, Bool.and_eq_true, Bool.and_eq_true, Bool.and_eq_true] at h;obtain ⟨⟨⟨b1, b2⟩, b3⟩, b4⟩ := h;cases hs with
  | cons _ hs => exact zg5 (seen ++ [l]) seen' L (l' :: L') b4 (fun x hx => List.mem_append_left _ (hm x hx)) hs
  | cons_cons _ hs =>
   rw [zfe, Bool.and_eq_true, Bool.and_eq_true, Bool.and_eq_true];refine ⟨⟨⟨b1, b2⟩, ?_⟩, zg5 (seen ++ [l]) (seen' ++ [l]) L L' b4 (fun x hx => ?_) hs⟩
   ·simp only [Bool.not_eq_true', List.any_eq_false, decide_eq_true_eq] at b3 ⊢;exact fun x hx => b3 x (hm x hx)
   ·rcases List.mem_append.1 hx with hx | hx
    ·exact List.mem_append_left _ (hm x hx)
    ·exact List.mem_append_right _ hx
theorem zjS {b : By} (h : za3 b = true) (i : Nat) : za3 (zg7 b i) = true := by
 have hs : (b.lets.take i ++ b.lets.drop (i + 1)).Sublist b.lets := by
  have h1 : (b.lets.take i ++ b.lets.drop (i + 1)).Sublist (b.lets.take i ++ b.lets.drop i) := (List.Sublist.refl _).append (by rw [<- List.drop_drop]; exact List.drop_sublist _ _)
  rwa [List.take_append_drop] at h1
 simp only [za3, zfP, zfR, Bool.and_eq_true, decide_eq_true_eq] at h ⊢;obtain ⟨⟨⟨⟨⟨⟨⟨⟨i1, i2⟩, i3⟩, i4⟩, i5⟩, hsl⟩, hLn⟩, hLb⟩, he⟩ := h;exact ⟨⟨⟨⟨⟨⟨⟨⟨i1, i2⟩, i3⟩, i4⟩, i5⟩, hsl⟩, Nat.le_trans hs.length_le hLn⟩, zg5 [] [] _ _ hLb (fun _ h => h) hs⟩, he⟩
theorem znU (b : By) {i : Nat} {l : Let} (hl : b.lets[i]? = some l) : ∃ A B : W8, textP b = A ++ (ziY l ++ B) /\ textP (zg7 b i) = A ++ B := by
 have e : zdi b.lets = zdi (b.lets.take i) ++ (ziY l ++ zdi (b.lets.drop (i + 1))) := by
  obtain ⟨hp, hx⟩ := lGE.1 hl;have h1 := (List.take_append_drop i b.lets).symm;rw [List.drop_eq_getElem_cons hp, hx] at h1;have h2 := congrArg zdi h1;unfold zdi at h2 ⊢;simpa using h2
 have e2 : zdi (b.lets.take i ++ b.lets.drop (i + 1)) = zdi (b.lets.take i) ++ zdi (b.lets.drop (i + 1)) := by unfold zdi; simp
 refine ⟨zeq b ++ zbq [112, 101, 114, 105, 111, 100] b.period [[100, 97, 121, 115]] ++ zbq [108, 97, 115, 116] b.last [] ++ zbq [103, 114, 97, 99, 101] b.grace [[100, 97, 121, 115]] ++ zbq [119, 97, 105, 116] b.wait [[100, 97, 121, 115]] ++ zgR b.order ++ zbq [98, 97, 99, 107, 115] b.backs [] ++ zbq [118, 111, 105, 99, 101, 115] b.voices [[112, 101, 114], [109, 105, 108, 108, 101]] ++ zbq [106, 117, 114, 121] b.jury [] ++ zbq [102, 117, 110, 100] b.fund [[112, 101, 114], [109, 105, 108, 108, 101]] ++ zdi (b.lets.take i),
  zdi (b.lets.drop (i + 1)) ++ clauseT [100, 117, 101] b.due ++ clauseT [102, 105, 110, 101] b.fine ++ clauseT [112, 97, 121] b.pay ++ clauseT [99, 111, 118, 101, 114] b.cover ++ clauseT [104, 111, 108, 100] b.hold, ?_, ?_⟩
 ·unfold textP;rw [e];simp only [List.append_assoc]
 ·unfold textP;have hk : zeq (zg7 b i) = zeq b := rfl;rw [hk];simp only [zg7];rw [e2];simp only [List.append_assoc]
end Go.Proofs.YthnemhfamhnfjaaGreatDoor
namespace Go.Proofs.YthnemhfamhnfjaaGreatDoor
open Go Go.VL
def zd6 : Nat -> U -> U
 | 0, x => x
 | _ + 1, .nil => .sl []
 | n + 1, .sl rows => .sl (rows.map fun r => r.map (zd6 n))
 | n + 1, .agg cs => .agg (cs.map (zd6 n))
 | _ + 1, x => x
theorem ziK {m : Mem} : ∀ (n : Nat) {x : U} {v : Value}, RepU m x v -> RepU m (zd6 n x) v
 | 0, x, v, h => by rw [zd6]; exact h
 | n + 1, x, v, h => by
  cases h with
  | map kk ag es0 es hp b ents clock f h1 h2 h3 h4 => exact .map kk ag es0 es hp b ents clock f h1 h2 h3 h4
  | nil => rw [zd6]; exact .slE none 0 fun _ => rfl
  | int k n => exact .int k n
  | bool b => exact .bool b
  | str l => exact .str l
  | oth v => cases x' : U.oth v <;> first | (cases x'; rw [zd6] <;> first | exact .oth _ | (intros; contradiction)) | cases x'
  | slE a c h => rw [zd6]; exact .slE a c h
  | row cells off b o f h1 h2 => exact .row cells off b o f h1 h2
  | sl rows b o sz c f h1 h2 h3 h4 h5 =>
   rw [zd6];have := RepU.sl (m := m) (rows.map fun r => r.map (zd6 n)) b o sz c f (by simpa using h1) h2 (fun r hr => by
    obtain ⟨r0, hr0, rfl⟩ := List.mem_map.1 hr;simpa using h3 r0 hr0) (fun i hi => h4 i (by simpa using hi)) (fun i r hi j u hj => by
    rw [List.getElem?_map] at hi;cases hc : rows[i]? with
    | none => rw [hc] at hi; cases hi
    | some r0 =>
     rw [hc] at hi; cases hi;rw [List.getElem?_map] at hj;cases hd : r0[j]? with
     | none => rw [hd] at hj; cases hj
     | some u0 => rw [hd] at hj; cases hj; exact ziK n (h5 i r0 hc j u0 hd))
   simpa using this
  | agg cells vs h1 h2 =>
   rw [zd6];refine .agg _ vs (by simpa using h1) fun j u hj => ?_;rw [List.getElem?_map] at hj;cases hc : cells[j]? with
   | none => rw [hc] at hj; cases hj
   | some e => rw [hc] at hj; cases hj; exact ziK n (h2 j e hc)
theorem Fun.zqP {P : Program} {f : FuncId} {us : List U} {post : D -> Prop} (n : Nat) (h : Fun P f (us.map fun u => .u (zd6 n u)) post) : Fun P f (us.map .u) post := by
 intro k own w vs hsat hhdr hown hrep;refine h k own w vs hsat hhdr hown ⟨by simpa using hrep.1, fun j d hj => ?_⟩;rw [List.getElem?_map] at hj;cases hc : us[j]? with
 | none => rw [hc] at hj; cases hj
 | some u =>
  rw [hc] at hj; cases hj;have h1 := hrep.2 j (.u u) (by rw [List.getElem?_map, hc]; rfl);generalize vs.getD j undef = v at h1;cases h1 with
  | u _ _ h1 => exact .u _ _ (ziK n h1)
theorem rA : zaC 12 eA = true := by kernel_rfl
theorem rM : zaC 12 eM = true := by kernel_rfl
theorem rS : zaC 12 eS = true := by kernel_rfl
theorem rZ : zaC 12 (.mk 1 0 0 [] []) = false := by kernel_rfl
theorem rB : za3 bB = true := by kernel_rfl
theorem rz : za3 zeQ = false := by kernel_rfl
theorem nP : zbO [112, 101, 114, 105, 111, 100] = true := by kernel_rfl
theorem nC : zbO [99, 111, 105, 110, 115] = false := by kernel_rfl
end Go.Proofs.YthnemhfamhnfjaaGreatDoor
namespace Go.Proofs.YthnemhfamhnfjaaGreatDoor
open Go Go.VL
theorem znT {b : By} {i : Nat} {l : Let} {A B : W8} (h : za3 b = true) (hl : b.lets[i]? = some l) (hT : textP b = A ++ (ziY l ++ B)) (hlen : (textP b).length <= 2000) : zgP l.body = (txt l.body 0, 0) := by
 simp only [za3, zfP, zfR, Bool.and_eq_true, decide_eq_true_eq] at h;obtain ⟨⟨_, hLb⟩, _⟩ := h;have h2 := (zg6 [] b.lets hLb l (List.mem_of_getElem? hl)).2;have h3 : (txt l.body 0).length <= 2000 := by
  rw [hT] at hlen;have : ziY l = [108, 101, 116, 32] ++ (l.name ++ ([32, 61, 32] ++ (txt l.body 0 ++ [32, 59, 10]))) := by simp [ziY, zbz, zaY, za4]
  rw [this] at hlen;simp only [List.length_append] at hlen;omega
 rw [zgP, if_pos h2, if_neg (by omega)]
theorem zqp (l : Let) : 108 :: 101 :: 116 :: 32 :: (l.name ++ 32 :: 61 :: 32 :: (txt l.body 0 ++ [32, 59, 10])) = ziY l := by simp [ziY, zbz, zaY, za4]
end Go.Proofs.YthnemhfamhnfjaaGreatDoor
namespace Go.Proofs.YthnemhfamhnfjaaGreatDoor
open Go Go.VL
attribute [local simp] HS zc2 zck evPure opd uOf zaH St.put St.at getK binD binI binS binB nilD aggD zhr zh0 lookD lookR zcz Go.VL.nextD zcC ziz zia zgs zcu mkV zdn zbo zby mapEff zeb zgf Key.kk shiftI arith unD convD zdO loadD cellsAt fieldAddrD fieldD indexAddrD indexD sliceD cutD lenD minmaxD nilCheckD buildD fillD zbR zdd zeM setAll zcK zeS zcq zhB zcn St.add zaQ zbI rowsOf zdJ zcD zak zac zaa zbn zdb zba entry zbK zbT valD zb3 zcx zhn zdl zdm zbU zbM zav zaX zbr delAll effD St.effS zc8 zbg za5 zda zbh za7 zcc za6 zaW zcd zcX zbD zb7 zbp zb5 zb6 zaJ mkD zbV zbB zbL zav zco D.ids Op.operands Call.operands zbG makeIfD makeFuncD typeAssertD zhZ zdx zdy zhD zcA IntKind.bits zcL List.take_of_length_le List.range_succ
attribute [local irreducible] V G H HD HD2 HD4 zkz RetX zao Eff CallP CallV EndOK Fun Ret FinOK LoopI LoopW EndW
set_option maxHeartbeats 40000000 in
theorem znk (b : By) (hb : za3 b = true) : RetX Tryz.prog 19 [.u (.agg (za1 b))] [] 0 (fun r o n => r = .val (.tup [.u (.str (printB b).1), .u (.int .i64 (printB b).2)])) := by
 have hri := zd1 b;rw [hb] at hri;have hh := hb;simp only [za3, zfP, zfR, Bool.and_eq_true, decide_eq_true_eq] at hh;obtain ⟨⟨⟨⟨⟨⟨⟨⟨i1, i2⟩, i3⟩, i4⟩, i5⟩, hsl⟩, hLn⟩, hLb⟩, ⟨⟨⟨hrdue, hrfine⟩, hrpay⟩, hrcover⟩, hrhold⟩ := hh;have hLs := zg6 [] b.lets hLb;simp only [inB, List.any_cons, List.any_nil, Bool.or_false, Bool.not_eq_true', Bool.or_eq_false_iff, decide_eq_false_iff_not, Int.not_lt] at i1 i2 i3 i4 i5;have hca : zam Tryz.prog 62 = true := by kernel_rfl
 have hprB : printB b = if 2000 < (textP b).length then ([], 6) else (textP b, 0) := by unfold printB; rw [if_pos hb]
 rw [hprB];generalize hT : textP b = TT;obtain ⟨T0, e0⟩ : ∃ T0, T0 = zeq b := ⟨_, rfl⟩;have m0 : T0.length <= 100 := by
  rw [e0, zeq, zbz];split
  ·decide
  ·split
   ·decide
   ·split <;> decide
 have hok : True := trivial;clear hLb;unfold za1 at hri ⊢;obtain ⟨CL, hCL⟩ : ∃ CL : List D, CL = [.u (.int .i64 b.kind), .u (.int .i64 b.period), .u (.int .i64 b.grace), .u (.int .i64 b.wait), .u (.int .i64 b.last), .u (.int .i64 b.order), .u (.bool b.sld), .u (.int .i64 b.backs), .u (.int .i64 b.voices), .u (.int .i64 b.jury), .u (.int .i64 b.fund), .u (.sl (b.lets.map fun l => [.str l.name, .int .i64 l.body.op, .int .i64 l.body.n, .int .i64 l.body.unit, .str l.body.s, .sl (l.body.args.map Exp.row)])), .u (.int .i64 b.due.op), .u (.int .i64 b.due.n), .u (.int .i64 b.due.unit), .u (.str b.due.s), .u (.sl (b.due.args.map Exp.row)), .u (.int .i64 b.fine.op), .u (.int .i64 b.fine.n), .u (.int .i64 b.fine.unit), .u (.str b.fine.s), .u (.sl (b.fine.args.map Exp.row)), .u (.int .i64 b.pay.op), .u (.int .i64 b.pay.n), .u (.int .i64 b.pay.unit), .u (.str b.pay.s), .u (.sl (b.pay.args.map Exp.row)), .u (.int .i64 b.cover.op), .u (.int .i64 b.cover.n), .u (.int .i64 b.cover.unit), .u (.str b.cover.s), .u (.sl (b.cover.args.map Exp.row)), .u (.int .i64 b.hold.op), .u (.int .i64 b.hold.n), .u (.int .i64 b.hold.unit), .u (.str b.hold.s), .u (.sl (b.hold.args.map Exp.row))] := ⟨_, rfl⟩
 (refine RetX.of_bodyW Tryz.func19 rfl (by simp) fun Γ hn hpan => ?_); simp only [entry, ziC, ziN, maC, maN, oA, Tryz.ntmps19]
 apply zk3 (S := { n := 118, env := [(1, .ptr 0 0), (4, .ptr 1 0), (5, .ptr 2 0), (6, .fnc (.func 55) [.ptr 2 0]), (7, .fnc (.func 57) [.ptr 2 0])], obs := [(0, .box [.u (.int .i64 b.kind), .u (.int .i64 b.period), .u (.int .i64 b.grace), .u (.int .i64 b.wait), .u (.int .i64 b.last), .u (.int .i64 b.order), .u (.bool b.sld), .u (.int .i64 b.backs), .u (.int .i64 b.voices), .u (.int .i64 b.jury), .u (.int .i64 b.fund), .u (.sl (b.lets.map fun l => [.str l.name, .int .i64 l.body.op, .int .i64 l.body.n, .int .i64 l.body.unit, .str l.body.s, .sl (l.body.args.map Exp.row)])), .u (.int .i64 b.due.op), .u (.int .i64 b.due.n), .u (.int .i64 b.due.unit), .u (.str b.due.s), .u (.sl (b.due.args.map Exp.row)), .u (.int .i64 b.fine.op), .u (.int .i64 b.fine.n), .u (.int .i64 b.fine.unit), .u (.str b.fine.s), .u (.sl (b.fine.args.map Exp.row)), .u (.int .i64 b.pay.op), .u (.int .i64 b.pay.n), .u (.int .i64 b.pay.unit), .u (.str b.pay.s), .u (.sl (b.pay.args.map Exp.row)), .u (.int .i64 b.cover.op), .u (.int .i64 b.cover.n), .u (.int .i64 b.cover.unit), .u (.str b.cover.s), .u (.sl (b.cover.args.map Exp.row)), .u (.int .i64 b.hold.op), .u (.int .i64 b.hold.n), .u (.int .i64 b.hold.unit), .u (.str b.hold.s), .u (.sl (b.hold.args.map Exp.row))]), (2, zb0), (1, zc7 3 T0), (3, zc6 T0)], next := 4 })
 case main =>
  intro key;cases hsd : b.sld with
  | true =>
   rw [zeq, if_pos hsd] at e0;have hln := fun nx (h : 3 <= nx) => zgr [[99, 105, 114, 99, 108, 101], [98, 105, 100, 100, 105, 110, 103], [115, 101, 97, 108, 101, 100]] 1 nx (by omega) (by rw [<- e0]; omega) (by simp);rw [<- e0] at hln;simp only [List.map_cons, List.map_nil] at hln
   repeat' (first
  | (refine zgx (by first | (simp; done) | fail) (by simp) ?_; simp)
  | ((first | refine zae ?_ | refine zaj ?_ | refine zah ?_ | refine zai ?_ | refine zax ?_ | fail); simp [hsd])
  | (refine zap ?_; simp only [zao])
  | (refine CallP.fE (hri) (by first | rfl | fail) (by first | simp [hsd] <;> rfl | fail) ⟨by first | assumption | (simp; done) | fail, by simp, ?_⟩; (try simp [hsd]))
  | (refine zas (by first | rfl | fail) ?_; simp [hsd, frzN, frz1, zaA, zaz, St.frz, St.frzS, frzS, fv, zaF, zbb, zbe, zaE, zau, zal, del, frz, zbf])
  | fail)
   refine CallP.okL (hln _ (by simp)) (by simp [zaa, getK]) (by rfl) (by rfl) ⟨by first | assumption | (simp; done), by simp, ?_⟩;simp [zcW, del];refine zaj ?_;simp only [zao];refine zgw _ ?_ key;exact (Wk.ren ((fun x => if x = 3 then 5 else x)) rfl (by first | (simp [hn]; done) | (intro i hi; rw [hn] at hi; constructor <;> (try simp) <;> (try (intro _)) <;> omega)) (by simp [zge, St.lp, zan, zaa, getK, zac, zak, D.under, D.le, D.ren] <;> (try (intros; simp_all; done)) <;> (try omega)) (by simp [wkR, St.lp, zaa, getK, zac, zak, obR, leU, zbi, zaO, Ob.under, D.under, D.le, D.ren] <;> (try (intros; simp_all; done)) <;> (try omega)) (by simp))
  | false =>
   have hk3 : b.kind = 0 \/ b.kind = 1 \/ b.kind = 2 := by omega
   have go : ∀ (kw : W8) (kd : Int), b.kind = kd -> (kd = 0 /\ kw = [114, 111, 116, 97, 116, 105, 110, 103] \/ kd = 1 /\ kw = [98, 105, 100, 100, 105, 110, 103] \/ kd = 2 /\ kw = [115, 97, 118, 105, 110, 103]) -> T0 = zbz [[99, 105, 114, 99, 108, 101], kw] := fun kw kd h1 h2 => by
    rw [e0, zeq, hsd];rcases h2 with ⟨rfl, rfl⟩ | ⟨rfl, rfl⟩ | ⟨rfl, rfl⟩ <;> simp [h1]
   rcases hk3 with hk0 | hk0 | hk0
   ·have e1 := go [114, 111, 116, 97, 116, 105, 110, 103] 0 hk0 (by decide);have hln := fun nx (h : 3 <= nx) => zgr [[99, 105, 114, 99, 108, 101], [114, 111, 116, 97, 116, 105, 110, 103]] 1 nx (by omega) (by rw [<- e1]; omega) (by simp);rw [<- e1] at hln;simp only [List.map_cons, List.map_nil] at hln
    repeat' (first
  | (refine zgx (by first | (simp; done) | fail) (by simp) ?_; simp)
  | (refine zdj ?_; simp [hsd, hk0])
  | (refine zd9 rfl rfl (by decide +kernel) (by first | (simp [hn]; done) | (simp [hn]; omega) | fail) fun C k hC hk => ?_; simp [hsd, hk0])
  | ((first | refine zae ?_ | refine zaU rfl ?_ | refine zbJ rfl ?_ | refine zaj ?_ | refine zah ?_ | refine zai ?_ | fail); simp [hsd, hk0])
  | (refine za8 (hC _ (by kernel_rfl)) (hk _ ?_); clear hC hk C k; simp only [zao])
  | (refine zap ?_; simp only [zao])
  | (refine CallP.fE (hri) (by first | rfl | fail) (by first | simp [hsd, hk0] <;> rfl | fail) ⟨by first | assumption | (simp; done) | fail, by simp, ?_⟩; (try simp [hsd, hk0]))
  | (refine zas (by first | rfl | fail) ?_; simp [hsd, hk0, frzN, frz1, zaA, zaz, St.frz, St.frzS, frzS, fv, zaF, zbb, zbe, zaE, zau, zal, del, frz, zbf])
  | fail)
    refine CallP.okL (hln _ (by simp)) (by simp [zaa, getK]) (by rfl) (by rfl) ⟨by first | assumption | (simp; done), by simp, ?_⟩;simp [zcW, del];refine zaj ?_;simp only [zao];refine zgw _ ?_ key;exact (Wk.ren ((fun x => if x = 3 then 6 else x)) rfl (by first | (simp [hn]; done) | (intro i hi; rw [hn] at hi; constructor <;> (try simp) <;> (try (intro _)) <;> omega)) (by simp [zge, St.lp, zan, zaa, getK, zac, zak, D.under, D.le, D.ren] <;> (try (intros; simp_all; done)) <;> (try omega)) (by simp [wkR, St.lp, zaa, getK, zac, zak, obR, leU, zbi, zaO, Ob.under, D.under, D.le, D.ren] <;> (try (intros; simp_all; done)) <;> (try omega)) (by simp))
   ·have e1 := go [98, 105, 100, 100, 105, 110, 103] 1 hk0 (by decide);have hln := fun nx (h : 3 <= nx) => zgr [[99, 105, 114, 99, 108, 101], [98, 105, 100, 100, 105, 110, 103]] 1 nx (by omega) (by rw [<- e1]; omega) (by simp);rw [<- e1] at hln;simp only [List.map_cons, List.map_nil] at hln
    repeat' (first
  | (refine zgx (by first | (simp; done) | fail) (by simp) ?_; simp)
  | (refine zdj ?_; simp [hsd, hk0])
  | (refine zd9 rfl rfl (by decide +kernel) (by first | (simp [hn]; done) | (simp [hn]; omega) | fail) fun C k hC hk => ?_; simp [hsd, hk0])
  | ((first | refine zae ?_ | refine zaU rfl ?_ | refine zbJ rfl ?_ | refine zaj ?_ | refine zah ?_ | refine zai ?_ | fail); simp [hsd, hk0])
  | (refine za8 (hC _ (by kernel_rfl)) (hk _ ?_); clear hC hk C k; simp only [zao])
  | (refine zap ?_; simp only [zao])
  | (refine CallP.fE (hri) (by first | rfl | fail) (by first | simp [hsd, hk0] <;> rfl | fail) ⟨by first | assumption | (simp; done) | fail, by simp, ?_⟩; (try simp [hsd, hk0]))
  | (refine zas (by first | rfl | fail) ?_; simp [hsd, hk0, frzN, frz1, zaA, zaz, St.frz, St.frzS, frzS, fv, zaF, zbb, zbe, zaE, zau, zal, del, frz, zbf])
  | fail)
    refine CallP.okL (hln _ (by simp)) (by simp [zaa, getK]) (by rfl) (by rfl) ⟨by first | assumption | (simp; done), by simp, ?_⟩;simp [zcW, del];refine zaj ?_;simp only [zao];refine zgw _ ?_ key;exact (Wk.ren ((fun x => if x = 3 then 6 else x)) rfl (by first | (simp [hn]; done) | (intro i hi; rw [hn] at hi; constructor <;> (try simp) <;> (try (intro _)) <;> omega)) (by simp [zge, St.lp, zan, zaa, getK, zac, zak, D.under, D.le, D.ren] <;> (try (intros; simp_all; done)) <;> (try omega)) (by simp [wkR, St.lp, zaa, getK, zac, zak, obR, leU, zbi, zaO, Ob.under, D.under, D.le, D.ren] <;> (try (intros; simp_all; done)) <;> (try omega)) (by simp))
   ·have e1 := go [115, 97, 118, 105, 110, 103] 2 hk0 (by decide);have hln := fun nx (h : 3 <= nx) => zgr [[99, 105, 114, 99, 108, 101], [115, 97, 118, 105, 110, 103]] 1 nx (by omega) (by rw [<- e1]; omega) (by simp);rw [<- e1] at hln;simp only [List.map_cons, List.map_nil] at hln
    repeat' (first
  | (refine zgx (by first | (simp; done) | fail) (by simp) ?_; simp)
  | (refine zdj ?_; simp [hsd, hk0])
  | (refine zd9 rfl rfl (by decide +kernel) (by first | (simp [hn]; done) | (simp [hn]; omega) | fail) fun C k hC hk => ?_; simp [hsd, hk0])
  | ((first | refine zae ?_ | refine zaU rfl ?_ | refine zbJ rfl ?_ | refine zaj ?_ | refine zah ?_ | refine zai ?_ | fail); simp [hsd, hk0])
  | (refine za8 (hC _ (by kernel_rfl)) (hk _ ?_); clear hC hk C k; simp only [zao])
  | (refine zap ?_; simp only [zao])
  | (refine CallP.fE (hri) (by first | rfl | fail) (by first | simp [hsd, hk0] <;> rfl | fail) ⟨by first | assumption | (simp; done) | fail, by simp, ?_⟩; (try simp [hsd, hk0]))
  | (refine zas (by first | rfl | fail) ?_; simp [hsd, hk0, frzN, frz1, zaA, zaz, St.frz, St.frzS, frzS, fv, zaF, zbb, zbe, zaE, zau, zal, del, frz, zbf])
  | fail)
    refine CallP.okL (hln _ (by simp)) (by simp [zaa, getK]) (by rfl) (by rfl) ⟨by first | assumption | (simp; done), by simp, ?_⟩;simp [zcW, del];refine zaj ?_;simp only [zao];refine zgw _ ?_ key;exact (Wk.ren ((fun x => if x = 3 then 6 else x)) rfl (by first | (simp [hn]; done) | (intro i hi; rw [hn] at hi; constructor <;> (try simp) <;> (try (intro _)) <;> omega)) (by simp [zge, St.lp, zan, zaa, getK, zac, zak, D.under, D.le, D.ren] <;> (try (intros; simp_all; done)) <;> (try omega)) (by simp [wkR, St.lp, zaa, getK, zac, zak, obR, leU, zbi, zaO, Ob.under, D.under, D.le, D.ren] <;> (try (intros; simp_all; done)) <;> (try omega)) (by simp))
 case key =>
 rw [<- hCL];have x0 : CL[0]? = some (.u (.int .i64 b.kind)) := by rw [hCL]; rfl
 have x1 : CL[1]? = some (.u (.int .i64 b.period)) := by rw [hCL]; rfl
 have x2 : CL[2]? = some (.u (.int .i64 b.grace)) := by rw [hCL]; rfl
 have x3 : CL[3]? = some (.u (.int .i64 b.wait)) := by rw [hCL]; rfl
 have x4 : CL[4]? = some (.u (.int .i64 b.last)) := by rw [hCL]; rfl
 have x5 : CL[5]? = some (.u (.int .i64 b.order)) := by rw [hCL]; rfl
 have x6 : CL[6]? = some (.u (.bool b.sld)) := by rw [hCL]; rfl
 have x7 : CL[7]? = some (.u (.int .i64 b.backs)) := by rw [hCL]; rfl
 have x8 : CL[8]? = some (.u (.int .i64 b.voices)) := by rw [hCL]; rfl
 have x9 : CL[9]? = some (.u (.int .i64 b.jury)) := by rw [hCL]; rfl
 have x10 : CL[10]? = some (.u (.int .i64 b.fund)) := by rw [hCL]; rfl
 have x11 : CL[11]? = some (.u (.sl (b.lets.map fun l => [.str l.name, .int .i64 l.body.op, .int .i64 l.body.n, .int .i64 l.body.unit, .str l.body.s, .sl (l.body.args.map Exp.row)]))) := by rw [hCL]; rfl
 have x12 : CL[12]? = some (.u (.int .i64 b.due.op)) := by rw [hCL]; rfl
 have x13 : CL[13]? = some (.u (.int .i64 b.due.n)) := by rw [hCL]; rfl
 have x14 : CL[14]? = some (.u (.int .i64 b.due.unit)) := by rw [hCL]; rfl
 have x15 : CL[15]? = some (.u (.str b.due.s)) := by rw [hCL]; rfl
 have x16 : CL[16]? = some (.u (.sl (b.due.args.map Exp.row))) := by rw [hCL]; rfl
 have x17 : CL[17]? = some (.u (.int .i64 b.fine.op)) := by rw [hCL]; rfl
 have x18 : CL[18]? = some (.u (.int .i64 b.fine.n)) := by rw [hCL]; rfl
 have x19 : CL[19]? = some (.u (.int .i64 b.fine.unit)) := by rw [hCL]; rfl
 have x20 : CL[20]? = some (.u (.str b.fine.s)) := by rw [hCL]; rfl
 have x21 : CL[21]? = some (.u (.sl (b.fine.args.map Exp.row))) := by rw [hCL]; rfl
 have x22 : CL[22]? = some (.u (.int .i64 b.pay.op)) := by rw [hCL]; rfl
 have x23 : CL[23]? = some (.u (.int .i64 b.pay.n)) := by rw [hCL]; rfl
 have x24 : CL[24]? = some (.u (.int .i64 b.pay.unit)) := by rw [hCL]; rfl
 have x25 : CL[25]? = some (.u (.str b.pay.s)) := by rw [hCL]; rfl
 have x26 : CL[26]? = some (.u (.sl (b.pay.args.map Exp.row))) := by rw [hCL]; rfl
 have x27 : CL[27]? = some (.u (.int .i64 b.cover.op)) := by rw [hCL]; rfl
 have x28 : CL[28]? = some (.u (.int .i64 b.cover.n)) := by rw [hCL]; rfl
 have x29 : CL[29]? = some (.u (.int .i64 b.cover.unit)) := by rw [hCL]; rfl
 have x30 : CL[30]? = some (.u (.str b.cover.s)) := by rw [hCL]; rfl
 have x31 : CL[31]? = some (.u (.sl (b.cover.args.map Exp.row))) := by rw [hCL]; rfl
 have x32 : CL[32]? = some (.u (.int .i64 b.hold.op)) := by rw [hCL]; rfl
 have x33 : CL[33]? = some (.u (.int .i64 b.hold.n)) := by rw [hCL]; rfl
 have x34 : CL[34]? = some (.u (.int .i64 b.hold.unit)) := by rw [hCL]; rfl
 have x35 : CL[35]? = some (.u (.str b.hold.s)) := by rw [hCL]; rfl
 have x36 : CL[36]? = some (.u (.sl (b.hold.args.map Exp.row))) := by rw [hCL]; rfl
 have xs := And.intro x0 <| And.intro x1 <| And.intro x2 <| And.intro x3 <| And.intro x4 <| And.intro x5 <| And.intro x6 <| And.intro x7 <| And.intro x8 <| And.intro x9 <| And.intro x10 <| And.intro x11 <| And.intro x12 <| And.intro x13 <| And.intro x14 <| And.intro x15 <| And.intro x16 <| And.intro x17 <| And.intro x18 <| And.intro x19 <| And.intro x20 <| And.intro x21 <| And.intro x22 <| And.intro x23 <| And.intro x24 <| And.intro x25 <| And.intro x26 <| And.intro x27 <| And.intro x28 <| And.intro x29 <| And.intro x30 <| And.intro x31 <| And.intro x32 <| And.intro x33 <| And.intro x34 <| And.intro x35 x36
 have xun : (∀ x : D, x ∈ CL -> D.under 4 x = true) = True := eq_true (by rw [hCL]; simp [D.under]);have y12 : 17 <= CL.length := by rw [hCL]; simp
 have z12 : List.take 5 (List.drop 12 CL) = [.u (.int .i64 b.due.op), .u (.int .i64 b.due.n), .u (.int .i64 b.due.unit), .u (.str b.due.s), .u (.sl (b.due.args.map Exp.row))] := by rw [hCL]; rfl
 have y17 : 22 <= CL.length := by rw [hCL]; simp
 have z17 : List.take 5 (List.drop 17 CL) = [.u (.int .i64 b.fine.op), .u (.int .i64 b.fine.n), .u (.int .i64 b.fine.unit), .u (.str b.fine.s), .u (.sl (b.fine.args.map Exp.row))] := by rw [hCL]; rfl
 have y22 : 27 <= CL.length := by rw [hCL]; simp
 have z22 : List.take 5 (List.drop 22 CL) = [.u (.int .i64 b.pay.op), .u (.int .i64 b.pay.n), .u (.int .i64 b.pay.unit), .u (.str b.pay.s), .u (.sl (b.pay.args.map Exp.row))] := by rw [hCL]; rfl
 have y27 : 32 <= CL.length := by rw [hCL]; simp
 have z27 : List.take 5 (List.drop 27 CL) = [.u (.int .i64 b.cover.op), .u (.int .i64 b.cover.n), .u (.int .i64 b.cover.unit), .u (.str b.cover.s), .u (.sl (b.cover.args.map Exp.row))] := by rw [hCL]; rfl
 have y32 : 37 <= CL.length := by rw [hCL]; simp
 have z32 : List.take 5 (List.drop 32 CL) = [.u (.int .i64 b.hold.op), .u (.int .i64 b.hold.n), .u (.int .i64 b.hold.unit), .u (.str b.hold.s), .u (.sl (b.hold.args.map Exp.row))] := by rw [hCL]; rfl
 have xfz : ∀ σ, CL.map (frzS σ) = CL := fun σ => by rw [hCL]; simp [VL.frzS]
 have xle : ∀ ρ nx, leU ρ nx CL CL := fun ρ nx => by rw [hCL]; simp [leU, D.le, D.ren, D.under]
 have p1 := zcZ T0 [112, 101, 114, 105, 111, 100] b.period [[100, 97, 121, 115]];obtain ⟨T1, e1⟩ : ∃ T1, T1 = T0 ++ zbq [112, 101, 114, 105, 111, 100] b.period [[100, 97, 121, 115]] := ⟨_, rfl⟩;have l1 : (zbq [112, 101, 114, 105, 111, 100] b.period [[100, 97, 121, 115]]).length <= 100 := zc0 (by omega) (by omega) (by decide);have m1 : T1.length <= T0.length + 100 := by rw [e1, List.length_append]; omega
 rw [<- e1] at p1
 repeat' (first
  | ((first | refine zae ?_ | refine zah ?_ | fail); simp [xs, xfz])
  | (refine zas (by first | rfl | fail) ?_; simp [xs, xfz, frzN, frz1, zaA, zaz, St.frz, St.frzS, frzS, fv, zaF, zbb, zbe, zaE, zau, zal, del, frz, zbf])
  | fail)
 refine CallP.okE (p1 3 _ (by omega) (by first | omega | simp <;> omega | fail) (by omega) (by omega) (by omega) (by simp)) (by first | (simp [zaa, getK, zab, zac]; done) | fail) (by rfl) (by first | assumption | (simp; done) | fail) (by rfl) (by simp) ?_;rintro d o N hN ⟨rfl, j', h3, hlt, hge, rfl⟩;simp at hge;have q0 : ¬ j' = 0 := by omega
 have q1 : ¬ j' = 1 := by omega
 have q2 : ¬ j' = 2 := by omega
 have q3 : ¬ 0 = j' := by omega
 have q4 : ¬ 1 = j' := by omega
 have q5 : ¬ 2 = j' := by omega
 have qs := And.intro q0 <| And.intro q1 <| And.intro q2 <| And.intro q3 <| And.intro q4 q5
 simp [zcW, del];refine zaj ?_;simp only [zao];refine zgw { n := 118, env := [(1, .ptr 0 0), (4, .ptr 1 0), (5, .ptr 2 0), (6, .fnc (.func 55) [.ptr 2 0]), (7, .fnc (.func 57) [.ptr 2 0])], obs := [(0, .box CL), (2, zb0), (1, zc7 3 T1), (3, zc6 T1)], next := 4 } (Wk.ren ((fun x => if x = 3 then j' else x)) rfl (by first | (simp [hn]; done) | (intro i hi; rw [hn] at hi; constructor <;> (try simp) <;> (try (intro _)) <;> omega)) (by simp [zge, St.lp, zan, zaa, getK, zac, zak, D.under, D.le, D.ren, h3, hlt, qs, xle, xfz] <;> (try (intros; simp_all; done)) <;> (try omega)) (by simp [wkR, St.lp, zaa, getK, zac, zak, obR, leU, zbi, zaO, Ob.under, D.under, D.le, D.ren, h3, hlt, qs, xle, xfz] <;> (try (intros; simp_all; done)) <;> (try omega)) (by simp [h3, hlt, qs, xle, xfz])) ?_;have p2 := zcZ T1 [108, 97, 115, 116] b.last [];obtain ⟨T2, e2⟩ : ∃ T2, T2 = T1 ++ zbq [108, 97, 115, 116] b.last [] := ⟨_, rfl⟩;have l2 : (zbq [108, 97, 115, 116] b.last []).length <= 100 := zc0 (by omega) (by omega) (by decide);have m2 : T2.length <= T1.length + 100 := by rw [e2, List.length_append]; omega
 rw [<- e2] at p2
 repeat' (first
  | ((first | refine zae ?_ | refine zah ?_ | fail); simp [xs, xfz])
  | fail)
 refine CallP.okE (zkN (p2 3 _ (by omega) (by first | omega | simp <;> omega | fail) (by omega) (by omega) (by omega) (by simp))) (by first | (simp [zaa, getK, zab, zac]; done) | fail) (by rfl) (by first | assumption | (simp; done) | fail) (by rfl) (by simp) ?_;rintro d o N hN ⟨rfl, j', h3, hlt, hge, rfl⟩;simp at hge;have q0 : ¬ j' = 0 := by omega
 have q1 : ¬ j' = 1 := by omega
 have q2 : ¬ j' = 2 := by omega
 have q3 : ¬ 0 = j' := by omega
 have q4 : ¬ 1 = j' := by omega
 have q5 : ¬ 2 = j' := by omega
 have qs := And.intro q0 <| And.intro q1 <| And.intro q2 <| And.intro q3 <| And.intro q4 q5
 simp [zcW, del];refine zaj ?_;simp only [zao];refine zgw { n := 118, env := [(1, .ptr 0 0), (4, .ptr 1 0), (5, .ptr 2 0), (6, .fnc (.func 55) [.ptr 2 0]), (7, .fnc (.func 57) [.ptr 2 0])], obs := [(0, .box CL), (2, zb0), (1, zc7 3 T2), (3, zc6 T2)], next := 4 } (Wk.ren ((fun x => if x = 3 then j' else x)) rfl (by first | (simp [hn]; done) | (intro i hi; rw [hn] at hi; constructor <;> (try simp) <;> (try (intro _)) <;> omega)) (by simp [zge, St.lp, zan, zaa, getK, zac, zak, D.under, D.le, D.ren, h3, hlt, qs, xle, xfz] <;> (try (intros; simp_all; done)) <;> (try omega)) (by simp [wkR, St.lp, zaa, getK, zac, zak, obR, leU, zbi, zaO, Ob.under, D.under, D.le, D.ren, h3, hlt, qs, xle, xfz] <;> (try (intros; simp_all; done)) <;> (try omega)) (by simp [h3, hlt, qs, xle, xfz])) ?_;have p3 := zcZ T2 [103, 114, 97, 99, 101] b.grace [[100, 97, 121, 115]];obtain ⟨T3, e3⟩ : ∃ T3, T3 = T2 ++ zbq [103, 114, 97, 99, 101] b.grace [[100, 97, 121, 115]] := ⟨_, rfl⟩;have l3 : (zbq [103, 114, 97, 99, 101] b.grace [[100, 97, 121, 115]]).length <= 100 := zc0 (by omega) (by omega) (by decide);have m3 : T3.length <= T2.length + 100 := by rw [e3, List.length_append]; omega
 rw [<- e3] at p3
 repeat' (first
  | ((first | refine zae ?_ | refine zah ?_ | fail); simp [xs, xfz])
  | (refine zas (by first | rfl | fail) ?_; simp [xs, xfz, frzN, frz1, zaA, zaz, St.frz, St.frzS, frzS, fv, zaF, zbb, zbe, zaE, zau, zal, del, frz, zbf])
  | fail)
 refine CallP.okE (p3 3 _ (by omega) (by first | omega | simp <;> omega | fail) (by omega) (by omega) (by omega) (by simp)) (by first | (simp [zaa, getK, zab, zac]; done) | fail) (by rfl) (by first | assumption | (simp; done) | fail) (by rfl) (by simp) ?_;rintro d o N hN ⟨rfl, j', h3, hlt, hge, rfl⟩;simp at hge;have q0 : ¬ j' = 0 := by omega
 have q1 : ¬ j' = 1 := by omega
 have q2 : ¬ j' = 2 := by omega
 have q3 : ¬ 0 = j' := by omega
 have q4 : ¬ 1 = j' := by omega
 have q5 : ¬ 2 = j' := by omega
 have qs := And.intro q0 <| And.intro q1 <| And.intro q2 <| And.intro q3 <| And.intro q4 q5
 simp [zcW, del];refine zaj ?_;simp only [zao];refine zgw { n := 118, env := [(1, .ptr 0 0), (4, .ptr 1 0), (5, .ptr 2 0), (6, .fnc (.func 55) [.ptr 2 0]), (7, .fnc (.func 57) [.ptr 2 0])], obs := [(0, .box CL), (2, zb0), (1, zc7 3 T3), (3, zc6 T3)], next := 4 } (Wk.ren ((fun x => if x = 3 then j' else x)) rfl (by first | (simp [hn]; done) | (intro i hi; rw [hn] at hi; constructor <;> (try simp) <;> (try (intro _)) <;> omega)) (by simp [zge, St.lp, zan, zaa, getK, zac, zak, D.under, D.le, D.ren, h3, hlt, qs, xle, xfz] <;> (try (intros; simp_all; done)) <;> (try omega)) (by simp [wkR, St.lp, zaa, getK, zac, zak, obR, leU, zbi, zaO, Ob.under, D.under, D.le, D.ren, h3, hlt, qs, xle, xfz] <;> (try (intros; simp_all; done)) <;> (try omega)) (by simp [h3, hlt, qs, xle, xfz])) ?_;have p4 := zcZ T3 [119, 97, 105, 116] b.wait [[100, 97, 121, 115]];obtain ⟨T4, e4⟩ : ∃ T4, T4 = T3 ++ zbq [119, 97, 105, 116] b.wait [[100, 97, 121, 115]] := ⟨_, rfl⟩;have l4 : (zbq [119, 97, 105, 116] b.wait [[100, 97, 121, 115]]).length <= 100 := zc0 (by omega) (by omega) (by decide);have m4 : T4.length <= T3.length + 100 := by rw [e4, List.length_append]; omega
 rw [<- e4] at p4
 repeat' (first
  | ((first | refine zae ?_ | refine zah ?_ | fail); simp [xs, xfz])
  | (refine zas (by first | rfl | fail) ?_; simp [xs, xfz, frzN, frz1, zaA, zaz, St.frz, St.frzS, frzS, fv, zaF, zbb, zbe, zaE, zau, zal, del, frz, zbf])
  | fail)
 refine CallP.okE (p4 3 _ (by omega) (by first | omega | simp <;> omega | fail) (by omega) (by omega) (by omega) (by simp)) (by first | (simp [zaa, getK, zab, zac]; done) | fail) (by rfl) (by first | assumption | (simp; done) | fail) (by rfl) (by simp) ?_;rintro d o N hN ⟨rfl, j', h3, hlt, hge, rfl⟩;simp at hge;have q0 : ¬ j' = 0 := by omega
 have q1 : ¬ j' = 1 := by omega
 have q2 : ¬ j' = 2 := by omega
 have q3 : ¬ 0 = j' := by omega
 have q4 : ¬ 1 = j' := by omega
 have q5 : ¬ 2 = j' := by omega
 have qs := And.intro q0 <| And.intro q1 <| And.intro q2 <| And.intro q3 <| And.intro q4 q5
 simp [zcW, del];refine zaj ?_;simp only [zao];refine zgw { n := 118, env := [(1, .ptr 0 0), (4, .ptr 1 0), (5, .ptr 2 0), (6, .fnc (.func 55) [.ptr 2 0]), (7, .fnc (.func 57) [.ptr 2 0])], obs := [(0, .box CL), (2, zb0), (1, zc7 3 T4), (3, zc6 T4)], next := 4 } (Wk.ren ((fun x => if x = 3 then j' else x)) rfl (by first | (simp [hn]; done) | (intro i hi; rw [hn] at hi; constructor <;> (try simp) <;> (try (intro _)) <;> omega)) (by simp [zge, St.lp, zan, zaa, getK, zac, zak, D.under, D.le, D.ren, h3, hlt, qs, xle, xfz] <;> (try (intros; simp_all; done)) <;> (try omega)) (by simp [wkR, St.lp, zaa, getK, zac, zak, obR, leU, zbi, zaO, Ob.under, D.under, D.le, D.ren, h3, hlt, qs, xle, xfz] <;> (try (intros; simp_all; done)) <;> (try omega)) (by simp [h3, hlt, qs, xle, xfz])) ?_;obtain ⟨T5, e5⟩ : ∃ T5, T5 = T4 ++ zgR b.order := ⟨_, rfl⟩;have ho3 : b.order = 0 \/ b.order = 1 \/ b.order = 2 := by omega
 have l5 : (zgR b.order).length <= 100 := by rcases ho3 with h | h | h <;> rw [h] <;> decide
 have m5 : T5.length <= T4.length + 100 := by rw [e5, List.length_append]; omega
 apply zk3 (S := { n := 118, env := [(1, .ptr 0 0), (4, .ptr 1 0), (5, .ptr 2 0), (6, .fnc (.func 55) [.ptr 2 0]), (7, .fnc (.func 57) [.ptr 2 0])], obs := [(0, .box CL), (2, zb0), (1, zc7 3 T5), (3, zc6 T5)], next := 4 })
 case main =>
  intro key2;rcases ho3 with ho | ho | ho
  ·have e2 : T5 = T4 := by rw [e5, ho, zgR, if_pos rfl, List.append_nil]
   repeat' (first
  | ((first | refine zae ?_ | refine zaj ?_ | refine zah ?_ | refine zai ?_ | fail); simp [xs, xfz, ho])
  | (refine zax ?_; simp [xs, xfz, ho]))
   refine zap ?_;simp only [zao];refine zgw _ ?_ key2;rw [e2];exact (Wk.cut rfl (by simp [hn, St.lp]) (by simp [wkO, St.lp, zaa, getK, Ob.under, D.under, zad, zag, xle, xun]) (by simp [wkU, St.lp, zan, zaa, getK, D.under, xle, xun]) (by simp [wkE, St.lp, zan, zaa, getK, xle, xun] <;> (try (intros; simp_all; done)) <;> (try (intros; omega)) <;> (try grind)))
  ·have e2 : T5 = T4 ++ zbz [[111, 114, 100, 101, 114], [100, 114, 97, 119]] := by rw [e5, ho]; rfl
   have hor := zfG;simp only [ordersW, List.map_cons, List.map_nil] at hor;have hln := fun nx (h : 4 <= nx) => zg2 T4 [[111, 114, 100, 101, 114], [100, 114, 97, 119]] 3 nx (by omega) (by omega) (by have := zer [[111, 114, 100, 101, 114], [100, 114, 97, 119]]; rw [zbz]; simp at this ⊢; omega) (by simp);rw [<- e2] at hln;simp only [List.map_cons, List.map_nil] at hln
   repeat' (first
  | ((first | refine zae ?_ | refine zaj ?_ | refine zah ?_ | refine zai ?_ | fail); simp [xs, xfz, ho])
  | (refine zax ?_; simp [xs, xfz, ho]))
   repeat' (first
  | (refine zdj ?_; simp [xs, xfz, ho])
  | (refine zd9 rfl rfl (by decide +kernel) (by first | (simp [hn]; done) | (simp [hn]; omega) | fail) fun C k hC hk => ?_; simp [xs, xfz, ho])
  | ((first | refine zae ?_ | refine zaU rfl ?_ | refine zbJ rfl ?_ | fail); simp [xs, xfz, ho])
  | (refine za8 (hC _ (by kernel_rfl)) (hk _ ?_); clear hC hk C k; simp only [zao])
  | (refine CallV.fun_ (hor) (by first | rfl | fail) (by first | simp [xs, xfz, ho] <;> rfl | fail) ⟨by first | assumption | (simp; done) | fail, by simp, ?_⟩ <;> (try simp [xs, xfz, ho]))
  | (refine zas (by first | rfl | fail) ?_; simp [xs, xfz, ho, frzN, frz1, zaA, zaz, St.frz, St.frzS, frzS, fv, zaF, zbb, zbe, zaE, zau, zal, del, frz, zbf])
  | fail)
   refine CallP.okL (hln _ (by simp)) (by simp [zaa, getK]) (by rfl) (by rfl) ⟨by first | assumption | (simp; done), by simp, ?_⟩;simp [zcW, del];refine zaj ?_;simp only [zao];refine zgw _ ?_ key2;exact (Wk.ren ((fun x => if x = 3 then 5 else x)) rfl (by first | (simp [hn]; done) | (intro i hi; rw [hn] at hi; constructor <;> (try simp) <;> (try (intro _)) <;> omega)) (by simp [zge, St.lp, zan, zaa, getK, zac, zak, D.under, D.le, D.ren, xle, xfz] <;> (try (intros; simp_all; done)) <;> (try omega)) (by simp [wkR, St.lp, zaa, getK, zac, zak, obR, leU, zbi, zaO, Ob.under, D.under, D.le, D.ren, xle, xfz] <;> (try (intros; simp_all; done)) <;> (try omega)) (by simp [xle, xfz]))
  ·have e2 : T5 = T4 ++ zbz [[111, 114, 100, 101, 114], [110, 101, 101, 100]] := by rw [e5, ho]; rfl
   have hor := zfG;simp only [ordersW, List.map_cons, List.map_nil] at hor;have hln := fun nx (h : 4 <= nx) => zg2 T4 [[111, 114, 100, 101, 114], [110, 101, 101, 100]] 3 nx (by omega) (by omega) (by have := zer [[111, 114, 100, 101, 114], [110, 101, 101, 100]]; rw [zbz]; simp at this ⊢; omega) (by simp);rw [<- e2] at hln;simp only [List.map_cons, List.map_nil] at hln
   repeat' (first
  | ((first | refine zae ?_ | refine zaj ?_ | refine zah ?_ | refine zai ?_ | fail); simp [xs, xfz, ho])
  | (refine zax ?_; simp [xs, xfz, ho]))
   repeat' (first
  | (refine zdj ?_; simp [xs, xfz, ho])
  | (refine zd9 rfl rfl (by decide +kernel) (by first | (simp [hn]; done) | (simp [hn]; omega) | fail) fun C k hC hk => ?_; simp [xs, xfz, ho])
  | ((first | refine zae ?_ | refine zaU rfl ?_ | refine zbJ rfl ?_ | fail); simp [xs, xfz, ho])
  | (refine za8 (hC _ (by kernel_rfl)) (hk _ ?_); clear hC hk C k; simp only [zao])
  | (refine CallV.fun_ (hor) (by first | rfl | fail) (by first | simp [xs, xfz, ho] <;> rfl | fail) ⟨by first | assumption | (simp; done) | fail, by simp, ?_⟩ <;> (try simp [xs, xfz, ho]))
  | (refine zas (by first | rfl | fail) ?_; simp [xs, xfz, ho, frzN, frz1, zaA, zaz, St.frz, St.frzS, frzS, fv, zaF, zbb, zbe, zaE, zau, zal, del, frz, zbf])
  | fail)
   refine CallP.okL (hln _ (by simp)) (by simp [zaa, getK]) (by rfl) (by rfl) ⟨by first | assumption | (simp; done), by simp, ?_⟩;simp [zcW, del];refine zaj ?_;simp only [zao];refine zgw _ ?_ key2;exact (Wk.ren ((fun x => if x = 3 then 5 else x)) rfl (by first | (simp [hn]; done) | (intro i hi; rw [hn] at hi; constructor <;> (try simp) <;> (try (intro _)) <;> omega)) (by simp [zge, St.lp, zan, zaa, getK, zac, zak, D.under, D.le, D.ren, xle, xfz] <;> (try (intros; simp_all; done)) <;> (try omega)) (by simp [wkR, St.lp, zaa, getK, zac, zak, obR, leU, zbi, zaO, Ob.under, D.under, D.le, D.ren, xle, xfz] <;> (try (intros; simp_all; done)) <;> (try omega)) (by simp [xle, xfz]))
 case key =>
 have p6 := zcZ T5 [98, 97, 99, 107, 115] b.backs [];obtain ⟨T6, e6⟩ : ∃ T6, T6 = T5 ++ zbq [98, 97, 99, 107, 115] b.backs [] := ⟨_, rfl⟩;have l6 : (zbq [98, 97, 99, 107, 115] b.backs []).length <= 100 := zc0 (by omega) (by omega) (by decide);have m6 : T6.length <= T5.length + 100 := by rw [e6, List.length_append]; omega
 rw [<- e6] at p6
 repeat' (first
  | ((first | refine zae ?_ | refine zah ?_ | fail); simp [xs, xfz])
  | fail)
 refine CallP.okE (zkN (p6 3 _ (by omega) (by first | omega | simp <;> omega | fail) (by omega) (by omega) (by omega) (by simp))) (by first | (simp [zaa, getK, zab, zac]; done) | fail) (by rfl) (by first | assumption | (simp; done) | fail) (by rfl) (by simp) ?_;rintro d o N hN ⟨rfl, j', h3, hlt, hge, rfl⟩;simp at hge;have q0 : ¬ j' = 0 := by omega
 have q1 : ¬ j' = 1 := by omega
 have q2 : ¬ j' = 2 := by omega
 have q3 : ¬ 0 = j' := by omega
 have q4 : ¬ 1 = j' := by omega
 have q5 : ¬ 2 = j' := by omega
 have qs := And.intro q0 <| And.intro q1 <| And.intro q2 <| And.intro q3 <| And.intro q4 q5
 simp [zcW, del];refine zaj ?_;simp only [zao];refine zgw { n := 118, env := [(1, .ptr 0 0), (4, .ptr 1 0), (5, .ptr 2 0), (6, .fnc (.func 55) [.ptr 2 0]), (7, .fnc (.func 57) [.ptr 2 0])], obs := [(0, .box CL), (2, zb0), (1, zc7 3 T6), (3, zc6 T6)], next := 4 } (Wk.ren ((fun x => if x = 3 then j' else x)) rfl (by first | (simp [hn]; done) | (intro i hi; rw [hn] at hi; constructor <;> (try simp) <;> (try (intro _)) <;> omega)) (by simp [zge, St.lp, zan, zaa, getK, zac, zak, D.under, D.le, D.ren, h3, hlt, qs, xle, xfz] <;> (try (intros; simp_all; done)) <;> (try omega)) (by simp [wkR, St.lp, zaa, getK, zac, zak, obR, leU, zbi, zaO, Ob.under, D.under, D.le, D.ren, h3, hlt, qs, xle, xfz] <;> (try (intros; simp_all; done)) <;> (try omega)) (by simp [h3, hlt, qs, xle, xfz])) ?_;have p7 := zcZ T6 [118, 111, 105, 99, 101, 115] b.voices [[112, 101, 114], [109, 105, 108, 108, 101]];obtain ⟨T7, e7⟩ : ∃ T7, T7 = T6 ++ zbq [118, 111, 105, 99, 101, 115] b.voices [[112, 101, 114], [109, 105, 108, 108, 101]] := ⟨_, rfl⟩;have l7 : (zbq [118, 111, 105, 99, 101, 115] b.voices [[112, 101, 114], [109, 105, 108, 108, 101]]).length <= 100 := zc0 (by omega) (by omega) (by decide);have m7 : T7.length <= T6.length + 100 := by rw [e7, List.length_append]; omega
 rw [<- e7] at p7
 repeat' (first
  | ((first | refine zae ?_ | refine zah ?_ | fail); simp [xs, xfz])
  | (refine zas (by first | rfl | fail) ?_; simp [xs, xfz, frzN, frz1, zaA, zaz, St.frz, St.frzS, frzS, fv, zaF, zbb, zbe, zaE, zau, zal, del, frz, zbf])
  | fail)
 refine CallP.okE (p7 3 _ (by omega) (by first | omega | simp <;> omega | fail) (by omega) (by omega) (by omega) (by simp)) (by first | (simp [zaa, getK, zab, zac]; done) | fail) (by rfl) (by first | assumption | (simp; done) | fail) (by rfl) (by simp) ?_;rintro d o N hN ⟨rfl, j', h3, hlt, hge, rfl⟩;simp at hge;have q0 : ¬ j' = 0 := by omega
 have q1 : ¬ j' = 1 := by omega
 have q2 : ¬ j' = 2 := by omega
 have q3 : ¬ 0 = j' := by omega
 have q4 : ¬ 1 = j' := by omega
 have q5 : ¬ 2 = j' := by omega
 have qs := And.intro q0 <| And.intro q1 <| And.intro q2 <| And.intro q3 <| And.intro q4 q5
 simp [zcW, del];refine zaj ?_;simp only [zao];refine zgw { n := 118, env := [(1, .ptr 0 0), (4, .ptr 1 0), (5, .ptr 2 0), (6, .fnc (.func 55) [.ptr 2 0]), (7, .fnc (.func 57) [.ptr 2 0])], obs := [(0, .box CL), (2, zb0), (1, zc7 3 T7), (3, zc6 T7)], next := 4 } (Wk.ren ((fun x => if x = 3 then j' else x)) rfl (by first | (simp [hn]; done) | (intro i hi; rw [hn] at hi; constructor <;> (try simp) <;> (try (intro _)) <;> omega)) (by simp [zge, St.lp, zan, zaa, getK, zac, zak, D.under, D.le, D.ren, h3, hlt, qs, xle, xfz] <;> (try (intros; simp_all; done)) <;> (try omega)) (by simp [wkR, St.lp, zaa, getK, zac, zak, obR, leU, zbi, zaO, Ob.under, D.under, D.le, D.ren, h3, hlt, qs, xle, xfz] <;> (try (intros; simp_all; done)) <;> (try omega)) (by simp [h3, hlt, qs, xle, xfz])) ?_;have p8 := zcZ T7 [106, 117, 114, 121] b.jury [];obtain ⟨T8, e8⟩ : ∃ T8, T8 = T7 ++ zbq [106, 117, 114, 121] b.jury [] := ⟨_, rfl⟩;have l8 : (zbq [106, 117, 114, 121] b.jury []).length <= 100 := zc0 (by omega) (by omega) (by decide);have m8 : T8.length <= T7.length + 100 := by rw [e8, List.length_append]; omega
 rw [<- e8] at p8
 repeat' (first
  | ((first | refine zae ?_ | refine zah ?_ | fail); simp [xs, xfz])
  | fail)
 refine CallP.okE (zkN (p8 3 _ (by omega) (by first | omega | simp <;> omega | fail) (by omega) (by omega) (by omega) (by simp))) (by first | (simp [zaa, getK, zab, zac]; done) | fail) (by rfl) (by first | assumption | (simp; done) | fail) (by rfl) (by simp) ?_;rintro d o N hN ⟨rfl, j', h3, hlt, hge, rfl⟩;simp at hge;have q0 : ¬ j' = 0 := by omega
 have q1 : ¬ j' = 1 := by omega
 have q2 : ¬ j' = 2 := by omega
 have q3 : ¬ 0 = j' := by omega
 have q4 : ¬ 1 = j' := by omega
 have q5 : ¬ 2 = j' := by omega
 have qs := And.intro q0 <| And.intro q1 <| And.intro q2 <| And.intro q3 <| And.intro q4 q5
 simp [zcW, del];refine zaj ?_;simp only [zao];refine zgw { n := 118, env := [(1, .ptr 0 0), (4, .ptr 1 0), (5, .ptr 2 0), (6, .fnc (.func 55) [.ptr 2 0]), (7, .fnc (.func 57) [.ptr 2 0])], obs := [(0, .box CL), (2, zb0), (1, zc7 3 T8), (3, zc6 T8)], next := 4 } (Wk.ren ((fun x => if x = 3 then j' else x)) rfl (by first | (simp [hn]; done) | (intro i hi; rw [hn] at hi; constructor <;> (try simp) <;> (try (intro _)) <;> omega)) (by simp [zge, St.lp, zan, zaa, getK, zac, zak, D.under, D.le, D.ren, h3, hlt, qs, xle, xfz] <;> (try (intros; simp_all; done)) <;> (try omega)) (by simp [wkR, St.lp, zaa, getK, zac, zak, obR, leU, zbi, zaO, Ob.under, D.under, D.le, D.ren, h3, hlt, qs, xle, xfz] <;> (try (intros; simp_all; done)) <;> (try omega)) (by simp [h3, hlt, qs, xle, xfz])) ?_;have p9 := zcZ T8 [102, 117, 110, 100] b.fund [[112, 101, 114], [109, 105, 108, 108, 101]];obtain ⟨T9, e9⟩ : ∃ T9, T9 = T8 ++ zbq [102, 117, 110, 100] b.fund [[112, 101, 114], [109, 105, 108, 108, 101]] := ⟨_, rfl⟩;have l9 : (zbq [102, 117, 110, 100] b.fund [[112, 101, 114], [109, 105, 108, 108, 101]]).length <= 100 := zc0 (by omega) (by omega) (by decide);have m9 : T9.length <= T8.length + 100 := by rw [e9, List.length_append]; omega
 rw [<- e9] at p9
 repeat' (first
  | ((first | refine zae ?_ | refine zah ?_ | fail); simp [xs, xfz])
  | (refine zas (by first | rfl | fail) ?_; simp [xs, xfz, frzN, frz1, zaA, zaz, St.frz, St.frzS, frzS, fv, zaF, zbb, zbe, zaE, zau, zal, del, frz, zbf])
  | fail)
 refine CallP.okE (p9 3 _ (by omega) (by first | omega | simp <;> omega | fail) (by omega) (by omega) (by omega) (by simp)) (by first | (simp [zaa, getK, zab, zac]; done) | fail) (by rfl) (by first | assumption | (simp; done) | fail) (by rfl) (by simp) ?_;rintro d o N hN ⟨rfl, j', h3, hlt, hge, rfl⟩;simp at hge;have q0 : ¬ j' = 0 := by omega
 have q1 : ¬ j' = 1 := by omega
 have q2 : ¬ j' = 2 := by omega
 have q3 : ¬ 0 = j' := by omega
 have q4 : ¬ 1 = j' := by omega
 have q5 : ¬ 2 = j' := by omega
 have qs := And.intro q0 <| And.intro q1 <| And.intro q2 <| And.intro q3 <| And.intro q4 q5
 simp [zcW, del];refine zaj ?_;simp only [zao];refine zgw { n := 118, env := [(1, .ptr 0 0), (4, .ptr 1 0), (5, .ptr 2 0), (6, .fnc (.func 55) [.ptr 2 0]), (7, .fnc (.func 57) [.ptr 2 0])], obs := [(0, .box CL), (2, zb0), (1, zc7 3 T9), (3, zc6 T9)], next := 4 } (Wk.ren ((fun x => if x = 3 then j' else x)) rfl (by first | (simp [hn]; done) | (intro i hi; rw [hn] at hi; constructor <;> (try simp) <;> (try (intro _)) <;> omega)) (by simp [zge, St.lp, zan, zaa, getK, zac, zak, D.under, D.le, D.ren, h3, hlt, qs, xle, xfz] <;> (try (intros; simp_all; done)) <;> (try omega)) (by simp [wkR, St.lp, zaa, getK, zac, zak, obR, leU, zbi, zaO, Ob.under, D.under, D.le, D.ren, h3, hlt, qs, xle, xfz] <;> (try (intros; simp_all; done)) <;> (try omega)) (by simp [h3, hlt, qs, xle, xfz])) ?_;obtain ⟨F, eF⟩ : ∃ F : Nat -> W8, F = fun i => T9 ++ zdi (b.lets.take i) := ⟨_, rfl⟩;have hF0 : F 0 = T9 := by rw [eF]; simp [zdi]
 have hFs : ∀ i l, b.lets[i]? = some l -> F (i + 1) = F i ++ ziY l := fun i l h => by rw [eF]; simp only; rw [zmm h, List.append_assoc]
 have hFl : ∀ i, i <= b.lets.length -> (F i).length <= T9.length + 2000000000 := fun i hi => by
  rw [eF];have h1 := zjR (b.lets.take i) fun l hl => hLs l (List.mem_of_mem_take hl);simp only [List.length_append, List.length_take] at h1 ⊢;omega
 obtain ⟨T10, e10⟩ : ∃ T10, T10 = F b.lets.length := ⟨_, rfl⟩;have m10 : T10.length <= T9.length + 2000000000 := by rw [e10]; exact hFl _ (Nat.le_refl _)
 have eL : T10 = T9 ++ zdi b.lets := by rw [e10, eF]; simp only; rw [List.take_length]
 clear eF
 repeat' (first
  | ((first | refine zae ?_ | refine zaj ?_ | refine zah ?_ | refine zaw ?_ | fail); simp [xs, xfz])
  | fail)
 refine zdL (α := { i : Nat // i <= b.lets.length }) [1, 4, 5, 7, 79, 80] (fun x => [(81, .u (.int .i64 x.1))]) (fun x => [(0, .box CL), (2, zb0), (1, zc7 3 (F x.1)), (3, zc6 (F x.1))]) 4 (fun x => b.lets.length - x.1) ⟨0, by omega⟩ ?_ ?_
 ·exact (Wk.cut rfl (by simp [hn, St.lp]) (by simp [wkO, St.lp, zaa, getK, Ob.under, D.under, zad, zag, xle, xun, hF0]) (by simp [wkU, St.lp, zan, zaa, getK, D.under, xle, xun, hF0]) (by simp [wkE, St.lp, zan, zaa, getK, xle, xun, hF0] <;> (try (intros; simp_all; done)) <;> (try (intros; omega)) <;> (try grind)))
 rintro ⟨i, hi⟩;have hFi := hFl i hi;simp [St.lp, St.only, zan, zaa, getK];rcases hx : b.lets[i]? with _ | l
 case some =>
  have hlt : i < b.lets.length := (lGE.1 hx).1;obtain ⟨hln, hlr⟩ := hLs l (List.mem_of_getElem? hx);have hn20 := ziv hln;have htl := zct hlr (Nat.le_refl _) 0;have hsh := zgn 12 (Nat.le_refl _) l.body hlr 0;rw [Exp.row_eq] at hsh;have hnx := hFs i l hx;rw [ziY] at hnx;have hlw := zlq hln hlr;rw [ziY] at hlw;have hw := fun nx (h : 4 <= nx) => zg2 (F i) [[108, 101, 116], l.name, [61], txt l.body 0] 3 nx (by omega) (by omega) (by omega) (by simp);rw [<- hnx] at hw;simp only [List.map_cons, List.map_nil] at hw;generalize txt l.body 0 = TB at *;generalize hFN : F (i + 1) = FN at *;generalize hFI : F i = FI at *
  repeat' (first
  | (refine zdj ?_; simp [xs, xfz, hx])
  | (refine zd9 rfl rfl (by decide +kernel) (by first | (simp [hn]; done) | (simp [hn]; omega) | fail) fun C k hC hk => ?_; simp [xs, xfz, hx])
  | ((first | refine zae ?_ | refine zaU rfl ?_ | refine zbJ rfl ?_ | refine zaj ?_ | fail); simp [xs, xfz, hx])
  | (refine ⟨by omega, ?_⟩)
  | (refine zah ?_; simp [xs, xfz, hx])
  | (refine za8 (hC _ (by kernel_rfl)) (hk _ ?_); clear hC hk C k; simp only [zao])
  | (refine zax ?_; simp [xs, xfz, hx])
  | (refine zap ?_; simp only [zao])
  | (refine ⟨?_, by omega⟩)
  | (intro hc <;> (try (exfalso; omega)))
  | (refine CallV.fun_ (hsh) (by first | rfl | fail) (by first | simp [xs, xfz, hx] <;> rfl | fail) ⟨by first | assumption | (simp; done) | fail, by simp, ?_⟩ <;> (try simp [xs, xfz, hx]))
  | (refine zas (by first | rfl | fail) ?_; simp [xs, xfz, hx, frzN, frz1, zaA, zaz, St.frz, St.frzS, frzS, fv, zaF, zbb, zbe, zaE, zau, zal, del, frz, zbf])
  | (refine CallP.okL (hw _ (by first | omega | simp <;> omega | fail)) (by first | (simp [xs, xfz, hx, zaa, getK, zab, zac, zak, zaJ, del]; done) | fail) (by rfl) (by rfl) ⟨by first | assumption | (simp; done) | fail, by simp, ?_⟩; (try simp [xs, xfz, hx, zcW, del]))
  | fail)
  refine LoopW.next ⟨i + 1, by omega⟩ (by simp; omega) ?_
  exact (Wk.ren ((fun x => if x = 3 then 6 else x)) rfl (by first | (simp [hn]; done) | (intro i hi; rw [hn] at hi; constructor <;> (try simp) <;> (try (intro _)) <;> omega)) (by simp [zge, St.lp, zan, zaa, getK, zac, zak, D.under, D.le, D.ren, xle, xfz, xun, hFN] <;> (try (intros; simp_all; done)) <;> (try omega)) (by simp [wkR, St.lp, zaa, getK, zac, zak, obR, leU, zbi, zaO, Ob.under, D.under, D.le, D.ren, xle, xfz, xun, hFN] <;> (try (intros; simp_all; done)) <;> (try omega)) (by simp [xle, xfz, xun, hFN]))
 case none =>
 have hge : b.lets.length <= i := by simpa using hx
 obtain rfl : i = b.lets.length := by omega
 rw [<- e10];clear hFs hFl hFi hx;have p11 := zc5 T10 [100, 117, 101] b.due;rw [Exp.row_eq] at p11;obtain ⟨T11, e11⟩ : ∃ T11, T11 = T10 ++ clauseT [100, 117, 101] b.due := ⟨_, rfl⟩;have m11 : T11.length <= T10.length + 60000000 := by rw [e11, List.length_append]; have := zdu (w := [100, 117, 101]) (by decide) hrdue; omega
 rw [<- e11] at p11
 repeat' (first
  | ((first | refine zae ?_ | refine zaj ?_ | refine zah ?_ | fail); simp [y12, z12, xfz])
  | (refine zbA ?_; simp [zao])
  | fail)
 refine CallP.okE (p11 3 _ (by omega) (by first | omega | simp <;> omega | fail) hrdue (by simp; omega)) (by first | (simp [zaa, getK, zab, zac]; done) | fail) (by rfl) (by first | assumption | (simp; done) | fail) (by rfl) (by simp) ?_;rintro d o N hN ⟨rfl, j', h3, hlt, hge, rfl⟩;simp at hge;have q0 : ¬ j' = 0 := by omega
 have q1 : ¬ j' = 1 := by omega
 have q2 : ¬ j' = 2 := by omega
 have q3 : ¬ 0 = j' := by omega
 have q4 : ¬ 1 = j' := by omega
 have q5 : ¬ 2 = j' := by omega
 have qs := And.intro q0 <| And.intro q1 <| And.intro q2 <| And.intro q3 <| And.intro q4 q5
 simp [zcW, del];refine zaj ?_;simp only [zao];refine zgw { n := 118, env := [(1, .ptr 0 0), (4, .ptr 1 0), (5, .ptr 2 0), (7, .fnc (.func 57) [.ptr 2 0])], obs := [(0, .box CL), (2, zb0), (1, zc7 3 T11), (3, zc6 T11)], next := 4 } (Wk.ren ((fun x => if x = 3 then j' else x)) rfl (by first | (simp [hn]; done) | (intro i hi; rw [hn] at hi; constructor <;> (try simp) <;> (try (intro _)) <;> omega)) (by simp [zge, St.lp, zan, zaa, getK, zac, zak, D.under, D.le, D.ren, h3, hlt, qs, xle, xfz] <;> (try (intros; simp_all; done)) <;> (try omega)) (by simp [wkR, St.lp, zaa, getK, zac, zak, obR, leU, zbi, zaO, Ob.under, D.under, D.le, D.ren, h3, hlt, qs, xle, xfz] <;> (try (intros; simp_all; done)) <;> (try omega)) (by simp [h3, hlt, qs, xle, xfz])) ?_;have p12 := zc5 T11 [102, 105, 110, 101] b.fine;rw [Exp.row_eq] at p12;obtain ⟨T12, e12⟩ : ∃ T12, T12 = T11 ++ clauseT [102, 105, 110, 101] b.fine := ⟨_, rfl⟩;have m12 : T12.length <= T11.length + 60000000 := by rw [e12, List.length_append]; have := zdu (w := [102, 105, 110, 101]) (by decide) hrfine; omega
 rw [<- e12] at p12
 repeat' (first
  | ((first | refine zae ?_ | refine zah ?_ | fail); simp [y17, z17, xfz])
  | fail)
 refine CallP.okE (p12 3 _ (by omega) (by first | omega | simp <;> omega | fail) hrfine (by simp; omega)) (by first | (simp [zaa, getK, zab, zac]; done) | fail) (by rfl) (by first | assumption | (simp; done) | fail) (by rfl) (by simp) ?_;rintro d o N hN ⟨rfl, j', h3, hlt, hge, rfl⟩;simp at hge;have q0 : ¬ j' = 0 := by omega
 have q1 : ¬ j' = 1 := by omega
 have q2 : ¬ j' = 2 := by omega
 have q3 : ¬ 0 = j' := by omega
 have q4 : ¬ 1 = j' := by omega
 have q5 : ¬ 2 = j' := by omega
 have qs := And.intro q0 <| And.intro q1 <| And.intro q2 <| And.intro q3 <| And.intro q4 q5
 simp [zcW, del];refine zaj ?_;simp only [zao];refine zgw { n := 118, env := [(1, .ptr 0 0), (4, .ptr 1 0), (5, .ptr 2 0), (7, .fnc (.func 57) [.ptr 2 0])], obs := [(0, .box CL), (2, zb0), (1, zc7 3 T12), (3, zc6 T12)], next := 4 } (Wk.ren ((fun x => if x = 3 then j' else x)) rfl (by first | (simp [hn]; done) | (intro i hi; rw [hn] at hi; constructor <;> (try simp) <;> (try (intro _)) <;> omega)) (by simp [zge, St.lp, zan, zaa, getK, zac, zak, D.under, D.le, D.ren, h3, hlt, qs, xle, xfz] <;> (try (intros; simp_all; done)) <;> (try omega)) (by simp [wkR, St.lp, zaa, getK, zac, zak, obR, leU, zbi, zaO, Ob.under, D.under, D.le, D.ren, h3, hlt, qs, xle, xfz] <;> (try (intros; simp_all; done)) <;> (try omega)) (by simp [h3, hlt, qs, xle, xfz])) ?_;have p13 := zc5 T12 [112, 97, 121] b.pay;rw [Exp.row_eq] at p13;obtain ⟨T13, e13⟩ : ∃ T13, T13 = T12 ++ clauseT [112, 97, 121] b.pay := ⟨_, rfl⟩;have m13 : T13.length <= T12.length + 60000000 := by rw [e13, List.length_append]; have := zdu (w := [112, 97, 121]) (by decide) hrpay; omega
 rw [<- e13] at p13
 repeat' (first
  | ((first | refine zae ?_ | refine zah ?_ | fail); simp [y22, z22, xfz])
  | fail)
 refine CallP.okE (p13 3 _ (by omega) (by first | omega | simp <;> omega | fail) hrpay (by simp; omega)) (by first | (simp [zaa, getK, zab, zac]; done) | fail) (by rfl) (by first | assumption | (simp; done) | fail) (by rfl) (by simp) ?_;rintro d o N hN ⟨rfl, j', h3, hlt, hge, rfl⟩;simp at hge;have q0 : ¬ j' = 0 := by omega
 have q1 : ¬ j' = 1 := by omega
 have q2 : ¬ j' = 2 := by omega
 have q3 : ¬ 0 = j' := by omega
 have q4 : ¬ 1 = j' := by omega
 have q5 : ¬ 2 = j' := by omega
 have qs := And.intro q0 <| And.intro q1 <| And.intro q2 <| And.intro q3 <| And.intro q4 q5
 simp [zcW, del];refine zaj ?_;simp only [zao];refine zgw { n := 118, env := [(1, .ptr 0 0), (4, .ptr 1 0), (5, .ptr 2 0), (7, .fnc (.func 57) [.ptr 2 0])], obs := [(0, .box CL), (2, zb0), (1, zc7 3 T13), (3, zc6 T13)], next := 4 } (Wk.ren ((fun x => if x = 3 then j' else x)) rfl (by first | (simp [hn]; done) | (intro i hi; rw [hn] at hi; constructor <;> (try simp) <;> (try (intro _)) <;> omega)) (by simp [zge, St.lp, zan, zaa, getK, zac, zak, D.under, D.le, D.ren, h3, hlt, qs, xle, xfz] <;> (try (intros; simp_all; done)) <;> (try omega)) (by simp [wkR, St.lp, zaa, getK, zac, zak, obR, leU, zbi, zaO, Ob.under, D.under, D.le, D.ren, h3, hlt, qs, xle, xfz] <;> (try (intros; simp_all; done)) <;> (try omega)) (by simp [h3, hlt, qs, xle, xfz])) ?_;have p14 := zc5 T13 [99, 111, 118, 101, 114] b.cover;rw [Exp.row_eq] at p14;obtain ⟨T14, e14⟩ : ∃ T14, T14 = T13 ++ clauseT [99, 111, 118, 101, 114] b.cover := ⟨_, rfl⟩;have m14 : T14.length <= T13.length + 60000000 := by rw [e14, List.length_append]; have := zdu (w := [99, 111, 118, 101, 114]) (by decide) hrcover; omega
 rw [<- e14] at p14
 repeat' (first
  | ((first | refine zae ?_ | refine zah ?_ | fail); simp [y27, z27, xfz])
  | fail)
 refine CallP.okE (p14 3 _ (by omega) (by first | omega | simp <;> omega | fail) hrcover (by simp; omega)) (by first | (simp [zaa, getK, zab, zac]; done) | fail) (by rfl) (by first | assumption | (simp; done) | fail) (by rfl) (by simp) ?_;rintro d o N hN ⟨rfl, j', h3, hlt, hge, rfl⟩;simp at hge;have q0 : ¬ j' = 0 := by omega
 have q1 : ¬ j' = 1 := by omega
 have q2 : ¬ j' = 2 := by omega
 have q3 : ¬ 0 = j' := by omega
 have q4 : ¬ 1 = j' := by omega
 have q5 : ¬ 2 = j' := by omega
 have qs := And.intro q0 <| And.intro q1 <| And.intro q2 <| And.intro q3 <| And.intro q4 q5
 simp [zcW, del];refine zaj ?_;simp only [zao];refine zgw { n := 118, env := [(1, .ptr 0 0), (4, .ptr 1 0), (5, .ptr 2 0), (7, .fnc (.func 57) [.ptr 2 0])], obs := [(0, .box CL), (2, zb0), (1, zc7 3 T14), (3, zc6 T14)], next := 4 } (Wk.ren ((fun x => if x = 3 then j' else x)) rfl (by first | (simp [hn]; done) | (intro i hi; rw [hn] at hi; constructor <;> (try simp) <;> (try (intro _)) <;> omega)) (by simp [zge, St.lp, zan, zaa, getK, zac, zak, D.under, D.le, D.ren, h3, hlt, qs, xle, xfz] <;> (try (intros; simp_all; done)) <;> (try omega)) (by simp [wkR, St.lp, zaa, getK, zac, zak, obR, leU, zbi, zaO, Ob.under, D.under, D.le, D.ren, h3, hlt, qs, xle, xfz] <;> (try (intros; simp_all; done)) <;> (try omega)) (by simp [h3, hlt, qs, xle, xfz])) ?_;have p15 := zc5 T14 [104, 111, 108, 100] b.hold;rw [Exp.row_eq] at p15;obtain ⟨T15, e15⟩ : ∃ T15, T15 = T14 ++ clauseT [104, 111, 108, 100] b.hold := ⟨_, rfl⟩;have m15 : T15.length <= T14.length + 60000000 := by rw [e15, List.length_append]; have := zdu (w := [104, 111, 108, 100]) (by decide) hrhold; omega
 rw [<- e15] at p15
 repeat' (first
  | ((first | refine zae ?_ | refine zah ?_ | fail); simp [y32, z32, xfz])
  | fail)
 refine CallP.okE (p15 3 _ (by omega) (by first | omega | simp <;> omega | fail) hrhold (by simp; omega)) (by first | (simp [zaa, getK, zab, zac]; done) | fail) (by rfl) (by first | assumption | (simp; done) | fail) (by rfl) (by simp) ?_;rintro d o N hN ⟨rfl, j', h3, hlt, hge, rfl⟩;simp at hge;have q0 : ¬ j' = 0 := by omega
 have q1 : ¬ j' = 1 := by omega
 have q2 : ¬ j' = 2 := by omega
 have q3 : ¬ 0 = j' := by omega
 have q4 : ¬ 1 = j' := by omega
 have q5 : ¬ 2 = j' := by omega
 have qs := And.intro q0 <| And.intro q1 <| And.intro q2 <| And.intro q3 <| And.intro q4 q5
 simp [zcW, del];refine zaj ?_;simp only [zao];refine zgw { n := 118, env := [(1, .ptr 0 0), (4, .ptr 1 0), (5, .ptr 2 0), (7, .fnc (.func 57) [.ptr 2 0])], obs := [(0, .box CL), (2, zb0), (1, zc7 3 T15), (3, zc6 T15)], next := 4 } (Wk.ren ((fun x => if x = 3 then j' else x)) rfl (by first | (simp [hn]; done) | (intro i hi; rw [hn] at hi; constructor <;> (try simp) <;> (try (intro _)) <;> omega)) (by simp [zge, St.lp, zan, zaa, getK, zac, zak, D.under, D.le, D.ren, h3, hlt, qs, xle, xfz] <;> (try (intros; simp_all; done)) <;> (try omega)) (by simp [wkR, St.lp, zaa, getK, zac, zak, obR, leU, zbi, zaO, Ob.under, D.under, D.le, D.ren, h3, hlt, qs, xle, xfz] <;> (try (intros; simp_all; done)) <;> (try omega)) (by simp [h3, hlt, qs, xle, xfz])) ?_;have hTT : TT = T15 := by
  rw [<- hT, textP, e15, e14, e13, e12, e11, eL, e9, e8, e7, e6, e5, e4, e3, e2, e1, e0]
 have n0 : 0 < T0.length := by rw [e0, zeq, zbz]; simp
 have hge : T0.length <= T15.length := by
  simp only [e15, e14, e13, e12, e11, eL, e9, e8, e7, e6, e5, e4, e3, e2, e1, List.length_append];omega
 have hne0 : T15 ≠ [] := fun h => by rw [h] at hge; simp at hge; rw [hge] at n0; simp at n0
 rw [hTT];have hst := fun nx (h : 4 <= nx) => zlY 1 3 nx (by omega) (by omega) (by decide) T15 hne0;have hft := zlD T15;by_cases hbig : 2000 < T15.length
 ·rw [if_pos hbig] at hft ⊢
  repeat' (first
  | ((first | refine zae ?_ | refine zaj ?_ | refine zah ?_ | fail); simp [xfz])
  | (refine zaq ?_; simp only [zao])
  | (refine CallP.fE (hft) (by first | rfl | fail) (by first | simp [xfz] <;> rfl | fail) ⟨by first | assumption | (simp; done) | fail, by simp, ?_⟩; (try simp [xfz]))
  | (refine CallP.okL (hst _ (by first | omega | simp <;> omega | fail)) (by first | (simp [xfz, zaa, getK, zab, zac, zak, zaJ, del]; done) | fail) (by rfl) (by rfl) ⟨by first | assumption | (simp; done) | fail, by simp, ?_⟩; (try simp [xfz, zcW, del]))
  | fail)
  (refine EndW.here ?_; (first | (refine EndOK.fin (.inr rfl) ?_) | (refine EndOK.fin (.inl rfl) ?_)); simp [zaG, zaf, Tryz.results19]; refine FinOK.here (by simp) ?_; try simp)
 ·rw [if_neg hbig] at hft ⊢
  repeat' (first
  | ((first | refine zae ?_ | refine zaj ?_ | refine zah ?_ | fail); simp [xfz])
  | (refine zaq ?_; simp only [zao])
  | (refine CallP.fE (hft) (by first | rfl | fail) (by first | simp [xfz] <;> rfl | fail) ⟨by first | assumption | (simp; done) | fail, by simp, ?_⟩; (try simp [xfz]))
  | (refine CallP.okL (hst _ (by first | omega | simp <;> omega | fail)) (by first | (simp [xfz, zaa, getK, zab, zac, zak, zaJ, del]; done) | fail) (by rfl) (by rfl) ⟨by first | assumption | (simp; done) | fail, by simp, ?_⟩; (try simp [xfz, zcW, del]))
  | fail)
  (refine EndW.here ?_; (first | (refine EndOK.fin (.inr rfl) ?_) | (refine EndOK.fin (.inl rfl) ?_)); simp [zaG, zaf, Tryz.results19]; refine FinOK.here (by simp) ?_; try simp)
theorem ze9 (b : By) : Fun Tryz.prog 19 [.u (.agg (za1 b))] (· = .tup [.u (.str (printB b).1), .u (.int .i64 (printB b).2)]) := by
 cases hb : za3 b with
 | true =>
  unfold Fun;exact (znk b hb).ret (fun d o n h => by
   cases h;exact ⟨by simp [zar], rfl⟩) (fun ch o n h => by cases h)
 | false =>
  have hri := zd1 b;rw [hb] at hri;have hp : printB b = ([], 1) := by unfold printB; rw [if_neg (by simp [hb])]
  rw [hp];unfold za1 at hri ⊢
  (refine Fun.of_body Tryz.func19 rfl (by simp) fun Γ hn => ?_); simp only [entry, ziC, ziN, maC, maN, oA, Tryz.ntmps19]
  repeat' (first
  | ((first | refine zae ?_ | refine zaj ?_ | refine zah ?_ | refine zai ?_ | fail); simp)
  | (refine zaq ?_; simp only [zao])
  | (refine CallP.fE (hri) (by first | rfl | fail) (by first | (simp; done) | (simp; rfl) | fail) ?_; (try simp))
  | fail)
  (refine EndOK.val (.inr rfl) ?_; simp [zaG, zaf, zar, Tryz.results19])
theorem zpE (i j q nx : Nat) (hi : i < nx) (hj : j < nx) (hq : q < nx) (hij : i ≠ j) (hiq : i ≠ q) (hjq : j ≠ q) (p e : Int) (cells : List U) :
  RetDf Tryz.prog 35 [.ptr i 0, .ptr j 0, .ptr q 0] [(i, .box [.u (.int .i64 p)]), (j, .box [.u (.int .i64 e)]), (q, .box (cells.map .u))] nx .returning
   (fun u o n => settle u = .returning /\ n = nx /\ o = [(i, .box [.u (.int .i64 p)]), (j, .box [.u (.int .i64 e)]), (q, .box (cells.map .u))]) := by
 have hne := zaB hi;have hne2 := zaB hj;have hne3 := zaB hq;have hc0 := zhl i j nx hi hj hij p e;refine RetDf.of_body Tryz.func35 rfl (by simp) (by simp) rfl fun Γ hn => ?_;simp [entry, zkE, Tryz.ntmps35];refine CallP.x2 hc0 (by simp [getK]) (by simp [getK, hij, Ne.symm hij]) hij rfl rfl (by simp) (by simp) (fun d o1 nx' hnx h => ?_) (fun ch o1 nx' hnx h => by cases h.1);obtain ⟨h1, rfl, h4⟩ := h;have h4 := h4.symm;subst h4;cases h1;simp [del, hij, Ne.symm hij, hiq, hjq, Ne.symm hiq, Ne.symm hjq]
 repeat' (first
  | (refine zai ?_; simp [hij, hiq, hjq])
  | (refine zap ?_; simp only [zao])
  | fail)
 (refine ⟨by simp, { n := _, env := [], obs := [(i, .box [.u (.int .i64 p)]), (j, .box [.u (.int .i64 e)]), (q, .box (cells.map .u))], next := nx }, (Wk.cut rfl (by simp [hn]) (by simp [wkO, zaa, getK, zab, zac, Ob.under, D.under, zad, zag, hi, hj, hq, hne, hne2, hne3, hij, hiq, hjq, Ne.symm hij, Ne.symm hiq, Ne.symm hjq]) (by simp [wkU, zan, zaa, getK, D.under, hi, hj, hq, hne, hne2, hne3, hij, hiq, hjq, Ne.symm hij, Ne.symm hiq, Ne.symm hjq]) (by simp [wkE, zan, zaa, getK, hi, hj, hq, hne, hne2, hne3, hij, hiq, hjq, Ne.symm hij, Ne.symm hiq, Ne.symm hjq])), by simp [hn], ?_⟩; try simp)
 all_goals rfl
theorem zpF (i j q nx : Nat) (hi : i < nx) (hj : j < nx) (hq : q < nx) (hij : i ≠ j) (hiq : i ≠ q) (hjq : j ≠ q) (p e pos err : Int) :
  RetDf Tryz.prog 35 [.ptr i 0, .ptr j 0, .ptr q 0] [(i, .box [.u (.int .i64 p)]), (j, .box [.u (.int .i64 e)]), (q, zpz)] nx (.panicking (chP pos err))
   (fun u o n => settle u = .returning /\ n = nx /\ o = [(i, .box [.u (.int .i64 pos)]), (j, .box [.u (.int .i64 err)]), (q, zpz)]) := by
 have hne := zaB hi;have hne2 := zaB hj;have hne3 := zaB hq;have hc0 := zhk i j nx hi hj hij p e pos err;refine RetDf.of_body Tryz.func35 rfl (by simp) (by simp) rfl fun Γ hn => ?_;simp [entry, zkE, chP, Tryz.ntmps35];refine CallP.x2 hc0 (by simp [getK]) (by simp [getK, hij, Ne.symm hij]) hij rfl rfl (by simp) (by simp) (fun d o1 nx' hnx h => ?_) (fun ch o1 nx' hnx h => by cases h.1);obtain ⟨h1, rfl, h4⟩ := h;have h4 := h4.symm;subst h4;cases h1;simp [del, hij, Ne.symm hij, hiq, hjq, Ne.symm hiq, Ne.symm hjq]
 repeat' (first
  | ((first | refine zae ?_ | refine zaj ?_ | refine zai ?_ | refine zax ?_ | fail); simp [hij, hiq, hjq])
  | fail)
 (refine ⟨by simp, { n := _, env := [], obs := [(i, .box [.u (.int .i64 pos)]), (j, .box [.u (.int .i64 err)]), (q, zpz)], next := nx }, (Wk.cut rfl (by simp [hn]) (by simp [wkO, zaa, getK, zab, zac, Ob.under, D.under, zad, zag, hi, hj, hq, hne, hne2, hne3, hij, hiq, hjq, Ne.symm hij, Ne.symm hiq, Ne.symm hjq]) (by simp [wkU, zan, zaa, getK, D.under, hi, hj, hq, hne, hne2, hne3, hij, hiq, hjq, Ne.symm hij, Ne.symm hiq, Ne.symm hjq]) (by simp [wkE, zan, zaa, getK, hi, hj, hq, hne, hne2, hne3, hij, hiq, hjq, Ne.symm hij, Ne.symm hiq, Ne.symm hjq])), by simp [hn], ?_⟩; try simp)
 all_goals rfl
theorem zno (s : W8) : RetX Tryz.prog 10 [.u (.str s)] [] 0 (fun r o n => r = .val (zrk (zeR s))) := by
 skip
 unfold zeR;cases hlx : zkw s with
 | error pe =>
  obtain ⟨p, e⟩ := pe;have ho := fun nx => zle s p e nx hlx;have he := (zll hlx).1;simp only
  (refine RetX.zdo Tryz.func10 rfl (by simp) fun Γ hn hdfr hpan hesc => ?_); simp only [entry, ziC, ziN, maC, maN, oA, Tryz.ntmps10]
  repeat' (first
  | ((first | refine zae ?_ | refine zaU rfl ?_ | refine zbJ rfl ?_ | refine zaj ?_ | refine zah ?_ | refine zai ?_ | fail); simp [he])
  | (refine za8 (hC _ (by kernel_rfl)) (hk _ ?_); clear hC hk C k; simp only [zao])
  | (refine za9 rfl (by kernel_rfl) (by first | (simp [hn]; done) | (simp [hn]; omega) | fail) fun C k hC hk => ?_; simp [he])
  | (refine zaq ?_; simp only [zao])
  | (refine CallP.okL (ho _) (by first | (simp [he, zaa, getK, zab, zac, zak, zaJ, del]; done) | fail) (by rfl) (by rfl) ?_; (try simp [he, zcW, del]))
  | fail)
  refine EndW.norm ?_;simp [St.norm, zbj, zbX, zci, zcj]
  (refine EndW.here ?_; (first | (refine EndOK.fin (.inr rfl) ?_) | (refine EndOK.fin (.inl rfl) ?_)); simp [zaG, zaf, Tryz.results10]; refine FinOK.here (by simp) ?_; try simp)
  simp [zrk, za1, zeQ, zdM, Exp.op, Exp.n, Exp.unit, Exp.s, Exp.args]
 | ok l =>
  obtain ⟨hl, hl2, hl0⟩ := znN hlx;have ho := fun nx => znx s l nx hlx;have hE := zmR l hl0 hl hl2;simp only;cases hr : zoH l with
  | stop pos e =>
   simp only [hr] at hE ⊢
   (refine RetX.zdo Tryz.func10 rfl (by simp) fun Γ hn hdfr hpan hesc => ?_); simp only [entry, ziC, ziN, maC, maN, oA, Tryz.ntmps10]
   rw [zdq]
   repeat' (first
  | ((first | refine zae ?_ | refine zaj ?_ | refine zah ?_ | refine zai ?_ | fail); simp)
  | (refine zap ?_; simp only [zao])
  | (refine CallP.okL (ho _) (by first | (simp [zaa, getK, zab, zac, zak, zaJ, del]; done) | fail) (by rfl) (by rfl) ?_; (try simp [zcW, del]))
  | fail)
   refine zf0 hesc hdfr rfl (by simp) ?_;have hn0 := hn;have hpan0 := hpan;intro Γ' hn hpan;simp
   repeat' (first
  | ((first | refine zae ?_ | refine zah ?_ | fail); simp)
  | (refine CallP.zei (hE) (by first | (simp [zaa, getK, zab, zac]; done) | fail) (by rfl) (by first | assumption | (simp; done) | fail) (by rfl) (by simp) ?_; rintro ob' ⟨q', rfl⟩; refine ⟨_, Wk.refl _, ?_⟩)
  | fail)
   refine hpan _ _ ?_;refine LeaveD.of [(1, .box [.u (.int .i64 0)]), (2, .box [.u (.int .i64 0)]), (0, zpz)] (by simp [zaa, getK, zab, zac]) (zpF 1 2 0 _ (by simp) (by simp) (by simp) (by decide) (by decide) (by decide) 0 0 _ _) ?_;simp only [show Γ.base.n0 = 0 from hn0];simp [zcW, del];refine EndW.norm ?_;simp [St.norm, zbj, zbX, zci, zcj]
   (refine EndW.here ?_; (first | (refine EndOK.fin (.inr rfl) ?_) | (refine EndOK.fin (.inl rfl) ?_)); simp [zaG, zaf, Tryz.results10]; refine FinOK.here (by simp) ?_; try simp)
   simp [zrk, za1, zeQ, zdM, Exp.op, Exp.n, Exp.unit, Exp.s, Exp.args]
  | ok b q =>
   have hEx : RetX Tryz.prog 37 [.ptr 3 0] [(3, pOb l 0)] 4 (fun r o n => r = .val (.u (.agg (za1 b))) /\ o = [(3, pOb l q)] /\ n = 4) := by
    rw [hr] at hE;exact hE
   unfold za1 at hEx
   (refine RetX.zdo Tryz.func10 rfl (by simp) fun Γ hn hdfr hpan hesc => ?_); simp only [entry, ziC, ziN, maC, maN, oA, Tryz.ntmps10]
   rw [zdq]
   repeat' (first
  | ((first | refine zae ?_ | refine zaj ?_ | refine zah ?_ | refine zai ?_ | fail); simp)
  | (refine zap ?_; simp only [zao])
  | (refine CallP.okL (ho _) (by first | (simp [zaa, getK, zab, zac, zak, zaJ, del]; done) | fail) (by rfl) (by rfl) ?_; (try simp [zcW, del]))
  | fail)
   refine zf0 hesc hdfr rfl (by simp) ?_;have hn0 := hn;have hpan0 := hpan;intro Γ' hn hpan;simp
   repeat' (first
  | ((first | refine zae ?_ | refine zaj ?_ | refine zah ?_ | fail); simp [del])
  | (refine zaq ?_; simp only [zao])
  | (refine CallP.ok1 (hEx) (by first | (simp [del, zaa, getK, zab, zac]; done) | fail) (by rfl) (by rfl) ?_; (try simp [del]))
  | fail)
   refine ⟨rfl, ?_⟩;refine LeaveD.of [(1, .box [.u (.int .i64 0)]), (2, .box [.u (.int .i64 0)]), (0, .box ((za1 b).map .u))] (by simp [zaa, getK, zab, zac, za1]) (zpE 1 2 0 _ (by simp) (by simp) (by simp) (by decide) (by decide) (by decide) 0 0 _) ?_;simp only [show Γ.base.n0 = 0 from hn0];simp [zcW, del, za1]
   (refine EndW.here ?_; (first | (refine EndOK.fin (.inr rfl) ?_) | (refine EndOK.fin (.inl rfl) ?_)); simp [zaG, zaf, Tryz.results10]; refine FinOK.here (by simp) ?_; try simp)
   simp [zrk, za1]
theorem zjy (s : W8) : Fun Tryz.prog 10 [.u (.str s)] (· = .tup [byD (zeR s).1, .u (.int .i64 (zeR s).2.1), .u (.int .i64 (zeR s).2.2)]) := by
 unfold Fun;exact (zno s).ret (fun d o n h => by
  cases h;exact ⟨by simp [zrk, zar], rfl⟩) (fun ch o n h => by cases h)
theorem zio {s : W8} {b : By} {p e : Int} (h : zhJ s = (b, p, e)) : Fun Tryz.prog 10 [.u (.str s)] (· = .tup [byD b, .u (.int .i64 p), .u (.int .i64 e)]) := by
 have h1 := zjy s;rw [znq, h] at h1;exact h1
theorem zjD {s : W8} {b : Exp} {p e : Int} (h : zjA s = (b, p, e)) : Fun Tryz.prog 12 [.u (.str s)] (· = .tup [zhz b, .u (.int .i64 p), .u (.int .i64 e)]) := by
 have h1 := zjC s;rw [znp, h] at h1;exact h1
theorem zjn {e : Exp} {s : W8} (h : zaC 12 e = true) (ht : txt e 0 = s) (hs : s.length <= 2000) : Fun Tryz.prog 21 [.u (.agg e.row)] (· = .tup [.u (.str s), .u (.int .i64 0)]) := by
 have h1 := zf4 e;rw [show zgP e = (s, 0) by unfold zgP; rw [if_pos h, ht, if_neg (by omega)]] at h1;exact h1
theorem dM : zd6 9 (.agg [.int .i64 4, .int .i64 0, .int .i64 0, .str [], .sl [[.int .i64 0, .int .i64 3, .int .i64 1, .str [], .nil], [.int .i64 2, .int .i64 0, .int .i64 0, .str [], .sl [[.int .i64 0, .int .i64 5, .int .i64 3, .str [], .nil], [.int .i64 1, .int .i64 0, .int .i64 0, .str [112, 111, 116], .nil]]]]]) = .agg eM.row := by simp [zd6, Exp.row_eq, eM, eS, Exp.op, Exp.n, Exp.unit, Exp.s, Exp.args]
theorem dS : zd6 9 (.agg [.int .i64 2, .int .i64 0, .int .i64 0, .str [], .sl [[.int .i64 0, .int .i64 5, .int .i64 3, .str [], .nil], [.int .i64 1, .int .i64 0, .int .i64 0, .str [112, 111, 116], .nil]]]) = .agg eS.row := by simp [zd6, Exp.row_eq, eM, eS, Exp.op, Exp.n, Exp.unit, Exp.s, Exp.args]
theorem dZ : zd6 9 (.agg [.int .i64 1, .int .i64 0, .int .i64 0, .str [], .nil]) = .agg (Exp.mk 1 0 0 [] []).row := by simp [zd6, Exp.row_eq, eM, eS, Exp.op, Exp.n, Exp.unit, Exp.s, Exp.args]
theorem znc : Fun Tryz.prog 9 [] (· = .u (.bool true)) := by
 have h1 := zjD pv1;have h2 := zjn rA tA (by decide);have h3 : Fun Tryz.prog 21 ([.agg [.int .i64 4, .int .i64 0, .int .i64 0, .str [], .sl [[.int .i64 0, .int .i64 3, .int .i64 1, .str [], .nil], [.int .i64 2, .int .i64 0, .int .i64 0, .str [], .sl [[.int .i64 0, .int .i64 5, .int .i64 3, .str [], .nil], [.int .i64 1, .int .i64 0, .int .i64 0, .str [112, 111, 116], .nil]]]]]].map .u) (· = .tup [.u (.str [51, 32, 42, 32, 40, 32, 53, 32, 99, 111, 105, 110, 115, 32, 43, 32, 112, 111, 116, 32, 41]), .u (.int .i64 0)]) := Fun.zqP 9 (by simp only [List.map_cons, List.map_nil, dM]; exact zjn rM tM (by decide));have h4 := zio pv3;have h5 : Fun Tryz.prog 19 [.u (.agg (za1 bB))] (· = .tup [.u (.str [99, 105, 114, 99, 108, 101, 32, 115, 97, 118, 105, 110, 103, 32, 59, 10, 112, 101, 114, 105, 111, 100, 32, 55, 32, 100, 97, 121, 115, 32, 59, 10, 108, 97, 115, 116, 32, 49, 48, 32, 59, 10, 100, 117, 101, 32, 49, 48, 48, 32, 99, 111, 105, 110, 115, 32, 59, 10]), .u (.int .i64 0)]) := by
  have h := ze9 bB;have e : textP bB = [99, 105, 114, 99, 108, 101, 32, 115, 97, 118, 105, 110, 103, 32, 59, 10, 112, 101, 114, 105, 111, 100, 32, 55, 32, 100, 97, 121, 115, 32, 59, 10, 108, 97, 115, 116, 32, 49, 48, 32, 59, 10, 100, 117, 101, 32, 49, 48, 48, 32, 99, 111, 105, 110, 115, 32, 59, 10] := tB;rw [show printB bB = ([99, 105, 114, 99, 108, 101, 32, 115, 97, 118, 105, 110, 103, 32, 59, 10, 112, 101, 114, 105, 111, 100, 32, 55, 32, 100, 97, 121, 115, 32, 59, 10, 108, 97, 115, 116, 32, 49, 48, 32, 59, 10, 100, 117, 101, 32, 49, 48, 48, 32, 99, 111, 105, 110, 115, 32, 59, 10], 0) by unfold printB; rw [if_pos rB, e, if_neg (by decide)]] at h;exact h
 have h6 := zio pv4;have h7 := zio pv5;have h8 := zjD pv2;have h9 := zd1 bB;rw [rB] at h9;have h10 : Fun Tryz.prog 23 ([.agg [.int .i64 0, .int .i64 0, .int .i64 0, .int .i64 0, .int .i64 0, .int .i64 0, .bool false, .int .i64 0, .int .i64 0, .int .i64 0, .int .i64 0, .nil, .int .i64 0, .int .i64 0, .int .i64 0, .str [], .nil, .int .i64 0, .int .i64 0, .int .i64 0, .str [], .nil, .int .i64 0, .int .i64 0, .int .i64 0, .str [], .nil, .int .i64 0, .int .i64 0, .int .i64 0, .str [], .nil, .int .i64 0, .int .i64 0, .int .i64 0, .str [], .nil]].map .u) (· = .u (.bool false)) := Fun.zqP 9 (by have h := zd1 zeQ; rw [rz] at h; exact h);have h11 : Fun Tryz.prog 25 ([.agg [.int .i64 2, .int .i64 0, .int .i64 0, .str [], .sl [[.int .i64 0, .int .i64 5, .int .i64 3, .str [], .nil], [.int .i64 1, .int .i64 0, .int .i64 0, .str [112, 111, 116], .nil]]]].map .u) (· = .u (.bool true)) := Fun.zqP 9 (by have h := zdB eS; rw [rS, zhz, <- Exp.row_eq] at h; simp only [List.map_cons, List.map_nil, dS]; exact h);have h12 : Fun Tryz.prog 25 ([.agg [.int .i64 1, .int .i64 0, .int .i64 0, .str [], .nil]].map .u) (· = .u (.bool false)) := Fun.zqP 9 (by have h := zdB (.mk 1 0 0 [] []); rw [rZ, zhz, <- Exp.row_eq] at h; simp only [List.map_cons, List.map_nil, dZ]; exact h);have h13 := zeB [112, 101, 114, 105, 111, 100];rw [nP] at h13;have h14 := zeB [99, 111, 105, 110, 115];rw [nC] at h14;have h15 := zjf bB;have h16 : Fun Tryz.prog 28 ([.agg [.int .i64 2, .int .i64 0, .int .i64 0, .str [], .sl [[.int .i64 0, .int .i64 5, .int .i64 3, .str [], .nil], [.int .i64 1, .int .i64 0, .int .i64 0, .str [112, 111, 116], .nil]]], .agg [.int .i64 2, .int .i64 0, .int .i64 0, .str [], .sl [[.int .i64 0, .int .i64 5, .int .i64 3, .str [], .nil], [.int .i64 1, .int .i64 0, .int .i64 0, .str [112, 111, 116], .nil]]]].map .u) (· = .u (.bool true)) := Fun.zqP 9 (by have h := zb8 eS eS; rw [zdf, zev] at h; simp only [List.map_cons, List.map_nil, dS]; exact h);rw [Exp.row_eq] at h2;simp only [zhz, byD, za1, List.map_cons, List.map_nil] at h1 h3 h4 h6 h7 h8 h10 h11 h12 h15 h16 h5 h9;generalize eA = e1 at *;generalize bB = b1 at *
 (refine Fun.of_bodyW Tryz.func9 rfl (by simp) fun Γ hn => ?_); simp only [entry, ziC, ziN, maC, maN, oA, Tryz.ntmps9]
 repeat' (first
  | ((first | refine zae ?_ | refine zaj ?_ | refine zah ?_ | fail); simp)
  | (refine CallP.fE (h1) (by first | rfl | fail) (by first | (simp; done) | (simp; rfl) | fail) ?_; (try simp))
  | (refine CallP.fE (h2) (by first | rfl | fail) (by first | (simp; done) | (simp; rfl) | fail) ?_; (try simp))
  | fail)
 refine ziX (Wk.frzN 1 _) ?_;simp [frzN, frz1, zaA, zaz, St.frz, St.frzS, frzS, fv, zaF, zbb, zbe, zaE, zau, zal, del, frz, zbf];refine ziX (Wk.frzN 1 _) ?_;simp [frzN, frz1, zaA, zaz, St.frz, St.frzS, frzS, fv, zaF, zbb, zbe, zaE, zau, zal, del, frz, zbf]
 repeat' (first
  | ((first | refine zae ?_ | refine zaj ?_ | refine zah ?_ | fail); simp)
  | (refine zaq ?_; simp only [zao])
  | (refine CallP.fE (h3) (by first | rfl | fail) (by first | (simp; done) | (simp; rfl) | fail) ?_; (try simp))
  | (refine CallP.fE (h4) (by first | rfl | fail) (by first | (simp; done) | (simp; rfl) | fail) ?_; (try simp))
  | (refine CallP.fE (h5) (by first | rfl | fail) (by first | (simp; done) | (simp; rfl) | fail) ?_; (try simp))
  | (refine CallP.fE (h6) (by first | rfl | fail) (by first | (simp; done) | (simp; rfl) | fail) ?_; (try simp))
  | (refine CallP.fE (h7) (by first | rfl | fail) (by first | (simp; done) | (simp; rfl) | fail) ?_; (try simp))
  | (refine CallP.fE (h8) (by first | rfl | fail) (by first | (simp; done) | (simp; rfl) | fail) ?_; (try simp))
  | (refine CallP.fE (h9) (by first | rfl | fail) (by first | (simp; done) | (simp; rfl) | fail) ?_; (try simp))
  | (refine CallP.fE (h10) (by first | rfl | fail) (by first | (simp; done) | (simp; rfl) | fail) ?_; (try simp))
  | (refine CallP.fE (h11) (by first | rfl | fail) (by first | (simp; done) | (simp; rfl) | fail) ?_; (try simp))
  | (refine CallP.fE (h12) (by first | rfl | fail) (by first | (simp; done) | (simp; rfl) | fail) ?_; (try simp))
  | (refine CallP.fE (h13) (by first | rfl | fail) (by first | (simp; done) | (simp; rfl) | fail) ?_; (try simp))
  | (refine CallP.fE (h14) (by first | rfl | fail) (by first | (simp; done) | (simp; rfl) | fail) ?_; (try simp))
  | (refine CallP.fE (h15) (by first | rfl | fail) (by first | (simp; done) | (simp; rfl) | fail) ?_; (try simp))
  | (refine CallP.fE (h16) (by first | rfl | fail) (by first | (simp; done) | (simp; rfl) | fail) ?_; (try simp))
  | fail)
 refine EndW.here ?_
 (refine EndOK.val (.inr rfl) ?_; simp [zaG, zaf, zar, Tryz.results9])
end Go.Proofs.YthnemhfamhnfjaaGreatDoor
