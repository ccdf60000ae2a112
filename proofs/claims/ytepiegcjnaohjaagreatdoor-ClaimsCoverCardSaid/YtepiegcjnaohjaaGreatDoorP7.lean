import Derived.Test.YtepiegcjnaohjaaGreatDoorP6
set_option linter.all false
set_option maxRecDepth 100000
set_option maxHeartbeats 8000000
namespace Go.Proofs.YtepiegcjnaohjaaGreatDoor
open Go Go.VL
attribute [local simp] HS zc6 zb2 evPure opd uOf zaC St.put St.at getK binD binI binS binB nilD aggD zhd zir lookD lookR zcB rangeS Go.VL.nextD Go.VL.nextS zcD ziF ziE zgE zbX mkV za8 zbj zbi zbh zc0 zbc zbq zbC mapEff zdd zf0 Key.kk shiftI arith unD convD zd4 loadD cellsAt fieldAddrD fieldD indexAddrD indexSlD arrAddr indexD sliceD cutD lenD minmaxD nilCheckD buildD fillD zbS zde zeV setAll zcM zeM zcv zhH zcr St.add zaS zbP rowsOf zdS zcw zak zac zaa zbm zcX zaQ entry zbI zbR valD zbU zcx zg2 zdv zdw zbZ zbO zaw zaR zbs delAll effD St.effS zdb zbk za1 zdc zbl za3 zcf za2 zaV zcg zc7 zbJ zcd zbt zcb zcc zau mkD zbw zbD zbN zaw zcu D.ids Op.operands Call.operands zbz makeIfD makeFuncD typeAssertD zio zdI zdJ zhX zcC IntKind.bits zcG List.take_of_length_le List.range_succ
attribute [local irreducible] V G H HD HD2 HD4 zmf RetX zap Eff CallP CallV EndOK Fun Ret FinOK LoopI LoopW EndW
theorem _root_.Go.VL.CallP.pp {P : Program} {Γ : Ctx} {s : St} {k : St -> Prop} {dst : Option Tmp} {fop : Operand} {args : List Operand} {f caps} {ds : List D} {α : Type} {l : List Tok} {i : Nat} {ob : Ob} {val : α -> D} {r : PR α}
  (hret : RetX P f ds [(i, ob)] s.next (PPost l i s.next val r)) (hj : getK s.obs i = some ob) (hf : zaw (opd s fop) = some (f, caps)) (hc : zal P f = true) (hds : args.map (opd s) ++ caps = ds) (hp : zaC dst s)
  (hk : ∀ a q, r = .ok a q -> k (({ s with obs := del s.obs i ++ [(i, pOb l q)], next := s.next } : St).put dst (val a)))
  (hx : ∀ pos e q, r = .stop pos e -> ∃ s2, Wk Γ { s with obs := del s.obs i ++ [(i, pOb l q)], next := s.next } s2 /\ Γ.pan (chP pos e) s2) : CallP P Γ fop args dst s k :=
 CallP.x1 hret hj hf hc hds hp (fun d o1 nx' _ h => by
  cases r with
  | ok a q => obtain ⟨h1, h2, h3⟩ := h; cases h1; subst h2; subst h3; exact hk a q rfl
  | stop pos e => obtain ⟨h1, _⟩ := h; cases h1) (fun ch o1 nx' _ h => by
  cases r with
  | ok a q => obtain ⟨h1, _⟩ := h; cases h1
  | stop pos e => obtain ⟨h1, ⟨ob', ⟨q, rfl⟩, h2⟩, h3⟩ := h; cases h1; subst h2; subst h3; exact hx pos e q rfl)
abbrev kbD (x : Int × Bool) : D := .tup [.u (.int .i64 x.1), .u (.bool x.2)]
theorem zo0 (l : List Tok) (p : Nat) (i nx : Nat) (hi : i < nx) (hp : p < l.length) (hl : TokOK l) :
  RetX Tryz.prog 122 [.ptr i 0] [(i, pOb l p)] nx (PPost l i nx kbD (zkc l p)) := by
 have hne := zaP hi;have hll := hl.len;generalize hR : zkc l p = R;rw [zkc] at hR
 (refine RetX.of_bodyW Tryz.func122 rfl (by simp) fun Γ hn hpan => ?_); simp only [entry, ziC, ziN, maC, maN, oA, Tryz.ntmps122]
 repeat' (first
  | ((first | refine zag ?_ | refine zaj ?_ | refine zah ?_ | fail); simp [hne])
  | (refine zaF (by first | rfl | fail) ?_; simp [hne, frzN, frz1, zaE, zaD, St.frz, St.frzS, frzS, fv, za5, za6, za7, zaH, zay, zav, del, frz, zbg])
  | fail)
 (refine CallP.pp (zeS hl [99, 105, 114, 99, 108, 101] (q := p) (i := i) (by first | omega | simp <;> omega | fail) hp) (by first | (simp [hi, hne, nAA, zaa, getK, zab, zac]; done) | fail) (by rfl) (by first | assumption | (simp; done) | fail) (by rfl) (by simp) (fun v1 q1 h1 => ?_) (fun pos e q' h1 => ⟨_, Wk.refl _, ?_⟩); rotate_left 1; (focus (rw [h1, PR.zaK] at hR; (refine hpan _ _ ⟨{ n := _, env := [], obs := [(i, pOb l q')], next := nx }, (Wk.cut rfl (by simp [hn]) (by simp [wkO, zaa, getK, zab, zac, Ob.under, D.under, zad, zae, hi, hne, nAA, zab, zac, zaa, getK]) (by simp [wkU, zam, zaa, getK, D.under, hi, hne, nAA, zab, zac, zaa, getK]) (by simp [wkE, zam, zaa, getK, hi, hne, nAA, zab, zac, zaa, getK])), by simp [hn], ?_⟩; try simp); exact PPost.zaB hR.symm)); rw [h1, PR.bind_ok] at hR; (try simp [hi, hne, nAA]))
 obtain ⟨_, g1⟩ := zaW hl _ h1 hp;have hh1 := fun nx' (h : nx <= nx') => zbf l q1 [114, 111, 116, 97, 116, 105, 110, 103] i nx' (by omega) g1 hl.len;have hh2 := fun nx' (h : nx <= nx') => zbf l q1 [115, 97, 118, 105, 110, 103] i nx' (by omega) g1 hl.len;by_cases c1 : isB l q1 [114, 111, 116, 97, 116, 105, 110, 103] = true
 ·have g2 := zba hl c1;rw [if_pos c1] at hR;simp only [c1, if_true] at hh1
  repeat' (first
  | ((first | refine zag ?_ | refine zaj ?_ | refine zah ?_ | refine zai ?_ | fail); simp [hne, del, nAA])
  | (refine CallP.ok1 (hh1 _ (by first | omega | simp <;> omega | fail)) (by first | (simp [hne, del, nAA, zaa, getK, zab, zac]; done) | fail) (by rfl) (by rfl) ?_; (try simp [hne, del, nAA]))
  | (refine zaF (by first | rfl | fail) ?_; simp [hne, del, nAA, frzN, frz1, zaE, zaD, St.frz, St.frzS, frzS, fv, za5, za6, za7, zaH, zay, zav, del, frz, zbg])
  | fail)
  (refine CallP.pp (zeS hl [59] (q := q1 + 1) (i := i) (by first | omega | simp <;> omega | fail) g2) (by first | (simp [hi, hne, nAA, zaa, getK, zab, zac]; done) | fail) (by rfl) (by first | assumption | (simp; done) | fail) (by rfl) (by simp) (fun v2 q2 h2 => ?_) (fun pos e q' h2 => ⟨_, Wk.refl _, ?_⟩); rotate_left 1; (focus (rw [h2, PR.zaK] at hR; (refine hpan _ _ ⟨{ n := _, env := [], obs := [(i, pOb l q')], next := nx }, (Wk.cut rfl (by simp [hn]) (by simp [wkO, zaa, getK, zab, zac, Ob.under, D.under, zad, zae, hi, hne, nAA, zab, zac, zaa, getK]) (by simp [wkU, zam, zaa, getK, D.under, hi, hne, nAA, zab, zac, zaa, getK]) (by simp [wkE, zam, zaa, getK, hi, hne, nAA, zab, zac, zaa, getK])), by simp [hn], ?_⟩; try simp); exact PPost.zaB hR.symm)); rw [h2, PR.bind_ok] at hR; (try simp [hi, hne, nAA]))
  repeat' (first
  | ((first | refine zag ?_ | refine zaj ?_ | refine zah ?_ | fail); simp [hne, del, nAA])
  | (refine zar ?_; simp only [zap])
  | fail)
  (refine EndW.here ?_; (first | (refine EndOK.fin (.inr rfl) ?_) | (refine EndOK.fin (.inl rfl) ?_)); simp [zaz, zaf, Tryz.results122, hne, hi]; refine FinOK.cut [(i, pOb l q2)] (nx) (by simp [zaa, getK, zab, zac, Ob.under, D.under, zad, zae, hne, hi] <;> omega) (by simp [D.under]) (by simp [hn]) ?_; try simp)
  exact PPost.zch hR.symm rfl rfl
 ·rw [if_neg c1] at hR;simp only [c1, Bool.false_eq_true, if_false] at hh1;by_cases c2 : isB l q1 [115, 97, 118, 105, 110, 103] = true
  ·have g2 := zba hl c2;rw [if_pos c2] at hR;simp only [c2, if_true] at hh2
   repeat' (first
  | ((first | refine zag ?_ | refine zaj ?_ | refine zah ?_ | refine zai ?_ | fail); simp [hne, del, nAA])
  | (refine CallP.ok1 (hh1 _ (by first | omega | simp <;> omega | fail)) (by first | (simp [hne, del, nAA, zaa, getK, zab, zac]; done) | fail) (by rfl) (by rfl) ?_; (try simp [hne, del, nAA]))
  | (refine CallP.ok1 (hh2 _ (by first | omega | simp <;> omega | fail)) (by first | (simp [hne, del, nAA, zaa, getK, zab, zac]; done) | fail) (by rfl) (by rfl) ?_; (try simp [hne, del, nAA]))
  | (refine zaF (by first | rfl | fail) ?_; simp [hne, del, nAA, frzN, frz1, zaE, zaD, St.frz, St.frzS, frzS, fv, za5, za6, za7, zaH, zay, zav, del, frz, zbg])
  | fail)
   (refine CallP.pp (zeS hl [59] (q := q1 + 1) (i := i) (by first | omega | simp <;> omega | fail) g2) (by first | (simp [hi, hne, nAA, zaa, getK, zab, zac]; done) | fail) (by rfl) (by first | assumption | (simp; done) | fail) (by rfl) (by simp) (fun v2 q2 h2 => ?_) (fun pos e q' h2 => ⟨_, Wk.refl _, ?_⟩); rotate_left 1; (focus (rw [h2, PR.zaK] at hR; (refine hpan _ _ ⟨{ n := _, env := [], obs := [(i, pOb l q')], next := nx }, (Wk.cut rfl (by simp [hn]) (by simp [wkO, zaa, getK, zab, zac, Ob.under, D.under, zad, zae, hi, hne, nAA, zab, zac, zaa, getK]) (by simp [wkU, zam, zaa, getK, D.under, hi, hne, nAA, zab, zac, zaa, getK]) (by simp [wkE, zam, zaa, getK, hi, hne, nAA, zab, zac, zaa, getK])), by simp [hn], ?_⟩; try simp); exact PPost.zaB hR.symm)); rw [h2, PR.bind_ok] at hR; (try simp [hi, hne, nAA]))
   repeat' (first
  | ((first | refine zag ?_ | refine zaj ?_ | refine zah ?_ | fail); simp [hne, del, nAA])
  | (refine zar ?_; simp only [zap])
  | fail)
   (refine EndW.here ?_; (first | (refine EndOK.fin (.inr rfl) ?_) | (refine EndOK.fin (.inl rfl) ?_)); simp [zaz, zaf, Tryz.results122, hne, hi]; refine FinOK.cut [(i, pOb l q2)] (nx) (by simp [zaa, getK, zab, zac, Ob.under, D.under, zad, zae, hne, hi] <;> omega) (by simp [D.under]) (by simp [hn]) ?_; try simp)
   exact PPost.zch hR.symm rfl rfl
  ·rw [if_neg c2] at hR;simp only [c2, Bool.false_eq_true, if_false] at hh2
   repeat' (first
  | ((first | refine zag ?_ | refine zaj ?_ | refine zah ?_ | refine zai ?_ | fail); simp [hne, del, nAA])
  | (refine zaq ?_; simp only [zap])
  | (refine CallP.ok1 (hh1 _ (by first | omega | simp <;> omega | fail)) (by first | (simp [hne, del, nAA, zaa, getK, zab, zac]; done) | fail) (by rfl) (by rfl) ?_; (try simp [hne, del, nAA]))
  | (refine CallP.ok1 (hh2 _ (by first | omega | simp <;> omega | fail)) (by first | (simp [hne, del, nAA, zaa, getK, zab, zac]; done) | fail) (by rfl) (by rfl) ?_; (try simp [hne, del, nAA]))
  | (refine zaF (by first | rfl | fail) ?_; simp [hne, del, nAA, frzN, frz1, zaE, zaD, St.frz, St.frzS, frzS, fv, za5, za6, za7, zaH, zay, zav, del, frz, zbg])
  | fail)
   (refine CallP.pp (zeS hl [98, 105, 100, 100, 105, 110, 103] (q := q1) (i := i) (by first | omega | simp <;> omega | fail) g1) (by first | (simp [hi, hne, nAA, zaa, getK, zab, zac]; done) | fail) (by rfl) (by first | assumption | (simp; done) | fail) (by rfl) (by simp) (fun v2 q2 h2 => ?_) (fun pos e q' h2 => ⟨_, Wk.refl _, ?_⟩); rotate_left 1; (focus (rw [h2, PR.zaK] at hR; (refine hpan _ _ ⟨{ n := _, env := [], obs := [(i, pOb l q')], next := nx }, (Wk.cut rfl (by simp [hn]) (by simp [wkO, zaa, getK, zab, zac, Ob.under, D.under, zad, zae, hi, hne, nAA, zab, zac, zaa, getK]) (by simp [wkU, zam, zaa, getK, D.under, hi, hne, nAA, zab, zac, zaa, getK]) (by simp [wkE, zam, zaa, getK, hi, hne, nAA, zab, zac, zaa, getK])), by simp [hn], ?_⟩; try simp); exact PPost.zaB hR.symm)); rw [h2, PR.bind_ok] at hR; (try simp [hi, hne, nAA]))
   obtain ⟨_, g2⟩ := zaW hl _ h2 g1;have hh3 := fun nx' (h : nx <= nx') => zbf l q2 [115, 101, 97, 108, 101, 100] i nx' (by omega) g2 hl.len;by_cases c3 : isB l q2 [115, 101, 97, 108, 101, 100] = true
   ·have g3 := zba hl c3;rw [if_pos c3] at hR;simp only [c3, if_true] at hh3
    repeat' (first
  | ((first | refine zag ?_ | refine zaj ?_ | refine zah ?_ | fail); simp [hne, del, nAA])
  | (refine CallP.ok1 (hh3 _ (by first | omega | simp <;> omega | fail)) (by first | (simp [hne, del, nAA, zaa, getK, zab, zac]; done) | fail) (by rfl) (by rfl) ?_; (try simp [hne, del, nAA]))
  | (refine zaF (by first | rfl | fail) ?_; simp [hne, del, nAA, frzN, frz1, zaE, zaD, St.frz, St.frzS, frzS, fv, za5, za6, za7, zaH, zay, zav, del, frz, zbg])
  | fail)
    (refine CallP.pp (zeS hl [59] (q := q2 + 1) (i := i) (by first | omega | simp <;> omega | fail) g3) (by first | (simp [hi, hne, nAA, zaa, getK, zab, zac]; done) | fail) (by rfl) (by first | assumption | (simp; done) | fail) (by rfl) (by simp) (fun v3 q3 h3 => ?_) (fun pos e q' h3 => ⟨_, Wk.refl _, ?_⟩); rotate_left 1; (focus (rw [h3, PR.zaK] at hR; (refine hpan _ _ ⟨{ n := _, env := [], obs := [(i, pOb l q')], next := nx }, (Wk.cut rfl (by simp [hn]) (by simp [wkO, zaa, getK, zab, zac, Ob.under, D.under, zad, zae, hi, hne, nAA, zab, zac, zaa, getK]) (by simp [wkU, zam, zaa, getK, D.under, hi, hne, nAA, zab, zac, zaa, getK]) (by simp [wkE, zam, zaa, getK, hi, hne, nAA, zab, zac, zaa, getK])), by simp [hn], ?_⟩; try simp); exact PPost.zaB hR.symm)); rw [h3, PR.bind_ok] at hR; (try simp [hi, hne, nAA]))
    repeat' (first
  | ((first | refine zag ?_ | refine zaj ?_ | refine zah ?_ | fail); simp [hne, del, nAA])
  | (refine zar ?_; simp only [zap])
  | fail)
    (refine EndW.here ?_; (first | (refine EndOK.fin (.inr rfl) ?_) | (refine EndOK.fin (.inl rfl) ?_)); simp [zaz, zaf, Tryz.results122, hne, hi]; refine FinOK.cut [(i, pOb l q3)] (nx) (by simp [zaa, getK, zab, zac, Ob.under, D.under, zad, zae, hne, hi] <;> omega) (by simp [D.under]) (by simp [hn]) ?_; try simp)
    exact PPost.zch hR.symm rfl rfl
   ·rw [if_neg c3] at hR;simp only [c3, Bool.false_eq_true, if_false] at hh3
    repeat' (first
  | ((first | refine zag ?_ | refine zaj ?_ | refine zah ?_ | fail); simp [hne, del, nAA])
  | (refine CallP.ok1 (hh3 _ (by first | omega | simp <;> omega | fail)) (by first | (simp [hne, del, nAA, zaa, getK, zab, zac]; done) | fail) (by rfl) (by rfl) ?_; (try simp [hne, del, nAA]))
  | (refine zaF (by first | rfl | fail) ?_; simp [hne, del, nAA, frzN, frz1, zaE, zaD, St.frz, St.frzS, frzS, fv, za5, za6, za7, zaH, zay, zav, del, frz, zbg])
  | fail)
    (refine CallP.pp (zeS hl [59] (q := q2) (i := i) (by first | omega | simp <;> omega | fail) g2) (by first | (simp [hi, hne, nAA, zaa, getK, zab, zac]; done) | fail) (by rfl) (by first | assumption | (simp; done) | fail) (by rfl) (by simp) (fun v3 q3 h3 => ?_) (fun pos e q' h3 => ⟨_, Wk.refl _, ?_⟩); rotate_left 1; (focus (rw [h3, PR.zaK] at hR; (refine hpan _ _ ⟨{ n := _, env := [], obs := [(i, pOb l q')], next := nx }, (Wk.cut rfl (by simp [hn]) (by simp [wkO, zaa, getK, zab, zac, Ob.under, D.under, zad, zae, hi, hne, nAA, zab, zac, zaa, getK]) (by simp [wkU, zam, zaa, getK, D.under, hi, hne, nAA, zab, zac, zaa, getK]) (by simp [wkE, zam, zaa, getK, hi, hne, nAA, zab, zac, zaa, getK])), by simp [hn], ?_⟩; try simp); exact PPost.zaB hR.symm)); rw [h3, PR.bind_ok] at hR; (try simp [hi, hne, nAA]))
    repeat' (first
  | ((first | refine zag ?_ | refine zaj ?_ | refine zah ?_ | fail); simp [hne, del, nAA])
  | (refine zar ?_; simp only [zap])
  | fail)
    (refine EndW.here ?_; (first | (refine EndOK.fin (.inr rfl) ?_) | (refine EndOK.fin (.inl rfl) ?_)); simp [zaz, zaf, Tryz.results122, hne, hi]; refine FinOK.cut [(i, pOb l q3)] (nx) (by simp [zaa, getK, zab, zac, Ob.under, D.under, zad, zae, hne, hi] <;> omega) (by simp [D.under]) (by simp [hn]) ?_; try simp)
    exact PPost.zch hR.symm rfl rfl
theorem zo2 {l : List Tok} (hl : TokOK l) {p q : Nat} {x : Int × Bool} (h : zkc l p = .ok x q) (hp : p < l.length) : p <= q /\ q < l.length := by
 unfold zkc at h;obtain ⟨_, r1, h1, h⟩ := PR.zaG h;have g1 := zaW hl _ h1 hp;split at h
 ·rename_i hb;obtain ⟨_, r2, h2, h⟩ := PR.zaG h;have g2 := zaW hl _ h2 (zba hl hb);cases h;exact ⟨by omega, g2.2⟩
 ·split at h
  ·rename_i hb;obtain ⟨_, r2, h2, h⟩ := PR.zaG h;have g2 := zaW hl _ h2 (zba hl hb);cases h;exact ⟨by omega, g2.2⟩
  ·obtain ⟨_, r2, h2, h⟩ := PR.zaG h;have g2 := zaW hl _ h2 g1.2;split at h
   ·rename_i hb;obtain ⟨_, r3, h3, h⟩ := PR.zaG h;have g3 := zaW hl _ h3 (zba hl hb);cases h;exact ⟨by omega, g3.2⟩
   ·obtain ⟨_, r3, h3, h⟩ := PR.zaG h;have g3 := zaW hl _ h3 g2.2;cases h;exact ⟨by omega, g3.2⟩
theorem zly : Fun Tryz.prog 74 [] (· = .u (.sl (ordersW.map fun w => [.str w]))) := by
 simp only [ordersW, List.map_cons, List.map_nil]
 (refine Fun.of_bodyW Tryz.func74 rfl (by simp) fun Γ hn => ?_); simp only [entry, ziC, ziN, maC, maN, oA, Tryz.ntmps74]
 repeat' (first
  | ((first | refine zag ?_ | refine zaj ?_ | refine zah ?_ | fail); simp [zbR, zbI])
  | (refine zar ?_; simp only [zap])
  | fail)
 (refine EndW.frzN 1 ?_; simp [frzN, frz1, zaE, zaD, St.frz, St.frzS, frzS, fv, za5, za6, za7, zaH, zay, zav, del, frz, zbg])
 refine EndW.here ?_
 (refine EndOK.val (.inr rfl) ?_; simp [zaz, zaf, zas, Tryz.results74])
def atW (l : List Tok) (q : Nat) (ws : List W8) : Option Nat := ws.findIdx? fun w => isB l q w
theorem zlQ (l : List Tok) (q : Nat) (ws : List W8) (i nx : Nat) (hi : i < nx) (hq : q < l.length) (hl : TokOK l) :
  RetX Tryz.prog 202 [.u (.sl (ws.map fun w => [.str w])), .bnd (.func 200) [.ptr i 0]] [(i, pOb l q)] nx
   (fun r o n => r = .val (match atW l q ws with | some j => zie j | none => zie (-1)) /\ o = [(i, pOb l (if (atW l q ws).isSome then q + 1 else q))] /\ n = nx) := by
 have hne := zaP hi;generalize hA : atW l q ws = A
 (refine RetX.of_bodyW Tryz.func202 rfl (by simp) fun Γ hn hpan => ?_); simp only [entry, ziC, ziN, maC, maN, oA, Tryz.ntmps202]
 refine zgW (x := 0) rfl fun hll => ?_;simp at hll
 repeat' (first
  | ((first | refine zag ?_ | refine zaj ?_ | refine zah ?_ | refine zao ?_ | fail); simp)
  | fail)
 refine zcq (α := { j : Nat // j <= ws.length /\ ∀ w ∈ ws.take j, isB l q w = false }) [0, 1, 7] (fun x => [(8, .u (.int .i64 x.1))]) (fun x => [(i, pOb l q)]) nx (fun x => ws.length - x.1) ⟨0, by omega, by simp⟩ ?_ ?_
 ·exact (Wk.cut rfl (by simp [hn, St.lp]) (by simp [wkO, St.lp, zaa, getK, Ob.under, D.under, zad, zae, hi]) (by simp [wkU, St.lp, zam, zaa, getK, D.under, hi]) (by simp [wkE, St.lp, zam, zaa, getK, hi] <;> (try (intros; simp_all; done)) <;> (try (intros; omega)) <;> (try grind)))
 rintro ⟨j, h1, h2⟩;simp [St.lp, St.only, zam, zaa, getK];rcases hx : ws[j]? with _ | w
 ·have hge : ws.length <= j := by simpa using hx
  rw [List.take_of_length_le hge] at h2;have hn0 : atW l q ws = none := by
   unfold atW;rw [List.findIdx?_eq_none_iff];exact h2
  rw [hn0] at hA;subst hA
  repeat' (first
  | ((first | refine zag ?_ | refine zaj ?_ | fail); simp [hx])
  | (refine ⟨by omega, ?_⟩)
  | (refine zah ?_; simp [hx])
  | (refine zar ?_; simp only [zap])
  | (refine zaZ ?_; simp [zap])
  | (intro hc <;> (try (exfalso; omega)))
  | fail)
  (refine EndW.here ?_; (first | (refine EndOK.fin (.inr rfl) ?_) | (refine EndOK.fin (.inl rfl) ?_)); simp [zaz, zaf, Tryz.results202]; refine FinOK.here (by simp) ?_; try simp)
 ·have hlt : j < ws.length := (lGE.1 hx).1;have hh := zbf l q w i nx hi hq hl.len;cases hb : isB l q w with
  | false =>
   rw [hb, if_neg (by simp)] at hh
   repeat' (first
  | ((first | refine zag ?_ | refine zaj ?_ | refine zah ?_ | fail); simp [hx])
  | (refine zaq ?_; simp only [zap])
  | (refine ⟨?_, by omega⟩)
  | (intro hc <;> (try (exfalso; omega)))
  | fail)
   refine CallP.bok hh (by simp [zaa, getK]) rfl (by first | assumption | simp) rfl (by simp) ?_
   repeat' (first
  | ((first | refine zag ?_ | refine zaj ?_ | fail); simp [hx])
  | (refine ⟨by omega, ?_⟩)
  | ((first | refine zai ?_ | refine zat ?_ | fail); simp [hx])
  | (refine zaq ?_; simp only [zap])
  | fail)
   refine LoopW.next ⟨j + 1, by omega, za0 hx h2 hb⟩ (by simp; omega) ?_
   exact (Wk.cut rfl (by simp [hn, St.lp]) (by simp [wkO, St.lp, zaa, getK, Ob.under, D.under, zad, zae, hi, zab, zac, zaa, getK]) (by simp [wkU, St.lp, zam, zaa, getK, D.under, hi, zab, zac, zaa, getK]) (by simp [wkE, St.lp, zam, zaa, getK, hi, zab, zac, zaa, getK] <;> (try (intros; simp_all; done)) <;> (try (intros; omega)) <;> (try grind)))
  | true =>
   rw [hb, if_pos rfl] at hh;have hn0 : atW l q ws = some j := by
    unfold atW;rw [List.findIdx?_eq_some_iff_getElem];obtain ⟨h3, h4⟩ := lGE.1 hx;refine ⟨h3, by rw [h4]; exact hb, fun k hk => ?_⟩;have := h2 ws[k] (by rw [List.mem_take_iff_getElem]; exact ⟨k, by omega, rfl⟩);simp [this]
   rw [hn0] at hA;subst hA
   repeat' (first
  | ((first | refine zag ?_ | refine zaj ?_ | refine zah ?_ | fail); simp [hx])
  | (refine zaq ?_; simp only [zap])
  | (refine ⟨?_, by omega⟩)
  | (intro hc <;> (try (exfalso; omega)))
  | fail)
   refine CallP.bok hh (by simp [zaa, getK]) rfl (by first | assumption | simp) rfl (by simp) ?_
   repeat' (first
  | ((first | refine zag ?_ | refine zaj ?_ | refine zah ?_ | refine zai ?_ | fail); simp [hx])
  | (refine zar ?_; simp only [zap])
  | fail)
   (refine EndW.here ?_; (first | (refine EndOK.fin (.inr rfl) ?_) | (refine EndOK.fin (.inl rfl) ?_)); simp [zaz, zaf, Tryz.results202]; refine FinOK.here (by simp) ?_; try simp)
theorem zm1 (l : List Tok) (p : Nat) (i nx : Nat) (hi : i < nx) (hp : p < l.length) (hl : TokOK l) :
  RetX Tryz.prog 126 [.ptr i 0] [(i, pOb l p)] nx (PPost l i nx zie (zgu l p)) := by
 have hne := zaP hi;have hll := hl.len;have hor := zly;generalize hR : zgu l p = R;rw [zgu] at hR;have hh1 := fun nx' (h : nx <= nx') => zbf l p [111, 114, 100, 101, 114] i nx' (by omega) hp hl.len;by_cases c1 : isB l p [111, 114, 100, 101, 114] = true
 ·have g1 := zba hl c1;rw [if_pos c1] at hR;simp only [c1, if_true] at hh1;have hix := fun nx' (h : nx <= nx') => zlQ l (p + 1) ordersW i nx' (by omega) g1 hl;have hat : atW l (p + 1) ordersW = ordersW.findIdx? fun w => isB l (p + 1) w := rfl;rw [<- hat] at hR;obtain ⟨t, ht⟩ : ∃ t, l[p + 1]? = some t := ⟨_, List.getElem?_eq_getElem g1⟩;have hpa : zdo l (p + 1) = t.pos := by unfold zdo; rw [ht]
  rw [hpa] at hR;cases hj : atW l (p + 1) ordersW with
  | none =>
   have hc2 := fun e nx' (h : nx <= nx') => zdt l (p + 1) t e i nx' (by omega) ht hl.len;rw [hj] at hR hix;simp only [Option.isSome_none, Bool.false_eq_true, if_false] at hR hix
   (refine RetX.of_bodyW Tryz.func126 rfl (by simp) fun Γ hn hpan => ?_); simp only [entry, ziC, ziN, maC, maN, oA, Tryz.ntmps126]
   repeat' (first
  | ((first | refine zag ?_ | refine zaj ?_ | refine zah ?_ | refine zai ?_ | fail); simp [hne, del, nAA])
  | (refine zaq ?_; simp only [zap])
  | (refine CallP.fE (hor) (by first | rfl | fail) (by first | simp [hne, del, nAA] <;> rfl | fail) ?_; (try simp [hne, del, nAA]))
  | (refine CallP.ok1 (hh1 _ (by first | omega | simp <;> omega | fail)) (by first | (simp [hne, del, nAA, zaa, getK, zab, zac]; done) | fail) (by rfl) (by rfl) ?_; (try simp [hne, del, nAA]))
  | (refine CallP.ok1 (hix _ (by first | omega | simp <;> omega | fail)) (by first | (simp [hne, del, nAA, zaa, getK, zab, zac]; done) | fail) (by rfl) (by rfl) ?_; (try simp [hne, del, nAA]))
  | (refine CallP.zeQ (hc2 _ _ (by first | omega | simp <;> omega | fail)) (by first | (simp [hne, del, nAA, zaa, getK, zab, zac]; done) | fail) (by rfl) (by first | assumption | (simp; done) | fail) (by rfl) (by simp) ?_; rintro ob' ⟨q', rfl⟩; refine ⟨_, Wk.refl _, ?_⟩)
  | fail)
   (refine hpan _ _ ⟨{ n := _, env := [], obs := [(i, pOb l q')], next := nx }, (Wk.cut rfl (by simp [hn]) (by simp [wkO, zaa, getK, zab, zac, Ob.under, D.under, zad, zae, hi, hne, zab, zac, zaa, getK]) (by simp [wkU, zam, zaa, getK, D.under, hi, hne, zab, zac, zaa, getK]) (by simp [wkE, zam, zaa, getK, hi, hne, zab, zac, zaa, getK])), by simp [hn], ?_⟩; try simp)
   exact PPost.zaB hR.symm
  | some j =>
   have g2 : p + 1 + 1 < l.length := by
    unfold atW at hj;rw [List.findIdx?_eq_some_iff_getElem] at hj;obtain ⟨_, hb, _⟩ := hj;exact zba hl hb
   have hj0 : (0 : Int) <= (j : Int) := by omega
   have hc1 := fun e nx' (h : nx <= nx') => zeL l (p + 1 + 1) e i nx' (by omega);rw [hj] at hR hix;simp only [Option.isSome_some, if_true] at hR hix
   (refine RetX.of_bodyW Tryz.func126 rfl (by simp) fun Γ hn hpan => ?_); simp only [entry, ziC, ziN, maC, maN, oA, Tryz.ntmps126]
   repeat' (first
  | ((first | refine zag ?_ | refine zaj ?_ | refine zah ?_ | refine zai ?_ | fail); simp [hne, del, nAA, hj0])
  | (refine zaq ?_; simp only [zap])
  | (refine CallP.fE (hor) (by first | rfl | fail) (by first | simp [hne, del, nAA, hj0] <;> rfl | fail) ?_; (try simp [hne, del, nAA, hj0]))
  | (refine CallP.ok1 (hh1 _ (by first | omega | simp <;> omega | fail)) (by first | (simp [hne, del, nAA, hj0, zaa, getK, zab, zac]; done) | fail) (by rfl) (by rfl) ?_; (try simp [hne, del, nAA, hj0]))
  | (refine CallP.ok1 (hix _ (by first | omega | simp <;> omega | fail)) (by first | (simp [hne, del, nAA, hj0, zaa, getK, zab, zac]; done) | fail) (by rfl) (by rfl) ?_; (try simp [hne, del, nAA, hj0]))
  | (refine CallP.ok1 (hc1 _ _ (by first | omega | simp <;> omega | fail)) (by first | (simp [hne, del, nAA, hj0, zaa, getK, zab, zac]; done) | fail) (by rfl) (by rfl) ?_; (try simp [hne, del, nAA, hj0]))
  | (refine zaF (by first | rfl | fail) ?_; simp [hne, del, nAA, hj0, frzN, frz1, zaE, zaD, St.frz, St.frzS, frzS, fv, za5, za6, za7, zaH, zay, zav, del, frz, zbg])
  | fail)
   (refine CallP.pp (zeS hl [59] (q := p + 1 + 1) (i := i) (by first | omega | simp <;> omega | fail) g2) (by first | (simp [hi, hne, nAA, zaa, getK, zab, zac]; done) | fail) (by rfl) (by first | assumption | (simp; done) | fail) (by rfl) (by simp) (fun v2 q2 h2 => ?_) (fun pos e q' h2 => ⟨_, Wk.refl _, ?_⟩); rotate_left 1; (focus (rw [h2, PR.zaK] at hR; (refine hpan _ _ ⟨{ n := _, env := [], obs := [(i, pOb l q')], next := nx }, (Wk.cut rfl (by simp [hn]) (by simp [wkO, zaa, getK, zab, zac, Ob.under, D.under, zad, zae, hi, hne, nAA, zab, zac, zaa, getK]) (by simp [wkU, zam, zaa, getK, D.under, hi, hne, nAA, zab, zac, zaa, getK]) (by simp [wkE, zam, zaa, getK, hi, hne, nAA, zab, zac, zaa, getK])), by simp [hn], ?_⟩; try simp); exact PPost.zaB hR.symm)); rw [h2, PR.bind_ok] at hR; (try simp [hi, hne, nAA]))
   repeat' (first
  | ((first | refine zag ?_ | refine zaj ?_ | refine zah ?_ | fail); simp [hne, del])
  | (refine zar ?_; simp only [zap])
  | fail)
   (refine EndW.here ?_; (first | (refine EndOK.fin (.inr rfl) ?_) | (refine EndOK.fin (.inl rfl) ?_)); simp [zaz, zaf, Tryz.results126, hne, hi]; refine FinOK.cut [(i, pOb l q2)] (nx) (by simp [zaa, getK, zab, zac, Ob.under, D.under, zad, zae, hne, hi] <;> omega) (by simp [D.under]) (by simp [hn]) ?_; try simp)
   exact PPost.zch hR.symm rfl rfl
 ·rw [if_neg c1] at hR;simp only [c1, Bool.false_eq_true, if_false] at hh1
  (refine RetX.of_bodyW Tryz.func126 rfl (by simp) fun Γ hn hpan => ?_); simp only [entry, ziC, ziN, maC, maN, oA, Tryz.ntmps126]
  repeat' (first
  | ((first | refine zag ?_ | refine zaj ?_ | refine zah ?_ | refine zai ?_ | fail); simp [hne, del, nAA])
  | (refine zar ?_; simp only [zap])
  | (refine CallP.ok1 (hh1 _ (by first | omega | simp <;> omega | fail)) (by first | (simp [hne, del, nAA, zaa, getK, zab, zac]; done) | fail) (by rfl) (by rfl) ?_; (try simp [hne, del, nAA]))
  | fail)
  (refine EndW.here ?_; (first | (refine EndOK.fin (.inr rfl) ?_) | (refine EndOK.fin (.inl rfl) ?_)); simp [zaz, zaf, Tryz.results126, hne, hi]; refine FinOK.cut [(i, pOb l p)] (nx) (by simp [zaa, getK, zab, zac, Ob.under, D.under, zad, zae, hne, hi] <;> omega) (by simp [D.under]) (by simp [hn]) ?_; try simp)
  exact PPost.zch hR.symm rfl rfl
theorem zm2 {l : List Tok} (hl : TokOK l) {p q : Nat} {n : Int} (h : zgu l p = .ok n q) (hp : p < l.length) : p <= q /\ q < l.length := by
 unfold zgu at h;split at h
 ·split at h
  ·rename_i j hj;rw [List.findIdx?_eq_some_iff_getElem] at hj;obtain ⟨_, hb, _⟩ := hj;obtain ⟨_, r2, h2, h⟩ := PR.zaG h;have g2 := zaW hl _ h2 (zba hl hb);cases h;exact ⟨by omega, g2.2⟩
  ·cases h
 ·cases h; exact ⟨by omega, hp⟩
theorem ziU (x : Let) (s : W8) : Fun Tryz.prog 128 (zoZ x :: [U.row [.str s] 0].map .u) (· = .u (.bool (decide (x.name = s)))) := by
 simp only [zoZ, List.map_cons, List.map_nil]
 (refine Fun.of_body Tryz.func128 rfl (by simp) fun Γ hn => ?_); simp only [entry, ziC, ziN, maC, maN, oA, Tryz.ntmps128]
 repeat' (first
  | ((first | refine zag ?_ | refine zaj ?_ | refine zah ?_ | fail); simp)
  | (refine zar ?_; simp only [zap])
  | fail)
 (refine EndOK.val (.inr rfl) ?_; simp [zaz, zaf, zas, Tryz.results128])
theorem zmD (lets : List Let) (s : W8) : Fun Tryz.prog 90 [.u (zax lets), .fnc (.func 128) [.u (.row [.str s] 0)]]
  (· = .u (.bool (lets.any fun x => decide (x.name = s)))) :=
 zeb lets 128 [U.row [.str s] 0] _ (fun x _ => ziU x s) (by simp) (fun _ => rfl) (fun _ => rfl)
theorem zmb (l : List Tok) (hl0 : 0 < l.length) (hl : TokOK l) (hl2 : l.length <= 2001) :
  RetX Tryz.prog 64 [.ptr 3 0] [(3, pOb l 0)] 4 (PPost l 3 4 byD (zqr l)) := by
 have hi : 3 < 4 := by decide
 have hne := zaP hi;have hll := hl.len;have htE : True := trivial;generalize hR : zqr l = R;rw [zqr] at hR
 (refine RetX.of_bodyW Tryz.func64 rfl (by simp) fun Γ hn hpan => ?_); simp only [entry, ziC, ziN, maC, maN, oA, Tryz.ntmps64]
 repeat' (first
  | ((first | refine zag ?_ | refine zaj ?_ | refine zah ?_ | fail); simp [hne])
  | fail)
 (refine CallP.pp (zo0 l 0 3 _ (by first | omega | simp <;> omega | fail) hl0 hl) (by first | (simp [hi, hne, del, htE, zaa, getK, zab, zac]; done) | fail) (by rfl) (by first | assumption | (simp; done) | fail) (by rfl) (by simp) (fun kb q1 h1 => ?_) (fun pos e q' h1 => ⟨_, Wk.refl _, ?_⟩); rotate_left 1; (focus (rw [h1, PR.zaK] at hR; (refine hpan _ _ ⟨{ n := _, env := [], obs := [(3, pOb l q')], next := 4 }, (Wk.cut rfl (by simp [hn]) (by simp [wkO, zaa, getK, zab, zac, Ob.under, D.under, zad, zae, hi, hne, del, htE, zab, zac, zaa, getK]) (by simp [wkU, zam, zaa, getK, D.under, hi, hne, del, htE, zab, zac, zaa, getK]) (by simp [wkE, zam, zaa, getK, hi, hne, del, htE, zab, zac, zaa, getK])), by simp [hn], ?_⟩; try simp); exact PPost.zaB hR.symm)); rw [h1, PR.bind_ok] at hR; (try simp [hi, hne, del, htE]))
 obtain ⟨_, g1⟩ := zo2 hl h1 hl0;have hm := zeg l q1 [112, 101, 114, 105, 111, 100] g1 hl.len
 repeat' (first
  | ((first | refine zag ?_ | refine zaj ?_ | refine zah ?_ | fail); simp [hne, del])
  | (refine CallP.fE (hm) (by first | rfl | fail) (by first | simp [hne, del] <;> rfl | fail) ?_; (try simp [hne, del]))
  | fail)
 (refine CallP.pp (zkH l q1 [112, 101, 114, 105, 111, 100] 3 _ (by first | omega | simp <;> omega | fail) g1 hl) (by first | (simp [hi, hne, del, htE, zaa, getK, zab, zac]; done) | fail) (by rfl) (by first | assumption | (simp; done) | fail) (by rfl) (by simp) (fun u2 q2 h2 => ?_) (fun pos e q' h2 => ⟨_, Wk.refl _, ?_⟩); rotate_left 1; (focus (rw [h2, PR.zaK] at hR; (refine hpan _ _ ⟨{ n := _, env := [], obs := [(3, pOb l q')], next := 4 }, (Wk.cut rfl (by simp [hn]) (by simp [wkO, zaa, getK, zab, zac, Ob.under, D.under, zad, zae, hi, hne, del, htE, zab, zac, zaa, getK]) (by simp [wkU, zam, zaa, getK, D.under, hi, hne, del, htE, zab, zac, zaa, getK]) (by simp [wkE, zam, zaa, getK, hi, hne, del, htE, zab, zac, zaa, getK])), by simp [hn], ?_⟩; try simp); exact PPost.zaB hR.symm)); rw [h2, PR.bind_ok] at hR; (try simp [hi, hne, del, htE]))
 obtain ⟨rfl, _⟩ := znf h2
 repeat' (first
  | ((first | refine zag ?_ | refine zaj ?_ | refine zah ?_ | fail); simp [hne, del])
  | (refine zaF (by first | rfl | fail) ?_; simp [hne, del, frzN, frz1, zaE, zaD, St.frz, St.frzS, frzS, fv, za5, za6, za7, zaH, zay, zav, del, frz, zbg])
  | fail)
 (refine CallP.pp (zdC l q2 [112, 101, 114, 105, 111, 100] 1 1000 [[100, 97, 121, 115], [59]] 3 _ (by first | omega | simp <;> omega | fail) g1 hl (by simp)) (by first | (simp [hi, hne, del, htE, zaa, getK, zab, zac]; done) | fail) (by rfl) (by first | assumption | (simp; done) | fail) (by rfl) (by simp) (fun period q3 h3 => ?_) (fun pos e q' h3 => ⟨_, Wk.refl _, ?_⟩); rotate_left 1; (focus (rw [h3, PR.zaK] at hR; (refine hpan _ _ ⟨{ n := _, env := [], obs := [(3, pOb l q')], next := 4 }, (Wk.cut rfl (by simp [hn]) (by simp [wkO, zaa, getK, zab, zac, Ob.under, D.under, zad, zae, hi, hne, del, htE, zab, zac, zaa, getK]) (by simp [wkU, zam, zaa, getK, D.under, hi, hne, del, htE, zab, zac, zaa, getK]) (by simp [wkE, zam, zaa, getK, hi, hne, del, htE, zab, zac, zaa, getK])), by simp [hn], ?_⟩; try simp); exact PPost.zaB hR.symm)); rw [h3, PR.bind_ok] at hR; (try simp [hi, hne, del, htE]))
 obtain ⟨_, g3⟩ := zdD hl h3 g1
 repeat' (first
  | ((first | refine zag ?_ | refine zaj ?_ | refine zah ?_ | fail); simp [hne, del])
  | fail)
 have hm := zeg l q3 [108, 97, 115, 116] g3 hl.len
 repeat' (first
  | (refine zag ?_; simp [hne, del])
  | (refine CallP.fE (hm) (by first | rfl | fail) (by first | simp [hne, del] <;> rfl | fail) ?_; (try simp [hne, del]))
  | fail)
 (refine CallP.pp (zkH l q3 [108, 97, 115, 116] 3 _ (by first | omega | simp <;> omega | fail) g3 hl) (by first | (simp [hi, hne, del, htE, zaa, getK, zab, zac]; done) | fail) (by rfl) (by first | assumption | (simp; done) | fail) (by rfl) (by simp) (fun u4 q4 h4 => ?_) (fun pos e q' h4 => ⟨_, Wk.refl _, ?_⟩); rotate_left 1; (focus (rw [h4, PR.zaK] at hR; (refine hpan _ _ ⟨{ n := _, env := [], obs := [(3, pOb l q')], next := 4 }, (Wk.cut rfl (by simp [hn]) (by simp [wkO, zaa, getK, zab, zac, Ob.under, D.under, zad, zae, hi, hne, del, htE, zab, zac, zaa, getK]) (by simp [wkU, zam, zaa, getK, D.under, hi, hne, del, htE, zab, zac, zaa, getK]) (by simp [wkE, zam, zaa, getK, hi, hne, del, htE, zab, zac, zaa, getK])), by simp [hn], ?_⟩; try simp); exact PPost.zaB hR.symm)); rw [h4, PR.bind_ok] at hR; (try simp [hi, hne, del, htE]))
 obtain ⟨rfl, _⟩ := znf h4
 repeat' (first
  | ((first | refine zag ?_ | refine zaj ?_ | refine zah ?_ | fail); simp [hne, del])
  | (refine zaF (by first | rfl | fail) ?_; simp [hne, del, frzN, frz1, zaE, zaD, St.frz, St.frzS, frzS, fv, za5, za6, za7, zaH, zay, zav, del, frz, zbg])
  | fail)
 (refine CallP.pp (zdC l q4 [108, 97, 115, 116] 1 1000 [[59]] 3 _ (by first | omega | simp <;> omega | fail) g3 hl (by simp)) (by first | (simp [hi, hne, del, htE, zaa, getK, zab, zac]; done) | fail) (by rfl) (by first | assumption | (simp; done) | fail) (by rfl) (by simp) (fun last q5 h5 => ?_) (fun pos e q' h5 => ⟨_, Wk.refl _, ?_⟩); rotate_left 1; (focus (rw [h5, PR.zaK] at hR; (refine hpan _ _ ⟨{ n := _, env := [], obs := [(3, pOb l q')], next := 4 }, (Wk.cut rfl (by simp [hn]) (by simp [wkO, zaa, getK, zab, zac, Ob.under, D.under, zad, zae, hi, hne, del, htE, zab, zac, zaa, getK]) (by simp [wkU, zam, zaa, getK, D.under, hi, hne, del, htE, zab, zac, zaa, getK]) (by simp [wkE, zam, zaa, getK, hi, hne, del, htE, zab, zac, zaa, getK])), by simp [hn], ?_⟩; try simp); exact PPost.zaB hR.symm)); rw [h5, PR.bind_ok] at hR; (try simp [hi, hne, del, htE]))
 obtain ⟨_, g5⟩ := zdD hl h5 g3
 repeat' (first
  | ((first | refine zag ?_ | refine zaj ?_ | refine zah ?_ | fail); simp [hne, del])
  | (refine zaF (by first | rfl | fail) ?_; simp [hne, del, frzN, frz1, zaE, zaD, St.frz, St.frzS, frzS, fv, za5, za6, za7, zaH, zay, zav, del, frz, zbg])
  | fail)
 (refine CallP.pp (zdC l q5 [103, 114, 97, 99, 101] 0 1000 [[100, 97, 121, 115], [59]] 3 _ (by first | omega | simp <;> omega | fail) g5 hl (by simp)) (by first | (simp [hi, hne, del, htE, zaa, getK, zab, zac]; done) | fail) (by rfl) (by first | assumption | (simp; done) | fail) (by rfl) (by simp) (fun grace q6 h6 => ?_) (fun pos e q' h6 => ⟨_, Wk.refl _, ?_⟩); rotate_left 1; (focus (rw [h6, PR.zaK] at hR; (refine hpan _ _ ⟨{ n := _, env := [], obs := [(3, pOb l q')], next := 4 }, (Wk.cut rfl (by simp [hn]) (by simp [wkO, zaa, getK, zab, zac, Ob.under, D.under, zad, zae, hi, hne, del, htE, zab, zac, zaa, getK]) (by simp [wkU, zam, zaa, getK, D.under, hi, hne, del, htE, zab, zac, zaa, getK]) (by simp [wkE, zam, zaa, getK, hi, hne, del, htE, zab, zac, zaa, getK])), by simp [hn], ?_⟩; try simp); exact PPost.zaB hR.symm)); rw [h6, PR.bind_ok] at hR; (try simp [hi, hne, del, htE]))
 obtain ⟨_, g6⟩ := zdD hl h6 g5
 repeat' (first
  | ((first | refine zag ?_ | refine zaj ?_ | refine zah ?_ | fail); simp [hne, del])
  | (refine zaF (by first | rfl | fail) ?_; simp [hne, del, frzN, frz1, zaE, zaD, St.frz, St.frzS, frzS, fv, za5, za6, za7, zaH, zay, zav, del, frz, zbg])
  | fail)
 (refine CallP.pp (zdC l q6 [119, 97, 105, 116] 0 1000 [[100, 97, 121, 115], [59]] 3 _ (by first | omega | simp <;> omega | fail) g6 hl (by simp)) (by first | (simp [hi, hne, del, htE, zaa, getK, zab, zac]; done) | fail) (by rfl) (by first | assumption | (simp; done) | fail) (by rfl) (by simp) (fun wait q7 h7 => ?_) (fun pos e q' h7 => ⟨_, Wk.refl _, ?_⟩); rotate_left 1; (focus (rw [h7, PR.zaK] at hR; (refine hpan _ _ ⟨{ n := _, env := [], obs := [(3, pOb l q')], next := 4 }, (Wk.cut rfl (by simp [hn]) (by simp [wkO, zaa, getK, zab, zac, Ob.under, D.under, zad, zae, hi, hne, del, htE, zab, zac, zaa, getK]) (by simp [wkU, zam, zaa, getK, D.under, hi, hne, del, htE, zab, zac, zaa, getK]) (by simp [wkE, zam, zaa, getK, hi, hne, del, htE, zab, zac, zaa, getK])), by simp [hn], ?_⟩; try simp); exact PPost.zaB hR.symm)); rw [h7, PR.bind_ok] at hR; (try simp [hi, hne, del, htE]))
 obtain ⟨_, g7⟩ := zdD hl h7 g6
 repeat' (first
  | ((first | refine zag ?_ | refine zaj ?_ | refine zah ?_ | fail); simp [hne, del])
  | fail)
 (refine CallP.pp (zm1 l q7 3 _ (by first | omega | simp <;> omega | fail) g7 hl) (by first | (simp [hi, hne, del, htE, zaa, getK, zab, zac]; done) | fail) (by rfl) (by first | assumption | (simp; done) | fail) (by rfl) (by simp) (fun order q8 h8 => ?_) (fun pos e q' h8 => ⟨_, Wk.refl _, ?_⟩); rotate_left 1; (focus (rw [h8, PR.zaK] at hR; (refine hpan _ _ ⟨{ n := _, env := [], obs := [(3, pOb l q')], next := 4 }, (Wk.cut rfl (by simp [hn]) (by simp [wkO, zaa, getK, zab, zac, Ob.under, D.under, zad, zae, hi, hne, del, htE, zab, zac, zaa, getK]) (by simp [wkU, zam, zaa, getK, D.under, hi, hne, del, htE, zab, zac, zaa, getK]) (by simp [wkE, zam, zaa, getK, hi, hne, del, htE, zab, zac, zaa, getK])), by simp [hn], ?_⟩; try simp); exact PPost.zaB hR.symm)); rw [h8, PR.bind_ok] at hR; (try simp [hi, hne, del, htE]))
 obtain ⟨_, g8⟩ := zm2 hl h8 g7
 repeat' (first
  | ((first | refine zag ?_ | refine zaj ?_ | refine zah ?_ | fail); simp [hne, del])
  | (refine zaF (by first | rfl | fail) ?_; simp [hne, del, frzN, frz1, zaE, zaD, St.frz, St.frzS, frzS, fv, za5, za6, za7, zaH, zay, zav, del, frz, zbg])
  | fail)
 (refine CallP.pp (zdC l q8 [98, 97, 99, 107, 115] 0 60 [[59]] 3 _ (by first | omega | simp <;> omega | fail) g8 hl (by simp)) (by first | (simp [hi, hne, del, htE, zaa, getK, zab, zac]; done) | fail) (by rfl) (by first | assumption | (simp; done) | fail) (by rfl) (by simp) (fun backs q9 h9 => ?_) (fun pos e q' h9 => ⟨_, Wk.refl _, ?_⟩); rotate_left 1; (focus (rw [h9, PR.zaK] at hR; (refine hpan _ _ ⟨{ n := _, env := [], obs := [(3, pOb l q')], next := 4 }, (Wk.cut rfl (by simp [hn]) (by simp [wkO, zaa, getK, zab, zac, Ob.under, D.under, zad, zae, hi, hne, del, htE, zab, zac, zaa, getK]) (by simp [wkU, zam, zaa, getK, D.under, hi, hne, del, htE, zab, zac, zaa, getK]) (by simp [wkE, zam, zaa, getK, hi, hne, del, htE, zab, zac, zaa, getK])), by simp [hn], ?_⟩; try simp); exact PPost.zaB hR.symm)); rw [h9, PR.bind_ok] at hR; (try simp [hi, hne, del, htE]))
 obtain ⟨_, g9⟩ := zdD hl h9 g8
 repeat' (first
  | ((first | refine zag ?_ | refine zaj ?_ | refine zah ?_ | fail); simp [hne, del])
  | (refine zaF (by first | rfl | fail) ?_; simp [hne, del, frzN, frz1, zaE, zaD, St.frz, St.frzS, frzS, fv, za5, za6, za7, zaH, zay, zav, del, frz, zbg])
  | fail)
 (refine CallP.pp (zdC l q9 [118, 111, 105, 99, 101, 115] 0 1000 [[112, 101, 114], [109, 105, 108, 108, 101], [59]] 3 _ (by first | omega | simp <;> omega | fail) g9 hl (by simp)) (by first | (simp [hi, hne, del, htE, zaa, getK, zab, zac]; done) | fail) (by rfl) (by first | assumption | (simp; done) | fail) (by rfl) (by simp) (fun voices q10 h10 => ?_) (fun pos e q' h10 => ⟨_, Wk.refl _, ?_⟩); rotate_left 1; (focus (rw [h10, PR.zaK] at hR; (refine hpan _ _ ⟨{ n := _, env := [], obs := [(3, pOb l q')], next := 4 }, (Wk.cut rfl (by simp [hn]) (by simp [wkO, zaa, getK, zab, zac, Ob.under, D.under, zad, zae, hi, hne, del, htE, zab, zac, zaa, getK]) (by simp [wkU, zam, zaa, getK, D.under, hi, hne, del, htE, zab, zac, zaa, getK]) (by simp [wkE, zam, zaa, getK, hi, hne, del, htE, zab, zac, zaa, getK])), by simp [hn], ?_⟩; try simp); exact PPost.zaB hR.symm)); rw [h10, PR.bind_ok] at hR; (try simp [hi, hne, del, htE]))
 obtain ⟨_, g10⟩ := zdD hl h10 g9
 repeat' (first
  | ((first | refine zag ?_ | refine zaj ?_ | refine zah ?_ | fail); simp [hne, del])
  | (refine zaF (by first | rfl | fail) ?_; simp [hne, del, frzN, frz1, zaE, zaD, St.frz, St.frzS, frzS, fv, za5, za6, za7, zaH, zay, zav, del, frz, zbg])
  | fail)
 (refine CallP.pp (zdC l q10 [106, 117, 114, 121] 0 60 [[59]] 3 _ (by first | omega | simp <;> omega | fail) g10 hl (by simp)) (by first | (simp [hi, hne, del, htE, zaa, getK, zab, zac]; done) | fail) (by rfl) (by first | assumption | (simp; done) | fail) (by rfl) (by simp) (fun jury q11 h11 => ?_) (fun pos e q' h11 => ⟨_, Wk.refl _, ?_⟩); rotate_left 1; (focus (rw [h11, PR.zaK] at hR; (refine hpan _ _ ⟨{ n := _, env := [], obs := [(3, pOb l q')], next := 4 }, (Wk.cut rfl (by simp [hn]) (by simp [wkO, zaa, getK, zab, zac, Ob.under, D.under, zad, zae, hi, hne, del, htE, zab, zac, zaa, getK]) (by simp [wkU, zam, zaa, getK, D.under, hi, hne, del, htE, zab, zac, zaa, getK]) (by simp [wkE, zam, zaa, getK, hi, hne, del, htE, zab, zac, zaa, getK])), by simp [hn], ?_⟩; try simp); exact PPost.zaB hR.symm)); rw [h11, PR.bind_ok] at hR; (try simp [hi, hne, del, htE]))
 obtain ⟨_, g11⟩ := zdD hl h11 g10
 repeat' (first
  | ((first | refine zag ?_ | refine zaj ?_ | refine zah ?_ | fail); simp [hne, del])
  | (refine zaF (by first | rfl | fail) ?_; simp [hne, del, frzN, frz1, zaE, zaD, St.frz, St.frzS, frzS, fv, za5, za6, za7, zaH, zay, zav, del, frz, zbg])
  | fail)
 (refine CallP.pp (zdC l q11 [102, 117, 110, 100] 0 1000 [[112, 101, 114], [109, 105, 108, 108, 101], [59]] 3 _ (by first | omega | simp <;> omega | fail) g11 hl (by simp)) (by first | (simp [hi, hne, del, htE, zaa, getK, zab, zac]; done) | fail) (by rfl) (by first | assumption | (simp; done) | fail) (by rfl) (by simp) (fun fund q12 h12 => ?_) (fun pos e q' h12 => ⟨_, Wk.refl _, ?_⟩); rotate_left 1; (focus (rw [h12, PR.zaK] at hR; (refine hpan _ _ ⟨{ n := _, env := [], obs := [(3, pOb l q')], next := 4 }, (Wk.cut rfl (by simp [hn]) (by simp [wkO, zaa, getK, zab, zac, Ob.under, D.under, zad, zae, hi, hne, del, htE, zab, zac, zaa, getK]) (by simp [wkU, zam, zaa, getK, D.under, hi, hne, del, htE, zab, zac, zaa, getK]) (by simp [wkE, zam, zaa, getK, hi, hne, del, htE, zab, zac, zaa, getK])), by simp [hn], ?_⟩; try simp); exact PPost.zaB hR.symm)); rw [h12, PR.bind_ok] at hR; (try simp [hi, hne, del, htE]))
 obtain ⟨_, g12⟩ := zdD hl h12 g11
 repeat' (first
  | ((first | refine zag ?_ | refine zaj ?_ | refine zah ?_ | fail); simp [hne, del])
  | fail)
 refine zqY _ (Wk.ownC 5 _ 11 137 6 (by decide) rfl rfl) ?_;simp [St.ownC];refine zcq (α := { x : Nat × List Let × Nat // x.1 < l.length /\ x.2.1.length + x.2.2 = 21 /\ x.2.1.length <= 20 /\ zgD l 21 q12 [] = zgD l x.2.2 x.1 x.2.1 }) [0, 2, 3] (fun x => [])
  (fun x => [(5, .box [.u (.int .i64 kb.1), .u (.int .i64 period), .u (.int .i64 grace), .u (.int .i64 wait), .u (.int .i64 last), .u (.int .i64 order), .u (.bool kb.2), .u (.int .i64 backs), .u (.int .i64 voices), .u (.int .i64 jury), .u (.int .i64 fund), .vec 14 x.1.2.1.length, .u (.int .i64 0), .u (.int .i64 0), .u (.int .i64 0), .u (.str []), .u .nil, .u (.int .i64 0), .u (.int .i64 0), .u (.int .i64 0), .u (.str []), .u .nil, .u (.int .i64 0), .u (.int .i64 0), .u (.int .i64 0), .u (.str []), .u .nil, .u (.int .i64 0), .u (.int .i64 0), .u (.int .i64 0), .u (.str []), .u .nil, .u (.int .i64 0), .u (.int .i64 0), .u (.int .i64 0), .u (.str []), .u .nil]), (14, .vec 137 6 (rowsD (zfU x.1.2.1))), (4, .box [.u (.int .i64 0), .u (.int .i64 0), .u (.int .i64 0), .u (.int .i64 0), .u (.int .i64 0), .u (.int .i64 0), .u (.bool false), .u (.int .i64 0), .u (.int .i64 0), .u (.int .i64 0), .u (.int .i64 0), .u .nil, .u (.int .i64 0), .u (.int .i64 0), .u (.int .i64 0), .u (.str []), .u .nil, .u (.int .i64 0), .u (.int .i64 0), .u (.int .i64 0), .u (.str []), .u .nil, .u (.int .i64 0), .u (.int .i64 0), .u (.int .i64 0), .u (.str []), .u .nil, .u (.int .i64 0), .u (.int .i64 0), .u (.int .i64 0), .u (.str []), .u .nil, .u (.int .i64 0), .u (.int .i64 0), .u (.int .i64 0), .u (.str []), .u .nil]), (3, pOb l x.1.1)]) 15 (fun x => x.1.2.2) ⟨(q12, [], 21), g12, rfl, by simp, rfl⟩ ?_ ?_
 ·exact (Wk.cut rfl (by simp [hn, St.lp]) (by simp [wkO, St.lp, zaa, getK, Ob.under, D.under, zad, zae, zfU]) (by simp [wkU, St.lp, zam, zaa, getK, D.under, zfU]) (by simp [wkE, St.lp, zam, zaa, getK, zfU] <;> (try (intros; simp_all; done)) <;> (try (intros; omega)) <;> (try grind)))
 rintro ⟨⟨q, acc, g⟩, gq, hg, hg2, hS⟩;simp only at gq hg hg2 hS;simp [St.lp, St.only, zam, zaa, getK];have hm := zeg l q [108, 101, 116] gq hl.len;have hAl := znr acc;have hsn := zlJ acc;generalize hA : zfU acc = A at *;have htk : A.take acc.length = A := List.take_of_length_le (by omega);obtain ⟨g, rfl⟩ : ∃ g', g = g' + 1 := ⟨g - 1, by omega⟩;by_cases hb : isB l q [108, 101, 116] = true
 ·have g1q := zba hl hb;obtain ⟨t, ht⟩ : ∃ t, l[q + 1]? = some t := ⟨_, List.getElem?_eq_getElem g1q⟩;have hnx := zb4 l (q + 1) t ht hl.len;rw [zlI ht, if_pos hb] at hS;rw [hS, PR.zdW] at hR;rw [hb] at hm
  repeat' (first
  | ((first | refine zag ?_ | refine zaj ?_ | refine zah ?_ | refine zai ?_ | refine zao ?_ | fail); simp [hne, del, hAl])
  | (refine zaq ?_; simp only [zap])
  | (refine CallP.fE (hm) (by first | rfl | fail) (by first | simp [hne, del, hAl] <;> rfl | fail) ?_; (try simp [hne, del, hAl]))
  | fail)
  (refine CallP.pp (zgQ l q (decide ((acc.length : Int) < 20)) 6 3 _ (by first | omega | simp <;> omega | fail) gq hl) (by first | (simp [hi, hne, del, zaa, getK, zab, zac]; done) | fail) (by rfl) (by first | assumption | (simp; done) | fail) (by rfl) (by simp) (fun u20 q20 h20 => ?_) (fun pos e q' h20 => ⟨_, Wk.refl _, ?_⟩); rotate_left 1; (focus (rw [h20, PR.zaK] at hR; (refine hpan _ _ ⟨{ n := _, env := [], obs := [(3, pOb l q')], next := 4 }, (Wk.cut rfl (by simp [hn]) (by simp [wkO, zaa, getK, zab, zac, Ob.under, D.under, zad, zae, hi, hne, del, zab, zac, zaa, getK]) (by simp [wkU, zam, zaa, getK, D.under, hi, hne, del, zab, zac, zaa, getK]) (by simp [wkE, zam, zaa, getK, hi, hne, del, zab, zac, zaa, getK])), by simp [hn], ?_⟩; try simp); exact PPost.zaB hR.symm)); rw [h20, PR.bind_ok] at hR; (try simp [hi, hne, del]))
  obtain ⟨rfl, hlt⟩ := znY h20;rw [h20, PR.bind_ok] at hS;rw [PR.zdW] at hR;by_cases hw : t.kind = 1
  case neg =>
   have hc2 := fun e nx' (h : 15 <= nx') => zdt l (q20 + 1) t e 3 nx' (by omega) ht hl.len;have e3 : zmi l (q20 + 1) (decide (t.kind = 1) && zd6 t.text) 12 = .stop t.pos 12 := by
    unfold zmi zdo; rw [ht]; simp [hw]
   rw [e3, PR.zaK] at hR
   repeat' (first
  | ((first | refine zag ?_ | refine zaj ?_ | fail); simp [hne, del, hw])
  | (refine ⟨by omega, ?_⟩)
  | (refine zah ?_; simp [hne, del, hw])
  | (refine CallP.fE (hnx) (by first | rfl | fail) (by first | simp [hne, del, hw] <;> rfl | fail) ?_; (try simp [hne, del, hw]))
  | (refine CallP.zeQ (hc2 _ _ (by first | omega | simp <;> omega | fail)) (by first | (simp [hne, del, hw, zaa, getK, zab, zac]; done) | fail) (by rfl) (by first | assumption | (simp; done) | fail) (by rfl) (by simp) ?_; rintro ob' ⟨q', rfl⟩; refine ⟨_, Wk.refl _, ?_⟩)
  | fail)
   (refine hpan _ _ ⟨{ n := _, env := [], obs := [(3, pOb l q')], next := 4 }, (Wk.cut rfl (by simp [hn]) (by simp [wkO, zaa, getK, zab, zac, Ob.under, D.under, zad, zae, hi, hne, zab, zac, zaa, getK]) (by simp [wkU, zam, zaa, getK, D.under, hi, hne, zab, zac, zaa, getK]) (by simp [wkE, zam, zaa, getK, hi, hne, zab, zac, zaa, getK])), by simp [hn], ?_⟩; try simp)
   exact PPost.zaB hR.symm
  have hnm := zf5 t.text;have e3 : (decide (t.kind = 1) && zd6 t.text) = zd6 t.text := by simp [hw]
  rw [e3] at hR hS;generalize zd6 t.text = nb at hnm hR hS
  repeat' (first
  | ((first | refine zag ?_ | refine zaj ?_ | fail); simp [hne, del, hw])
  | (refine ⟨by omega, ?_⟩)
  | (refine zah ?_; simp [hne, del, hw])
  | (refine CallP.fE (hnx) (by first | rfl | fail) (by first | simp [hne, del, hw] <;> rfl | fail) ?_; (try simp [hne, del, hw]))
  | (refine CallP.fE (hnm) (by first | rfl | fail) (by first | simp [hne, del, hw] <;> rfl | fail) ?_; (try simp [hne, del, hw]))
  | fail)
  (refine CallP.pp (zgQ l (q20 + 1) nb 12 3 _ (by first | omega | simp <;> omega | fail) g1q hl) (by first | (simp [hi, hne, del, zaa, getK, zab, zac]; done) | fail) (by rfl) (by first | assumption | (simp; done) | fail) (by rfl) (by simp) (fun u21 q21 h21 => ?_) (fun pos e q' h21 => ⟨_, Wk.refl _, ?_⟩); rotate_left 1; (focus (rw [h21, PR.zaK] at hR; (refine hpan _ _ ⟨{ n := _, env := [], obs := [(3, pOb l q')], next := 4 }, (Wk.cut rfl (by simp [hn]) (by simp [wkO, zaa, getK, zab, zac, Ob.under, D.under, zad, zae, hi, hne, del, zab, zac, zaa, getK]) (by simp [wkU, zam, zaa, getK, D.under, hi, hne, del, zab, zac, zaa, getK]) (by simp [wkE, zam, zaa, getK, hi, hne, del, zab, zac, zaa, getK])), by simp [hn], ?_⟩; try simp); exact PPost.zaB hR.symm)); rw [h21, PR.bind_ok] at hR; (try simp [hi, hne, del]))
  obtain ⟨rfl, hnb⟩ := znY h21;rw [h21, PR.bind_ok] at hS;rw [PR.zdW] at hR;have htw := zmD acc t.text;have htw : Fun Tryz.prog 90 [.u (.sl (zfU acc)), .fnc (.func 128) [.u (.row [.str t.text] 0)]] (· = .u (.bool (acc.any fun x => decide (x.name = t.text)))) := htw;rw [hA] at htw;generalize (acc.any fun x => decide (x.name = t.text)) = tb at htw hR hS
  repeat' (first
  | ((first | refine zag ?_ | refine zaj ?_ | refine zah ?_ | fail); simp [hne, del, hw, htk, hAl])
  | (refine CallP.fE (htw) (by first | rfl | fail) (by first | simp [hne, del, hw, htk, hAl] <;> rfl | fail) ?_; (try simp [hne, del, hw, htk, hAl]))
  | fail)
  (refine CallP.pp (zgQ l (q20 + 1) (!tb) 5 3 _ (by first | omega | simp <;> omega | fail) g1q hl) (by first | (simp [hi, hne, del, zaa, getK, zab, zac]; done) | fail) (by rfl) (by first | assumption | (simp; done) | fail) (by rfl) (by simp) (fun u22 q22 h22 => ?_) (fun pos e q' h22 => ⟨_, Wk.refl _, ?_⟩); rotate_left 1; (focus (rw [h22, PR.zaK] at hR; (refine hpan _ _ ⟨{ n := _, env := [], obs := [(3, pOb l q')], next := 4 }, (Wk.cut rfl (by simp [hn]) (by simp [wkO, zaa, getK, zab, zac, Ob.under, D.under, zad, zae, hi, hne, del, zab, zac, zaa, getK]) (by simp [wkU, zam, zaa, getK, D.under, hi, hne, del, zab, zac, zaa, getK]) (by simp [wkE, zam, zaa, getK, hi, hne, del, zab, zac, zaa, getK])), by simp [hn], ?_⟩; try simp); exact PPost.zaB hR.symm)); rw [h22, PR.bind_ok] at hR; (try simp [hi, hne, del]))
  obtain ⟨rfl, htb⟩ := znY h22;rw [h22, PR.bind_ok] at hS;rw [PR.zdW] at hR;have g2q := hl.fin (q20 + 1) t ht (by omega)
  repeat' (first
  | ((first | refine zag ?_ | refine zaj ?_ | fail); simp [hne, del])
  | (refine ⟨by omega, ?_⟩)
  | (refine zah ?_; simp [hne, del])
  | (refine zaF (by first | rfl | fail) ?_; simp [hne, del, frzN, frz1, zaE, zaD, St.frz, St.frzS, frzS, fv, za5, za6, za7, zaH, zay, zav, del, frz, zbg])
  | fail)
  (refine CallP.pp (zeS hl [61] (q := q20 + 1 + 1) (i := 3) (by first | omega | simp <;> omega | fail) g2q) (by first | (simp [hi, hne, del, zaa, getK, zab, zac]; done) | fail) (by rfl) (by first | assumption | (simp; done) | fail) (by rfl) (by simp) (fun u23 q23 h23 => ?_) (fun pos e q' h23 => ⟨_, Wk.refl _, ?_⟩); rotate_left 1; (focus (rw [h23, PR.zaK] at hR; (refine hpan _ _ ⟨{ n := _, env := [], obs := [(3, pOb l q')], next := 4 }, (Wk.cut rfl (by simp [hn]) (by simp [wkO, zaa, getK, zab, zac, Ob.under, D.under, zad, zae, hi, hne, del, zab, zac, zaa, getK]) (by simp [wkU, zam, zaa, getK, D.under, hi, hne, del, zab, zac, zaa, getK]) (by simp [wkE, zam, zaa, getK, hi, hne, del, zab, zac, zaa, getK])), by simp [hn], ?_⟩; try simp); exact PPost.zaB hR.symm)); rw [h23, PR.bind_ok] at hR; (try simp [hi, hne, del]))
  obtain ⟨_, g23⟩ := zaW hl _ h23 g2q;rw [h23, PR.bind_ok] at hS;rw [PR.zdW] at hR;have hwh := fun nx' (h : 15 <= nx') => zge l q23 3 nx' (by omega) g23 hl hl2;cases hr : zef l q23 with
  | stop pos e =>
   rw [hr, PR.zaK] at hR;simp only [hr] at hwh
   repeat' (first
  | (refine zfq (fun nx' h' => hwh nx' (by simp at h'; omega)) (by first | (simp [hne, del, htk, hAl, zaa, getK, zab, zac, zak, zau]; done) | fail) (by rfl) (by first | assumption | simp) (by rfl) (by simp) ?_ ?_; rintro env' ob' n' hn' ⟨q', rfl⟩; refine ⟨_, Wk.refl _, ?_⟩)
  | (refine zew rfl (by simp) ?_; simp)
  | ((first | refine zaN rfl ?_ | refine zaj ?_ | fail); simp [hne, del, htk, hAl])
  | (refine zdi (hC _ (by kernel_rfl)) rfl; done)
  | (refine zaM rfl (by kernel_rfl) (by first | (simp [hn]; done) | (simp [hn]; omega) | fail) fun C k hC hk => ?_; simp [hne, del, htk, hAl])
  | fail)
   (refine hpan _ _ ⟨{ n := _, env := [], obs := [(3, pOb l q')], next := 4 }, (Wk.cut rfl (by simp [hn]) (by simp [wkO, zaa, getK, zab, zac, Ob.under, D.under, zad, zae, hi, hne, zab, zac, zaa, getK]) (by simp [wkU, zam, zaa, getK, D.under, hi, hne, zab, zac, zaa, getK]) (by simp [wkE, zam, zaa, getK, hi, hne, zab, zac, zaa, getK])), by simp [hn], ?_⟩; try simp)
   exact PPost.zaB hR.symm
  | ok e r =>
   have hwh := fun nx' h => zds (hwh nx' h) hr;obtain ⟨_, g24⟩ := zgg hl hr g23;rw [hr, PR.bind_ok] at hS
   repeat' (first
  | (refine zgY (fun nx' h' => hwh nx' (by simp at h'; omega)) (by first | (simp [hne, del, htk, hAl, zaa, getK, zab, zac, zak, zau]; done) | fail) (by rfl) (by first | assumption | simp) (by rfl) (by simp [D.under, Ob.under]) (by simp) ?_; (try simp [hne, del, htk, hAl]))
  | ((first | refine zaN rfl ?_ | refine zci rfl ?_ | refine zaj ?_ | fail); simp [hne, del, htk, hAl])
  | (refine ⟨by omega, ?_⟩)
  | (refine za4 (hC _ (by kernel_rfl)) (hk _ ?_); clear hC hk C k; simp only [zap])
  | (refine zaM rfl (by kernel_rfl) (by first | (simp [hn]; done) | (simp [hn]; omega) | fail) fun C k hC hk => ?_; simp [hne, del, htk, hAl])
  | fail)
   have hlt' : acc.length < 20 := by have := of_decide_eq_true hlt; omega
   refine LoopW.next ⟨(r, acc ++ [⟨t.text, e⟩], g), g24, (by simp; omega), (by simp; omega), hS⟩ (by simp) ?_
   exact (Wk.ren ((fun j => if j = 14 then 18 else j)) rfl (by first | (simp [hn]; done) | (intro i hi; rw [hn] at hi; constructor <;> (try simp) <;> (try (intro _)) <;> omega)) (by simp [zoj, St.lp, zam, zaa, getK, zac, zak, D.under, D.le, D.ren, hsn, htk] <;> (try (intros; simp_all; done)) <;> (try omega)) (by simp [wkR, St.lp, zaa, getK, zac, zak, obR, leU, zcL, zbp, Ob.under, D.under, D.le, D.ren, hsn, htk] <;> (try (intros; simp_all; done)) <;> (try omega)) (by simp [hsn, htk]))
 ·rw [znq hb] at hS;rw [hS, PR.bind_ok] at hR;have hb2 : isB l q [108, 101, 116] = false := by simpa using hb
  rw [hb2] at hm
  repeat' (first
  | ((first | refine zag ?_ | refine zaj ?_ | refine zah ?_ | refine zai ?_ | fail); simp [hne, del])
  | (refine zaZ ?_; simp [zap])
  | (refine CallP.fE (hm) (by first | rfl | fail) (by first | simp [hne, del] <;> rfl | fail) ?_; (try simp [hne, del]))
  | (refine zaF (by first | rfl | fail) ?_; simp [hne, del, frzN, frz1, zaE, zaD, St.frz, St.frzS, frzS, fv, za5, za6, za7, zaH, zay, zav, del, frz, zbg])
  | fail)
  (refine CallP.pp (zeS hl [100, 117, 101] (q := q) (i := 3) (by first | omega | simp <;> omega | fail) gq) (by first | (simp [hi, hne, del, zaa, getK, zab, zac]; done) | fail) (by rfl) (by first | assumption | (simp; done) | fail) (by rfl) (by simp) (fun u30 q30 h30 => ?_) (fun pos e q' h30 => ⟨_, Wk.refl _, ?_⟩); rotate_left 1; (focus (rw [h30, PR.zaK] at hR; (refine hpan _ _ ⟨{ n := _, env := [], obs := [(3, pOb l q')], next := 4 }, (Wk.cut rfl (by simp [hn]) (by simp [wkO, zaa, getK, zab, zac, Ob.under, D.under, zad, zae, hi, hne, del, zab, zac, zaa, getK]) (by simp [wkU, zam, zaa, getK, D.under, hi, hne, del, zab, zac, zaa, getK]) (by simp [wkE, zam, zaa, getK, hi, hne, del, zab, zac, zaa, getK])), by simp [hn], ?_⟩; try simp); exact PPost.zaB hR.symm)); rw [h30, PR.bind_ok] at hR; (try simp [hi, hne, del]))
  obtain ⟨_, g30⟩ := zaW hl _ h30 gq
  repeat' (first
  | ((first | refine zag ?_ | refine zaj ?_ | refine zah ?_ | fail); simp [hne, del])
  | fail)
  (refine CallP.pp (zge l q30 3 _ (by first | omega | simp <;> omega | fail) g30 hl hl2) (by first | (simp [hi, hne, del, zeh, Exp.row_eq, zaa, getK, zab, zac]; done) | fail) (by rfl) (by first | assumption | (simp; done) | fail) (by rfl) (by simp) (fun due q31 h31 => ?_) (fun pos e q' h31 => ⟨_, Wk.refl _, ?_⟩); rotate_left 1; (focus (rw [h31, PR.zaK] at hR; (refine hpan _ _ ⟨{ n := _, env := [], obs := [(3, pOb l q')], next := 4 }, (Wk.cut rfl (by simp [hn]) (by simp [wkO, zaa, getK, zab, zac, Ob.under, D.under, zad, zae, hi, hne, del, zeh, Exp.row_eq, zab, zac, zaa, getK]) (by simp [wkU, zam, zaa, getK, D.under, hi, hne, del, zeh, Exp.row_eq, zab, zac, zaa, getK]) (by simp [wkE, zam, zaa, getK, hi, hne, del, zeh, Exp.row_eq, zab, zac, zaa, getK])), by simp [hn], ?_⟩; try simp); exact PPost.zaB hR.symm)); rw [h31, PR.bind_ok] at hR; (try simp [hi, hne, del, zeh, Exp.row_eq]))
  obtain ⟨_, g31⟩ := zgg hl h31 g30
  repeat' (first
  | ((first | refine zag ?_ | refine zaj ?_ | refine zah ?_ | fail); simp [hne, del])
  | fail)
  (refine CallP.pp (zeJ l q31 [102, 105, 110, 101] 3 _ (by first | omega | simp <;> omega | fail) g31 hl hl2) (by first | (simp [hi, hne, del, zeh, Exp.row_eq, zaa, getK, zab, zac]; done) | fail) (by rfl) (by first | assumption | (simp; done) | fail) (by rfl) (by simp) (fun fine q32 h32 => ?_) (fun pos e q' h32 => ⟨_, Wk.refl _, ?_⟩); rotate_left 1; (focus (rw [h32, PR.zaK] at hR; (refine hpan _ _ ⟨{ n := _, env := [], obs := [(3, pOb l q')], next := 4 }, (Wk.cut rfl (by simp [hn]) (by simp [wkO, zaa, getK, zab, zac, Ob.under, D.under, zad, zae, hi, hne, del, zeh, Exp.row_eq, zab, zac, zaa, getK]) (by simp [wkU, zam, zaa, getK, D.under, hi, hne, del, zeh, Exp.row_eq, zab, zac, zaa, getK]) (by simp [wkE, zam, zaa, getK, hi, hne, del, zeh, Exp.row_eq, zab, zac, zaa, getK])), by simp [hn], ?_⟩; try simp); exact PPost.zaB hR.symm)); rw [h32, PR.bind_ok] at hR; (try simp [hi, hne, del, zeh, Exp.row_eq]))
  obtain ⟨_, g32⟩ := zeK hl h32 g31
  repeat' (first
  | (refine zag ?_; simp [hne, del])
  | fail)
  (refine CallP.pp (zeJ l q32 [112, 97, 121] 3 _ (by first | omega | simp <;> omega | fail) g32 hl hl2) (by first | (simp [hi, hne, del, zeh, Exp.row_eq, zaa, getK, zab, zac]; done) | fail) (by rfl) (by first | assumption | (simp; done) | fail) (by rfl) (by simp) (fun pay q33 h33 => ?_) (fun pos e q' h33 => ⟨_, Wk.refl _, ?_⟩); rotate_left 1; (focus (rw [h33, PR.zaK] at hR; (refine hpan _ _ ⟨{ n := _, env := [], obs := [(3, pOb l q')], next := 4 }, (Wk.cut rfl (by simp [hn]) (by simp [wkO, zaa, getK, zab, zac, Ob.under, D.under, zad, zae, hi, hne, del, zeh, Exp.row_eq, zab, zac, zaa, getK]) (by simp [wkU, zam, zaa, getK, D.under, hi, hne, del, zeh, Exp.row_eq, zab, zac, zaa, getK]) (by simp [wkE, zam, zaa, getK, hi, hne, del, zeh, Exp.row_eq, zab, zac, zaa, getK])), by simp [hn], ?_⟩; try simp); exact PPost.zaB hR.symm)); rw [h33, PR.bind_ok] at hR; (try simp [hi, hne, del, zeh, Exp.row_eq]))
  obtain ⟨_, g33⟩ := zeK hl h33 g32
  repeat' (first
  | (refine zag ?_; simp [hne, del])
  | fail)
  (refine CallP.pp (zeJ l q33 [99, 111, 118, 101, 114] 3 _ (by first | omega | simp <;> omega | fail) g33 hl hl2) (by first | (simp [hi, hne, del, zeh, Exp.row_eq, zaa, getK, zab, zac]; done) | fail) (by rfl) (by first | assumption | (simp; done) | fail) (by rfl) (by simp) (fun cover q34 h34 => ?_) (fun pos e q' h34 => ⟨_, Wk.refl _, ?_⟩); rotate_left 1; (focus (rw [h34, PR.zaK] at hR; (refine hpan _ _ ⟨{ n := _, env := [], obs := [(3, pOb l q')], next := 4 }, (Wk.cut rfl (by simp [hn]) (by simp [wkO, zaa, getK, zab, zac, Ob.under, D.under, zad, zae, hi, hne, del, zeh, Exp.row_eq, zab, zac, zaa, getK]) (by simp [wkU, zam, zaa, getK, D.under, hi, hne, del, zeh, Exp.row_eq, zab, zac, zaa, getK]) (by simp [wkE, zam, zaa, getK, hi, hne, del, zeh, Exp.row_eq, zab, zac, zaa, getK])), by simp [hn], ?_⟩; try simp); exact PPost.zaB hR.symm)); rw [h34, PR.bind_ok] at hR; (try simp [hi, hne, del, zeh, Exp.row_eq]))
  obtain ⟨_, g34⟩ := zeK hl h34 g33
  repeat' (first
  | (refine zag ?_; simp [hne, del])
  | fail)
  (refine CallP.pp (zeJ l q34 [104, 111, 108, 100] 3 _ (by first | omega | simp <;> omega | fail) g34 hl hl2) (by first | (simp [hi, hne, del, zeh, Exp.row_eq, zaa, getK, zab, zac]; done) | fail) (by rfl) (by first | assumption | (simp; done) | fail) (by rfl) (by simp) (fun hold q35 h35 => ?_) (fun pos e q' h35 => ⟨_, Wk.refl _, ?_⟩); rotate_left 1; (focus (rw [h35, PR.zaK] at hR; (refine hpan _ _ ⟨{ n := _, env := [], obs := [(3, pOb l q')], next := 4 }, (Wk.cut rfl (by simp [hn]) (by simp [wkO, zaa, getK, zab, zac, Ob.under, D.under, zad, zae, hi, hne, del, zeh, Exp.row_eq, zab, zac, zaa, getK]) (by simp [wkU, zam, zaa, getK, D.under, hi, hne, del, zeh, Exp.row_eq, zab, zac, zaa, getK]) (by simp [wkE, zam, zaa, getK, hi, hne, del, zeh, Exp.row_eq, zab, zac, zaa, getK])), by simp [hn], ?_⟩; try simp); exact PPost.zaB hR.symm)); rw [h35, PR.bind_ok] at hR; (try simp [hi, hne, del, zeh, Exp.row_eq]))
  obtain ⟨_, g35⟩ := zeK hl h35 g34;obtain ⟨t, ht⟩ : ∃ t, l[q35]? = some t := ⟨_, List.getElem?_eq_getElem g35⟩;have hnx := zb4 l q35 t ht hl.len
  repeat' (first
  | ((first | refine zag ?_ | refine zaj ?_ | refine zah ?_ | fail); simp [hne, del])
  | (refine CallP.fE (hnx) (by first | rfl | fail) (by first | simp [hne, del] <;> rfl | fail) ?_; (try simp [hne, del]))
  | fail)
  (refine CallP.pp (zqn ht 3 _ (by first | omega | simp <;> omega | fail) hl) (by first | (simp [hi, hne, del, zaa, getK, zab, zac]; done) | fail) (by rfl) (by first | assumption | (simp; done) | fail) (by rfl) (by simp) (fun u36 q36 h36 => ?_) (fun pos e q' h36 => ⟨_, Wk.refl _, ?_⟩); rotate_left 1; (focus (rw [h36, PR.zaK] at hR; (refine hpan _ _ ⟨{ n := _, env := [], obs := [(3, pOb l q')], next := 4 }, (Wk.cut rfl (by simp [hn]) (by simp [wkO, zaa, getK, zab, zac, Ob.under, D.under, zad, zae, hi, hne, del, zab, zac, zaa, getK]) (by simp [wkU, zam, zaa, getK, D.under, hi, hne, del, zab, zac, zaa, getK]) (by simp [wkE, zam, zaa, getK, hi, hne, del, zab, zac, zaa, getK])), by simp [hn], ?_⟩; try simp); exact PPost.zaB hR.symm)); rw [h36, PR.bind_ok] at hR; (try simp [hi, hne, del]))
  obtain rfl := zrf h36
  repeat' (first
  | ((first | refine zag ?_ | refine zaj ?_ | refine zah ?_ | fail); simp [hne, del])
  | (refine zar ?_; simp only [zap])
  | fail)
  (refine EndW.frzN 1 ?_; simp [frzN, frz1, zaE, zaD, St.frz, St.frzS, frzS, fv, za5, za6, za7, zaH, zay, zav, del, frz, zbg, hAl, htk])
  refine EndW.norm ?_;simp [St.norm, za9, zbG, zb1, zbV, hne]
  (refine EndW.here ?_; (first | (refine EndOK.fin (.inr rfl) ?_) | (refine EndOK.fin (.inl rfl) ?_)); simp [zaz, zaf, Tryz.results64, hne, hi]; refine FinOK.cut [(3, pOb l q36)] (4) (by simp [zaa, getK, zab, zac, Ob.under, D.under, zad, zae, hne, hi] <;> omega) (by simp [D.under]) (by simp [hn]) ?_; try simp)
  exact PPost.zch hR.symm (by simp [zaI, <- hA, zfU]) rfl
theorem zmq (lets : List Let) (vars : List Var) (e : Exp) : Fun Tryz.prog 87 [.u (zax lets), .u (zeT vars), zb7 e] (· = .tup [.u (.int .i64 (zgi lets vars e).1), .u (.int .i64 (zgi lets vars e).2)]) := by
 have h1 := zcY e;generalize hK : zgi lets vars e = K;unfold zgi zcA at hK;by_cases hre : zaO 12 e = true
 case neg =>
  have hre2 : zaO 12 e = false := by simpa using hre
  rw [if_neg (by simp [hre2])] at hK;subst hK;rw [hre2] at h1;simp only [zax, zeT, zb7] at h1 ⊢
  (refine Fun.of_bodyW Tryz.func87 rfl (by simp) fun Γ hn => ?_); simp only [entry, ziC, ziN, maC, maN, oA, Tryz.ntmps87]
  repeat' (first
  | ((first | refine zag ?_ | refine zaj ?_ | refine zah ?_ | refine zai ?_ | fail); simp)
  | (refine zar ?_; simp only [zap])
  | (refine CallP.fE (h1) (by first | rfl | fail) (by first | (simp; done) | (simp; rfl) | fail) ?_; (try simp))
  | fail)
  refine EndW.here ?_
  (refine EndOK.val (.inr rfl) ?_; simp [zaz, zaf, zas, Tryz.results87])
 by_cases hll : lets.length <= 20
 case neg =>
  have hll2 : 20 < (lets.length : Int) := by omega
  rw [if_neg (by simp [hll])] at hK;subst hK;rw [hre] at h1;simp only [zax, zeT, zb7] at h1 ⊢
  (refine Fun.of_bodyW Tryz.func87 rfl (by simp) fun Γ hn => ?_); simp only [entry, ziC, ziN, maC, maN, oA, Tryz.ntmps87]
  refine zgW (x := 0) rfl fun hl0 => ?_;simp only [List.length_map] at hl0
  repeat' (first
  | ((first | refine zag ?_ | refine zaj ?_ | refine zah ?_ | refine zai ?_ | fail); simp [hll2])
  | (refine zar ?_; simp only [zap])
  | (refine CallP.fE (h1) (by first | rfl | fail) (by first | simp [hll2] <;> rfl | fail) ?_; (try simp [hll2]))
  | fail)
  refine EndW.here ?_
  (refine EndOK.val (.inr rfl) ?_; simp [zaz, zaf, zas, Tryz.results87])
 have hll2 : ¬ 20 < (lets.length : Int) := by omega
 rw [hre] at h1;simp only [zax, zeT, zb7] at h1 ⊢
 (refine Fun.of_bodyW Tryz.func87 rfl (by simp) fun Γ hn => ?_); simp only [entry, ziC, ziN, maC, maN, oA, Tryz.ntmps87]
 refine zgW (x := 1) rfl fun hl1 => ?_;simp only [List.length_map] at hl1
 repeat' (first
  | ((first | refine zag ?_ | refine zaj ?_ | refine zah ?_ | refine zai ?_ | refine zao ?_ | fail); simp [hll2])
  | (refine zaq ?_; simp only [zap])
  | (refine CallP.fE (h1) (by first | rfl | fail) (by first | simp [hll2] <;> rfl | fail) ?_; (try simp [hll2]))
  | fail)
 refine zcq (α := { i : Nat // i <= lets.length /\ ∀ l ∈ lets.take i, zaO 12 l.body = true }) [0, 1, 5, 23, 24] (fun i => [(25, .u (.int .i64 i.1))])
  (fun i => [(0, .box [.u (.int .i64 e.op), .u (.int .i64 e.n), .u (.int .i64 e.unit), .u (.str e.s), .u (.sl (e.args.map Exp.row))])]) 1
  (fun i => lets.length - i.1) ⟨0, by omega, by simp⟩ ?_ ?_
 ·exact (Wk.cut rfl (by simp [hn, St.lp]) (by simp [wkO, St.lp, zaa, getK, Ob.under, D.under, zad, zae, Ob.under]) (by simp [wkU, St.lp, zam, zaa, getK, D.under, Ob.under]) (by simp [wkE, St.lp, zam, zaa, getK, Ob.under] <;> (try (intros; simp_all; done)) <;> (try (intros; omega)) <;> (try grind)))
 rintro ⟨i, hi, hb⟩;simp [St.lp, St.only, zam, zaa, getK];rcases hx : lets[i]? with _ | l
 ·have hge : lets.length <= i := by simpa using hx
  obtain rfl : i = lets.length := by omega
  rw [List.take_length] at hb
  repeat' (first
  | ((first | refine zag ?_ | refine zaj ?_ | fail); simp [hx])
  | (refine ⟨by omega, ?_⟩)
  | ((first | refine zah ?_ | refine zao ?_ | fail); simp [hx])
  | (refine zaZ ?_; simp [zap])
  | fail)
  have hrg : zcA lets e = true := by
   simp only [zcA, Bool.and_eq_true, decide_eq_true_eq, Bool.not_eq_true', List.any_eq_false];exact ⟨⟨hll, hre⟩, fun l hl => by simp [hb l hl]⟩
  refine zcq (α := { i : Nat // i <= vars.length /\ ∀ v ∈ vars.take i, znE v = true }) [0, 5, 10, 41, 42] (fun i => [(43, .u (.int .i64 i.1))])
   (fun i => [(3, .box [.u (.sl (lets.map fun l => [.str l.name, .int .i64 l.body.op, .int .i64 l.body.n, .int .i64 l.body.unit, .str l.body.s, .sl (l.body.args.map Exp.row)])), .vec 1 lets.length, .mp 2]), (2, .map .s false (zfW (zke (gV (vars.take i.1))))),
     (1, .vec 332 3 (List.replicate lets.length [.u (.int .i64 0), .u (.int .i64 0), .u (.bool false)])), (0, .box [.u (.int .i64 e.op), .u (.int .i64 e.n), .u (.int .i64 e.unit), .u (.str e.s), .u (.sl (e.args.map Exp.row))])]) 4
   (fun i => vars.length - i.1) ⟨0, by omega, by simp⟩ ?_ ?_
  ·exact (Wk.cut rfl (by simp [hn, St.lp]) (by simp [wkO, St.lp, zaa, getK, Ob.under, D.under, zad, zae, gV, zke, za8, Ob.under]) (by simp [wkU, St.lp, zam, zaa, getK, D.under, gV, zke, za8, Ob.under]) (by simp [wkE, St.lp, zam, zaa, getK, gV, zke, za8, Ob.under] <;> (try (intros; simp_all; done)) <;> (try (intros; omega)) <;> (try grind)))
  rintro ⟨j, hj, hvb⟩;simp [St.lp, St.only, zam, zaa, getK];rcases hy : vars[j]? with _ | v
  ·have hge : vars.length <= j := by simpa using hy
   obtain rfl : j = vars.length := by omega
   rw [List.take_length] at hvb;have hva : vars.all znE = true := by simpa [List.all_eq_true] using hvb
   have hgs : ∀ s v, gF (gV vars) s = some v -> inC v := zrd vars [] (fun s v h => by simp [asc] at h) hvb;rw [if_pos ⟨hrg, hva⟩] at hK;have htry := fun nx' (h : 4 <= nx') => zmE (zpa (r := 1) (m := 3) hgs hb hll (by decide) lets.length (Nat.le_refl _) 12 e hre) (by decide) (zqN lets) nx' (by omega) (by omega) ⟨by simp [zqN], fun i v er d hi => by
    have h7 : (v, er, d) = (0, 0, false) := List.eq_of_mem_replicate (List.mem_of_getElem? hi);cases h7;unfold inC; omega⟩
   have htb : tOb (zqN lets) = .vec 332 3 (List.replicate lets.length [.u (.int .i64 0), .u (.int .i64 0), .u (.bool false)]) := by simp [tOb, zqN]
   rw [htb] at htry;simp only [zb7, mOb, zax] at htry;subst hK
   repeat' (first
  | ((first | refine zag ?_ | refine zaj ?_ | refine zah ?_ | fail); simp [hy, List.take_length])
  | (refine zaZ ?_; simp [zap])
  | fail)
   refine ziB (Wk.ztn (us := zke (gV vars)) 2 [3, 2, 1, 0] rfl (by simp)) ?_;simp [zaE, zaD, St.frzS, frzS, fv, za5, za6, za7, zaH, zay, zav, del]
   repeat' (first
  | ((first | refine zag ?_ | refine zaj ?_ | fail); simp [hy])
  | (refine zar ?_; simp only [zap])
  | (refine CallP.okL (htry _ (by first | omega | simp <;> omega | fail)) (by first | (simp [hy, zaa, getK, zab, zac, zak, zau, del]; done) | fail) (by rfl) (by rfl) ?_; (try simp [hy, zbY, del]))
  | fail)
   refine EndW.here ?_
   (refine EndOK.val (.inr rfl) ?_; simp [zaz, zaf, zas, Tryz.results87])
  ·have hlt : j < vars.length := (lGE.1 hy).1;have hg := zkL (gV (vars.take j)) v.name;have hsu := zqi hy;by_cases hv : znE v = true
   ·have hv1 := hv;simp only [znE, Bool.and_eq_true, decide_eq_true_eq] at hv1;have hv2 : ¬ 1099511627776 < v.n := by omega
    have hv3 : ¬ v.n < -1099511627776 := by omega
    cases hga : asc (gV (vars.take j)) v.name with
    | some u =>
     rw [hga] at hg hsu;simp only [Option.map_some] at hg
     repeat' (first
  | ((first | refine zag ?_ | refine zaN rfl ?_ | refine zaj ?_ | fail); simp [hy, hg, hv2, hv3])
  | (refine ⟨by omega, ?_⟩)
  | ((first | refine zah ?_ | refine zai ?_ | fail); simp [hy, hg, hv2, hv3])
  | (refine za4 (hC _ (by kernel_rfl)) (hk _ ?_); clear hC hk C k; simp only [zap])
  | (refine zaM rfl (by kernel_rfl) (by first | (simp [hn]; done) | (simp [hn]; omega) | fail) fun C k hC hk => ?_; simp [hy, hg, hv2, hv3])
  | (refine zat ?_; simp [hy, hg, hv2, hv3])
  | (refine zaq ?_; simp only [zap])
  | (refine ⟨?_, by omega⟩)
  | (intro hc <;> (try (exfalso; omega)))
  | fail)
     refine LoopW.next ⟨j + 1, by omega, za0 hy hvb hv⟩ (by simp; omega) ?_
     exact (Wk.cut rfl (by simp [hn, St.lp]) (by simp [wkO, St.lp, zaa, getK, Ob.under, D.under, zad, zae, hsu]) (by simp [wkU, St.lp, zam, zaa, getK, D.under, hsu]) (by simp [wkE, St.lp, zam, zaa, getK, hsu] <;> (try (intros; simp_all; done)) <;> (try (intros; omega)) <;> (try grind)))
    | none =>
     rw [hga] at hg hsu;simp only [Option.map_none] at hg
     repeat' (first
  | ((first | refine zag ?_ | refine zaN rfl ?_ | refine zci rfl ?_ | refine zaj ?_ | fail); simp [hy, hg, zhS, hv2, hv3])
  | (refine ⟨by omega, ?_⟩)
  | ((first | refine zah ?_ | refine zai ?_ | fail); simp [hy, hg, zhS, hv2, hv3])
  | (refine za4 (hC _ (by kernel_rfl)) (hk _ ?_); clear hC hk C k; simp only [zap])
  | (refine zaM rfl (by kernel_rfl) (by first | (simp [hn]; done) | (simp [hn]; omega) | fail) fun C k hC hk => ?_; simp [hy, hg, zhS, hv2, hv3])
  | (refine zat ?_; simp [hy, hg, zhS, hv2, hv3])
  | (refine zaq ?_; simp only [zap])
  | (refine ⟨?_, by omega⟩)
  | (intro hc <;> (try (exfalso; omega)))
  | fail)
     refine LoopW.next ⟨j + 1, by omega, za0 hy hvb hv⟩ (by simp; omega) ?_
     exact (Wk.cut rfl (by simp [hn, St.lp]) (by simp [wkO, St.lp, zaa, getK, Ob.under, D.under, zad, zae, hsu]) (by simp [wkU, St.lp, zam, zaa, getK, D.under, hsu]) (by simp [wkE, St.lp, zam, zaa, getK, hsu] <;> (try (intros; simp_all; done)) <;> (try (intros; omega)) <;> (try grind)))
   ·have hv1 : 1099511627776 < v.n \/ v.n < -1099511627776 := by
     simp only [znE, Bool.and_eq_true, decide_eq_true_eq] at hv;omega
    rw [if_neg (by
     rintro ⟨_, h⟩;rw [List.all_eq_true] at h;exact hv (h v (List.mem_of_getElem? hy)))] at hK
    subst hK;by_cases hv2 : 1099511627776 < v.n
    ·repeat' (first
  | ((first | refine zag ?_ | refine zaj ?_ | refine zah ?_ | refine zai ?_ | fail); simp [hy, hv2])
  | ((first | refine zar ?_ | refine zaq ?_ | fail); simp only [zap])
  | (refine ⟨?_, by omega⟩)
  | (intro hc <;> (try (exfalso; omega)))
  | fail)
     refine EndW.here ?_
     (refine EndOK.val (.inr rfl) ?_; simp [zaz, zaf, zas, Tryz.results87])
    ·have hv3 : v.n < -1099511627776 := by omega
     repeat' (first
  | ((first | refine zag ?_ | refine zaj ?_ | refine zah ?_ | refine zai ?_ | fail); simp [hy, hv2, hv3])
  | ((first | refine zar ?_ | refine zaq ?_ | fail); simp only [zap])
  | (refine ⟨?_, by omega⟩)
  | (intro hc <;> (try (exfalso; omega)))
  | fail)
     refine EndW.here ?_
     (refine EndOK.val (.inr rfl) ?_; simp [zaz, zaf, zas, Tryz.results87])
 ·have hlt : i < lets.length := (lGE.1 hx).1;have h2 := zcY l.body;simp only [zb7] at h2;by_cases hlb : zaO 12 l.body = true
  ·rw [hlb] at h2
   repeat' (first
  | ((first | refine zag ?_ | refine zaj ?_ | fail); simp [hx])
  | (refine ⟨by omega, ?_⟩)
  | ((first | refine zah ?_ | refine zai ?_ | refine zat ?_ | fail); simp [hx])
  | (refine zaq ?_; simp only [zap])
  | (refine ⟨?_, by omega⟩)
  | (intro hc <;> (try (exfalso; omega)))
  | (refine CallP.fE (h2) (by first | rfl | fail) (by first | simp [hx] <;> rfl | fail) ?_; (try simp [hx]))
  | fail)
   refine LoopW.next ⟨i + 1, by omega, za0 hx hb hlb⟩ (by simp; omega) ?_
   exact (Wk.cut rfl (by simp [hn, St.lp]) (by simp [wkO, St.lp, zaa, getK, Ob.under, D.under, zad, zae, Ob.under]) (by simp [wkU, St.lp, zam, zaa, getK, D.under, Ob.under]) (by simp [wkE, St.lp, zam, zaa, getK, Ob.under] <;> (try (intros; simp_all; done)) <;> (try (intros; omega)) <;> (try grind)))
  ·have hlb2 : zaO 12 l.body = false := by simpa using hlb
   rw [hlb2] at h2;rw [if_neg (by
    rintro ⟨h, _⟩;simp only [Bool.and_eq_true, Bool.not_eq_true', List.any_eq_false] at h;have := h.2 l (List.mem_of_getElem? hx);simp [hlb2] at this)] at hK
   subst hK
   repeat' (first
  | ((first | refine zag ?_ | refine zaj ?_ | refine zah ?_ | refine zai ?_ | fail); simp [hx])
  | ((first | refine zar ?_ | refine zaq ?_ | fail); simp only [zap])
  | (refine ⟨?_, by omega⟩)
  | (intro hc <;> (try (exfalso; omega)))
  | (refine CallP.fE (h2) (by first | rfl | fail) (by first | simp [hx] <;> rfl | fail) ?_; (try simp [hx]))
  | fail)
   refine EndW.here ?_
   (refine EndOK.val (.inr rfl) ?_; simp [zaz, zaf, zas, Tryz.results87])
theorem zhF (b : By) (c : List UInt8) (vars : List Var) : Fun Tryz.prog 33 [.u (.agg (zaI b)), .u (.str c), .u (zeT vars)] (· = .tup [.u (.int .i64 (zcE b c vars).1), .u (.int .i64 (zcE b c vars).2)]) := by
 have h1 := zd3 b;generalize hW : zcE b c vars = W;unfold zcE at hW;cases hE : zis b c with
 | none =>
  rw [hE] at hW;unfold zis at hE;by_cases c1 : c = zqQ
  ·rw [if_pos c1] at hE; cases hE
  by_cases c2 : c = zlo
  ·rw [if_neg c1, if_pos c2] at hE; cases hE
  by_cases c3 : c = zqP
  ·rw [if_neg c1, if_neg c2, if_pos c3] at hE; cases hE
  by_cases c4 : c = zda
  ·rw [if_neg c1, if_neg c2, if_neg c3, if_pos c4] at hE; cases hE
  by_cases c5 : c = zln
  ·rw [if_neg c1, if_neg c2, if_neg c3, if_neg c4, if_pos c5] at hE; cases hE
  clear hE;have d1 := Ne.symm c1;have d2 := Ne.symm c2;have d3 := Ne.symm c3;have d4 := Ne.symm c4;have d5 := Ne.symm c5;subst hW;unfold zqQ zlo zqP zda zln at *;unfold zaI zeT
  (refine Fun.of_bodyW Tryz.func33 rfl (by simp) fun Γ hn => ?_); simp only [entry, ziC, ziN, maC, maN, oA, Tryz.ntmps33]
  repeat' (first
  | ((first | refine zag ?_ | refine zaj ?_ | refine zah ?_ | refine zai ?_ | fail); simp [c1, c2, c3, c4, c5, d1, d2, d3, d4, d5])
  | (refine zar ?_; simp only [zap])
  | fail)
  refine EndW.here ?_
  (refine EndOK.val (.inr rfl) ?_; simp [zaz, zaf, zas, Tryz.results33])
 | some e =>
  rw [hE] at hW;simp only at hW;have hc : (c = zqQ /\ e = b.due) \/ (c = zlo /\ e = b.fine) \/ (c = zqP /\ e = b.pay) \/ (c = zda /\ e = b.cover) \/ (c = zln /\ e = b.hold) := by
   unfold zis at hE
   repeat' split at hE
   all_goals first | (cases hE; done) | (cases hE; simp_all; done)
  clear hE;have h2 := zmq b.lets vars e;cases hr : zco b
  ·rw [hr] at h1;rw [hr, if_neg (by simp)] at hW;subst hW;clear h2;unfold zqQ zlo zqP zda zln at *;unfold zaI zeT;unfold zaI at h1;rcases hc with ⟨rfl, rfl⟩ | ⟨rfl, rfl⟩ | ⟨rfl, rfl⟩ | ⟨rfl, rfl⟩ | ⟨rfl, rfl⟩
   all_goals
    (refine Fun.of_bodyW Tryz.func33 rfl (by simp) fun Γ hn => ?_); simp only [entry, ziC, ziN, maC, maN, oA, Tryz.ntmps33]
    repeat' (first
  | ((first | refine zag ?_ | refine zaj ?_ | refine zah ?_ | refine zai ?_ | fail); simp)
  | (refine zar ?_; simp only [zap])
  | (refine CallP.fE (h1) (by first | rfl | fail) (by first | (simp; done) | (simp; rfl) | fail) ?_; (try simp))
  | fail)
    refine EndW.here ?_
    (refine EndOK.val (.inr rfl) ?_; simp [zaz, zaf, zas, Tryz.results33])
  ·rw [hr] at h1;rw [hr, if_pos rfl] at hW;rw [hW] at h2;clear hW;unfold zqQ zlo zqP zda zln at *;unfold zaI zeT;unfold zaI at h1;unfold zax zeT zb7 at h2;rcases hc with ⟨rfl, rfl⟩ | ⟨rfl, rfl⟩ | ⟨rfl, rfl⟩ | ⟨rfl, rfl⟩ | ⟨rfl, rfl⟩
   all_goals
    (refine Fun.of_bodyW Tryz.func33 rfl (by simp) fun Γ hn => ?_); simp only [entry, ziC, ziN, maC, maN, oA, Tryz.ntmps33]
    repeat' (first
  | ((first | refine zag ?_ | refine zaj ?_ | refine zah ?_ | refine zai ?_ | fail); simp)
  | ((first | refine zar ?_ | refine zaq ?_ | fail); simp only [zap])
  | (refine CallP.fE (h1) (by first | rfl | fail) (by first | (simp; done) | (simp; rfl) | fail) ?_; (try simp))
  | (refine CallP.fE (h2) (by first | rfl | fail) (by first | (simp; done) | (simp; rfl) | fail) ?_; (try simp))
  | fail)
    refine EndW.here ?_
    (refine EndOK.val (.inr rfl) ?_; simp [zaz, zaf, zas, Tryz.results33])
theorem znV (b : By) (p m a n : Int) : Fun Tryz.prog 49 [.u (.agg (zaI b)), .u (.int .i64 p), .u (.int .i64 m), .u (.int .i64 a), .u (.int .i64 n)] (· = .tup [.u (.int .i64 (max (zcE b zda (cvA p m a n)).1 0)), .u (.int .i64 (zcE b zda (cvA p m a n)).2)]) := by
 have h1 := zhF b zda (cvA p m a n);generalize zcE b zda (cvA p m a n) = R at *;obtain ⟨r, e⟩ := R;simp only [zeT, cvA, zlF, zfz, zqT, zeA, zda, List.map_cons, List.map_nil] at h1 ⊢;unfold zaI at *
 (refine Fun.of_bodyW Tryz.func49 rfl (by simp) fun Γ hn => ?_); simp only [entry, ziC, ziN, maC, maN, oA, Tryz.ntmps49]
 repeat' (first
  | ((first | refine zag ?_ | refine zaj ?_ | refine zah ?_ | fail); simp)
  | (refine zar ?_; simp only [zap])
  | (refine CallP.fE (h1) (by first | rfl | fail) (by first | (simp; done) | (simp; rfl) | fail) ?_; (try simp))
  | fail)
 refine EndW.here ?_
 (refine EndOK.val (.inr rfl) ?_; simp [zaz, zaf, zas, Tryz.results49])
end Go.Proofs.YtepiegcjnaohjaaGreatDoor
namespace Go.Proofs.YtepiegcjnaohjaaGreatDoor
open Go Go.VL
def zhh : By := ⟨0, 0, 0, 0, 0, 0, false, 0, 0, 0, 0, [], zgc, zgc, zgc, zgc, zgc⟩
def zfN (s : W8) : By × Int × Int := match zmh s with
 | .error (p, e) => (zhh, p, e)
 | .ok l => match zqr l with
  | .stop pos e => (zhh, pos, e)
  | .ok b _ => (b, 0, 0)
def zrk (r : By × Int × Int) : D := .tup [.u (.agg (zaI r.1)), .u (.int .i64 r.2.1), .u (.int .i64 r.2.2)]
abbrev zpl : Ob := .box [.u (.int .i64 0), .u (.int .i64 0), .u (.int .i64 0), .u (.int .i64 0), .u (.int .i64 0), .u (.int .i64 0), .u (.bool false), .u (.int .i64 0), .u (.int .i64 0), .u (.int .i64 0), .u (.int .i64 0), .u .nil, .u (.int .i64 0), .u (.int .i64 0), .u (.int .i64 0), .u (.str []), .u .nil, .u (.int .i64 0), .u (.int .i64 0), .u (.int .i64 0), .u (.str []), .u .nil, .u (.int .i64 0), .u (.int .i64 0), .u (.int .i64 0), .u (.str []), .u .nil, .u (.int .i64 0), .u (.int .i64 0), .u (.int .i64 0), .u (.str []), .u .nil, .u (.int .i64 0), .u (.int .i64 0), .u (.int .i64 0), .u (.str []), .u .nil]
end Go.Proofs.YtepiegcjnaohjaaGreatDoor
namespace Go.Proofs.YtepiegcjnaohjaaGreatDoor
open Go Go.VL
mutual
def zq8 : Exp -> Int
 | .mk _ _ _ _ args => zno args + 1
def zno : List Exp -> Int
 | [] => 0
 | e :: l => max (zq8 e) (zno l)
end
theorem zha (l : List Int) (a : Int) (ha : 0 <= a) : l.foldl max a = max a (l.foldl max 0) := by
 induction l generalizing a with
 | nil => simp; omega
 | cons b l ih => simp only [List.foldl_cons]; rw [ih (max a b) (by omega), ih (max 0 b) (by omega)]; omega
mutual
theorem znp : ∀ e : Exp, zq8 e = e.lev
 | .mk op n u s args => by rw [zq8, Exp.zg0, zkN]; rfl
theorem zkN : ∀ l : List Exp, zno l = (l.map Exp.lev).foldl max 0
 | [] => by rw [zno]; rfl
 | e :: l => by
  have := e.lev_pos;rw [zno, znp, zkN, List.map_cons, List.foldl_cons, zha (l.map Exp.lev) (max 0 e.lev) (by omega)];omega
end
def zsJ (s : List UInt8) : Exp × Int × Int := match zmh s with
 | .error (p, e) => (zgc, p, e)
 | .ok l => match zej l (4 * l.length + 3) 0 0 with
  | .stop pos e => (zgc, pos, e)
  | .ok y q => if zrb l q ≠ 0 then (zgc, zdo l q, 12) else if 12 < zq8 y then (zgc, zdo l q, 6) else (y, 0, 0)
def ziJ (l : List Tok) (p : Nat) : PR Exp := (zej l (4 * l.length + 3) p 0).bind fun e q =>
 if isB l q [59] = true then if zq8 e <= 12 then .ok e (q + 1) else .stop (zdo l q) 6 else .stop (zdo l q) 12
def zoT (l : List Tok) : Nat -> Nat -> List Let -> PR (List Let)
 | 0, _, _ => .stop 0 0
 | f + 1, p, acc => if isB l p [108, 101, 116] = true then
   if acc.length < 20 then match l[p + 1]? with
    | none => .stop 0 0
    | some t => if t.kind = 1 ∧ zd6 t.text = true then
          if (acc.any fun x => decide (x.name = t.text)) = true then .stop t.pos 5
          else (zbL l (p + 2) [[61]]).bind fun _ q => (ziJ l q).bind fun e r => zoT l f r (acc ++ [⟨t.text, e⟩])
     else .stop t.pos 12
   else .stop (zdo l p) 6
  else .ok acc p
def zfF (l : List Tok) (p : Nat) (word : W8) : PR Exp := if isB l p word = true then ziJ l (p + 1) else .ok nothingE p
def zsu (l : List Tok) : PR By :=
 (zkc l 0).bind fun k p => (zj8 l p [112, 101, 114, 105, 111, 100]).bind fun _ p => (zdP l p [112, 101, 114, 105, 111, 100] 1 1000 [[100, 97, 121, 115], [59]]).bind fun period p =>
 (zj8 l p [108, 97, 115, 116]).bind fun _ p => (zdP l p [108, 97, 115, 116] 1 1000 [[59]]).bind fun last p =>
 (zdP l p [103, 114, 97, 99, 101] 0 1000 [[100, 97, 121, 115], [59]]).bind fun grace p => (zdP l p [119, 97, 105, 116] 0 1000 [[100, 97, 121, 115], [59]]).bind fun wait p =>
 (zgu l p).bind fun order p => (zdP l p [98, 97, 99, 107, 115] 0 60 [[59]]).bind fun backs p => (zdP l p [118, 111, 105, 99, 101, 115] 0 1000 [[112, 101, 114], [109, 105, 108, 108, 101], [59]]).bind fun voices p =>
 (zdP l p [106, 117, 114, 121] 0 60 [[59]]).bind fun jury p => (zdP l p [102, 117, 110, 100] 0 1000 [[112, 101, 114], [109, 105, 108, 108, 101], [59]]).bind fun fund p =>
 (zoT l 21 p []).bind fun lets p => (zbL l p [[100, 117, 101]]).bind fun _ p => (ziJ l p).bind fun due p =>
 (zfF l p [102, 105, 110, 101]).bind fun fine p => (zfF l p [112, 97, 121]).bind fun pay p => (zfF l p [99, 111, 118, 101, 114]).bind fun cover p => (zfF l p [104, 111, 108, 100]).bind fun hold p =>
 (zqo l p).bind fun _ p => .ok ⟨k.1, period, grace, wait, last, order, k.2, backs, voices, jury, fund, lets, due, fine, pay, cover, hold⟩ p
theorem zgf : zef = ziJ := by
 funext l p;unfold zef ziJ;simp only [znp]
theorem zkO (l : List Tok) : ∀ f p acc, zgD l f p acc = zoT l f p acc
 | 0, p, acc => rfl
 | f + 1, p, acc => by
  rw [zgD, zoT, zgf];simp only [zkO l f]
  try rfl
theorem zl9 : zdK = zfF := by
 funext l p w;unfold zdK zfF;rw [zgf]
theorem zqq (l : List Tok) : zqr l = zsu l := by
 unfold zqr zsu;rw [zgf, zl9];simp only [zkO]
def zmZ (s : W8) : By × Int × Int := match zmh s with
 | .error (p, e) => (zhh, p, e)
 | .ok l => match zsu l with
  | .stop pos e => (zhh, pos, e)
  | .ok b _ => (b, 0, 0)
theorem zi7 (s : W8) : zfN s = zmZ s := by
 unfold zfN zmZ;simp only [zqq]
 try rfl
end Go.Proofs.YtepiegcjnaohjaaGreatDoor
namespace Go.Proofs.YtepiegcjnaohjaaGreatDoor
open Go Go.VL
def zdL (who : List Int) : List Vo := who.mapIdx fun i k => ⟨i, k, true, 0⟩
theorem ziG {l : List Int} {i : Nat} {k : Int} (h : l[i]? = some k) : zdL (l.take (i + 1)) = zdL (l.take i) ++ [⟨i, k, true, 0⟩] := by
 obtain ⟨hi, rfl⟩ := lGE.1 h;rw [zdL, zdL, List.take_succ_eq_append_getElem hi, List.mapIdx_concat, List.length_take]
 congr 3
 omega
theorem zfY (l : List Int) : (zdL l).length = l.length := by simp [zdL]
def zqV : List UInt8 := [99, 105, 114, 99, 108, 101, 32, 115, 97, 118, 105, 110, 103, 32, 59, 32, 112, 101, 114, 105, 111, 100, 32, 55, 32, 100, 97, 121, 115, 32, 59, 32, 108, 97, 115, 116, 32, 51, 32, 59, 32, 119, 97, 105, 116, 32, 50, 32, 100, 97, 121, 115, 32, 59, 32, 100, 117, 101, 32, 48, 32, 99, 111, 105, 110, 115, 32, 59]
def bL : By := (zmZ zqV).1
def c0 : Cl := ⟨9, 0, 5, 300, 18, 20, 0, [1, 2, 3], [], 0, 0, 20⟩
def c1 : Cl := ⟨9, 0, 5, 300, 18, 20, 1, [1, 2, 3], [], 0, 0, 20⟩
def c2 : Cl := ⟨9, 0, 5, 300, 18, 20, 1, [1, 2, 3], [], 1, 250, 24⟩
def c3 : Cl := ⟨9, 0, 5, 300, 18, 20, 1, [1, 2, 3], [], 2, 250, 24⟩
def c4 : Cl := ⟨9, 0, 5, 300, 18, 20, 1, [1, 2, 3], [], 4, 250, 24⟩
def c5 : Cl := ⟨9, 0, 5, 300, 18, 20, 0, [1, 2, 3], [], 3, 0, 27⟩
def c6 : Cl := ⟨9, 0, 5, 300, 18, 20, 0, [1, 2, 3], [4, 6], 0, 0, 34⟩
theorem m1 : ze8 c1 bL 250 (zdL [1, 3]) 21 = c2 := by kernel_rfl
theorem m2 : ze8 c2 bL 250 (zdL [1, 3]) 22 = c2 := by kernel_rfl
theorem m3 : ze8 c2 bL 250 (zdL [1, 3]) 23 = c3 := by kernel_rfl
theorem m4 : zq5 c3 250 = (c4, 0) := by kernel_rfl
theorem m5 : zq5 c4 250 = (c4, 7) := by kernel_rfl
theorem m6 : ze8 c0 bL 250 (zdL [1, 3]) 26 = c0 := by kernel_rfl
theorem m7 : ze8 c0 bL 250 (zdL [1, 3]) 27 = c5 := by kernel_rfl
theorem m8 : zfL c5 bL [4, 6] 34 = (c6, 0) := by kernel_rfl
theorem m9 : zfL c5 bL [4, 6] 35 = (c5, 25) := by kernel_rfl
theorem mp : zkE c0 = (c1, 0) := by kernel_rfl
end Go.Proofs.YtepiegcjnaohjaaGreatDoor
namespace Go.Proofs.YtepiegcjnaohjaaGreatDoor
open Go Go.VL
def cz (n : Int) : Cl := ⟨0, 0, 0, n, 0, 0, 1, [4], [], 0, 0, 0⟩
theorem zqZ (n : Int) : zqM (cz n) (zdL [4]) = 1 := by
 unfold zqM zea cz;simp only [if_true];decide +kernel
theorem zl6 (b : By) (x n : Int) (hx : 0 <= x) : (ze8 (cz n) b x (zdL [4]) 3).grant <= x /\ (ze8 (cz n) b x (zdL [4]) 3).grant <= max n 0 /\
  (0 < (ze8 (cz n) b x (zdL [4]) 3).grant ↔ 0 < x /\ 0 < n /\ zco b = true) := by
 unfold ze8;rw [zqZ];have hd : zl5 3 = true := by decide
 cases hr : zco b with
 | false => simp [cz]; omega
 | true =>
  rw [if_pos ⟨rfl, hd⟩, if_pos (show (cz n).state = 0 from rfl)];unfold zfT;rw [if_pos ⟨rfl, by simp [cz]⟩];have hg : zgK (cz n) x = max (min n x) 0 := rfl;rw [hg];unfold zfP;by_cases h : 0 < max (min n x) 0
  ·rw [if_pos h];split <;> simp <;> omega
  ·rw [if_neg h];simp [cz];omega
theorem zpb (x : Except Int Int) (h : ¬ (zg1 x).2.1 = 0) : (zg1 x).1 = 0 := by
 cases x with
 | ok v => exact absurd rfl h
 | error e => rfl
theorem zl8 (b : By) (c : List UInt8) (vars : List Var) (h : ¬ (zcE b c vars).2 = 0) : (zcE b c vars).1 = 0 := by
 unfold zcE at h ⊢;split at h
 ·split at h
  ·rename_i h1;simp only [h1, if_true];unfold zgi at h ⊢;split at h
   ·rename_i h2;rw [if_pos h2];exact zpb _ h
   ·rename_i h2;rw [if_neg h2]
  ·rename_i h1;simp only [h1];rfl
 ·rfl
end Go.Proofs.YtepiegcjnaohjaaGreatDoor
namespace Go.Proofs.YtepiegcjnaohjaaGreatDoor
open Go Go.VL
attribute [local simp] HS zc6 zb2 evPure opd uOf zaC St.put St.at getK binD binI binS binB nilD aggD zhd zir lookD lookR zcB rangeS Go.VL.nextD Go.VL.nextS zcD ziF ziE zgE zbX mkV za8 zbj zbi zbh zc0 zbc zbq zbC mapEff zdd zf0 Key.kk shiftI arith unD convD zd4 loadD cellsAt fieldAddrD fieldD indexAddrD indexSlD arrAddr indexD sliceD cutD lenD minmaxD nilCheckD buildD fillD zbS zde zeV setAll zcM zeM zcv zhH zcr St.add zaS zbP rowsOf zdS zcw zak zac zaa zbm zcX zaQ entry zbI zbR valD zbU zcx zg2 zdv zdw zbZ zbO zaw zaR zbs delAll effD St.effS zdb zbk za1 zdc zbl za3 zcf za2 zaV zcg zc7 zbJ zcd zbt zcb zcc zau mkD zbw zbD zbN zaw zcu D.ids Op.operands Call.operands zbz makeIfD makeFuncD typeAssertD zio zdI zdJ zhX zcC IntKind.bits zcG List.take_of_length_le List.range_succ
attribute [local irreducible] V G H HD HD2 HD4 zmf RetX zap Eff CallP CallV EndOK Fun Ret FinOK LoopI LoopW EndW
theorem zpr (i j q nx : Nat) (hi : i < nx) (hj : j < nx) (hq : q < nx) (hij : i ≠ j) (hiq : i ≠ q) (hjq : j ≠ q) (p e : Int) (cells : List U) :
  RetDf Tryz.prog 62 [.ptr i 0, .ptr j 0, .ptr q 0] [(i, .box [.u (.int .i64 p)]), (j, .box [.u (.int .i64 e)]), (q, .box (cells.map .u))] nx .returning
   (fun u o n => settle u = .returning /\ n = nx /\ o = [(i, .box [.u (.int .i64 p)]), (j, .box [.u (.int .i64 e)]), (q, .box (cells.map .u))]) := by
 have hne := zaP hi;have hne2 := zaP hj;have hne3 := zaP hq;have hc0 := zko i j nx hi hj hij p e;refine RetDf.of_body Tryz.func62 rfl (by simp) (by simp) rfl fun Γ hn => ?_;simp [entry, zjX, Tryz.ntmps62];refine CallP.x2 hc0 (by simp [getK]) (by simp [getK, hij, Ne.symm hij]) hij rfl rfl (by simp) (by simp) (fun d o1 nx' hnx h => ?_) (fun ch o1 nx' hnx h => by cases h.1);obtain ⟨h1, rfl, h4⟩ := h;have h4 := h4.symm;subst h4;cases h1;simp [del, hij, Ne.symm hij, hiq, hjq, Ne.symm hiq, Ne.symm hjq]
 repeat' (first
  | (refine zai ?_; simp [hij, hiq, hjq])
  | (refine zaq ?_; simp only [zap])
  | fail)
 (refine ⟨by simp, { n := _, env := [], obs := [(i, .box [.u (.int .i64 p)]), (j, .box [.u (.int .i64 e)]), (q, .box (cells.map .u))], next := nx }, (Wk.cut rfl (by simp [hn]) (by simp [wkO, zaa, getK, zab, zac, Ob.under, D.under, zad, zae, hi, hj, hq, hne, hne2, hne3, hij, hiq, hjq, Ne.symm hij, Ne.symm hiq, Ne.symm hjq]) (by simp [wkU, zam, zaa, getK, D.under, hi, hj, hq, hne, hne2, hne3, hij, hiq, hjq, Ne.symm hij, Ne.symm hiq, Ne.symm hjq]) (by simp [wkE, zam, zaa, getK, hi, hj, hq, hne, hne2, hne3, hij, hiq, hjq, Ne.symm hij, Ne.symm hiq, Ne.symm hjq])), by simp [hn], ?_⟩; try simp)
 all_goals rfl
theorem zps (i j q nx : Nat) (hi : i < nx) (hj : j < nx) (hq : q < nx) (hij : i ≠ j) (hiq : i ≠ q) (hjq : j ≠ q) (p e pos err : Int) :
  RetDf Tryz.prog 62 [.ptr i 0, .ptr j 0, .ptr q 0] [(i, .box [.u (.int .i64 p)]), (j, .box [.u (.int .i64 e)]), (q, zpl)] nx (.panicking (chP pos err))
   (fun u o n => settle u = .returning /\ n = nx /\ o = [(i, .box [.u (.int .i64 pos)]), (j, .box [.u (.int .i64 err)]), (q, zpl)]) := by
 have hne := zaP hi;have hne2 := zaP hj;have hne3 := zaP hq;have hc0 := zkn i j nx hi hj hij p e pos err;refine RetDf.of_body Tryz.func62 rfl (by simp) (by simp) rfl fun Γ hn => ?_;simp [entry, zjX, chP, Tryz.ntmps62];refine CallP.x2 hc0 (by simp [getK]) (by simp [getK, hij, Ne.symm hij]) hij rfl rfl (by simp) (by simp) (fun d o1 nx' hnx h => ?_) (fun ch o1 nx' hnx h => by cases h.1);obtain ⟨h1, rfl, h4⟩ := h;have h4 := h4.symm;subst h4;cases h1;simp [del, hij, Ne.symm hij, hiq, hjq, Ne.symm hiq, Ne.symm hjq]
 repeat' (first
  | ((first | refine zag ?_ | refine zaj ?_ | refine zai ?_ | refine zat ?_ | fail); simp [hij, hiq, hjq])
  | fail)
 (refine ⟨by simp, { n := _, env := [], obs := [(i, .box [.u (.int .i64 pos)]), (j, .box [.u (.int .i64 err)]), (q, zpl)], next := nx }, (Wk.cut rfl (by simp [hn]) (by simp [wkO, zaa, getK, zab, zac, Ob.under, D.under, zad, zae, hi, hj, hq, hne, hne2, hne3, hij, hiq, hjq, Ne.symm hij, Ne.symm hiq, Ne.symm hjq]) (by simp [wkU, zam, zaa, getK, D.under, hi, hj, hq, hne, hne2, hne3, hij, hiq, hjq, Ne.symm hij, Ne.symm hiq, Ne.symm hjq]) (by simp [wkE, zam, zaa, getK, hi, hj, hq, hne, hne2, hne3, hij, hiq, hjq, Ne.symm hij, Ne.symm hiq, Ne.symm hjq])), by simp [hn], ?_⟩; try simp)
 all_goals rfl
theorem zmW (s : W8) : RetX Tryz.prog 25 [.u (.str s)] [] 0 (fun r o n => r = .val (zrk (zfN s))) := by
 skip
 unfold zfN;cases hlx : zmh s with
 | error pe =>
  obtain ⟨p, e⟩ := pe;have ho := fun nx => zoH s p e nx hlx;have he := (zoS hlx).1;simp only
  (refine RetX.zeN Tryz.func25 rfl (by simp) fun Γ hn hdfr hpan hesc => ?_); simp only [entry, ziC, ziN, maC, maN, oA, Tryz.ntmps25]
  repeat' (first
  | ((first | refine zag ?_ | refine zaN rfl ?_ | refine zci rfl ?_ | refine zaj ?_ | refine zah ?_ | refine zai ?_ | fail); simp [he])
  | (refine za4 (hC _ (by kernel_rfl)) (hk _ ?_); clear hC hk C k; simp only [zap])
  | (refine zaM rfl (by kernel_rfl) (by first | (simp [hn]; done) | (simp [hn]; omega) | fail) fun C k hC hk => ?_; simp [he])
  | (refine zar ?_; simp only [zap])
  | (refine CallP.okL (ho _) (by first | (simp [he, zaa, getK, zab, zac, zak, zau, del]; done) | fail) (by rfl) (by rfl) ?_; (try simp [he, zbY, del]))
  | fail)
  refine EndW.norm ?_;simp [St.norm, za9, zbG, zb1, zbV]
  (refine EndW.here ?_; (first | (refine EndOK.fin (.inr rfl) ?_) | (refine EndOK.fin (.inl rfl) ?_)); simp [zaz, zaf, Tryz.results25]; refine FinOK.here (by simp) ?_; try simp)
  simp [zrk, zaI, zhh, zgc, Exp.op, Exp.n, Exp.unit, Exp.s, Exp.args]
 | ok l =>
  obtain ⟨hl, hl2, hl0⟩ := zqa hlx;have ho := fun nx => zp3 s l nx hlx;have hE := zmb l hl0 hl hl2;simp only;cases hr : zqr l with
  | stop pos e =>
   simp only [hr] at hE ⊢
   (refine RetX.zeN Tryz.func25 rfl (by simp) fun Γ hn hdfr hpan hesc => ?_); simp only [entry, ziC, ziN, maC, maN, oA, Tryz.ntmps25]
   rw [zeF]
   repeat' (first
  | ((first | refine zag ?_ | refine zaj ?_ | refine zah ?_ | refine zai ?_ | fail); simp)
  | (refine zaq ?_; simp only [zap])
  | (refine CallP.okL (ho _) (by first | (simp [zaa, getK, zab, zac, zak, zau, del]; done) | fail) (by rfl) (by rfl) ?_; (try simp [zbY, del]))
  | fail)
   refine zix hesc hdfr rfl (by simp) ?_;have hn0 := hn;have hpan0 := hpan;intro Γ' hn hpan;simp
   repeat' (first
  | ((first | refine zag ?_ | refine zah ?_ | fail); simp)
  | (refine CallP.zeQ (hE) (by first | (simp [zaa, getK, zab, zac]; done) | fail) (by rfl) (by first | assumption | (simp; done) | fail) (by rfl) (by simp) ?_; rintro ob' ⟨q', rfl⟩; refine ⟨_, Wk.refl _, ?_⟩)
  | fail)
   refine hpan _ _ ?_;refine LeaveD.of [(1, .box [.u (.int .i64 0)]), (2, .box [.u (.int .i64 0)]), (0, zpl)] (by simp [zaa, getK, zab, zac]) (zps 1 2 0 _ (by simp) (by simp) (by simp) (by decide) (by decide) (by decide) 0 0 _ _) ?_;simp only [show Γ.base.n0 = 0 from hn0];simp [zbY, del];refine EndW.norm ?_;simp [St.norm, za9, zbG, zb1, zbV]
   (refine EndW.here ?_; (first | (refine EndOK.fin (.inr rfl) ?_) | (refine EndOK.fin (.inl rfl) ?_)); simp [zaz, zaf, Tryz.results25]; refine FinOK.here (by simp) ?_; try simp)
   simp [zrk, zaI, zhh, zgc, Exp.op, Exp.n, Exp.unit, Exp.s, Exp.args]
  | ok b q =>
   have hEx : RetX Tryz.prog 64 [.ptr 3 0] [(3, pOb l 0)] 4 (fun r o n => r = .val (.u (.agg (zaI b))) /\ o = [(3, pOb l q)] /\ n = 4) := by
    rw [hr] at hE;exact hE
   unfold zaI at hEx
   (refine RetX.zeN Tryz.func25 rfl (by simp) fun Γ hn hdfr hpan hesc => ?_); simp only [entry, ziC, ziN, maC, maN, oA, Tryz.ntmps25]
   rw [zeF]
   repeat' (first
  | ((first | refine zag ?_ | refine zaj ?_ | refine zah ?_ | refine zai ?_ | fail); simp)
  | (refine zaq ?_; simp only [zap])
  | (refine CallP.okL (ho _) (by first | (simp [zaa, getK, zab, zac, zak, zau, del]; done) | fail) (by rfl) (by rfl) ?_; (try simp [zbY, del]))
  | fail)
   refine zix hesc hdfr rfl (by simp) ?_;have hn0 := hn;have hpan0 := hpan;intro Γ' hn hpan;simp
   repeat' (first
  | ((first | refine zag ?_ | refine zaj ?_ | refine zah ?_ | fail); simp [del])
  | (refine zar ?_; simp only [zap])
  | (refine CallP.ok1 (hEx) (by first | (simp [del, zaa, getK, zab, zac]; done) | fail) (by rfl) (by rfl) ?_; (try simp [del]))
  | fail)
   refine ⟨rfl, ?_⟩;refine LeaveD.of [(1, .box [.u (.int .i64 0)]), (2, .box [.u (.int .i64 0)]), (0, .box ((zaI b).map .u))] (by simp [zaa, getK, zab, zac, zaI]) (zpr 1 2 0 _ (by simp) (by simp) (by simp) (by decide) (by decide) (by decide) 0 0 _) ?_;simp only [show Γ.base.n0 = 0 from hn0];simp [zbY, del, zaI]
   (refine EndW.here ?_; (first | (refine EndOK.fin (.inr rfl) ?_) | (refine EndOK.fin (.inl rfl) ?_)); simp [zaz, zaf, Tryz.results25]; refine FinOK.here (by simp) ?_; try simp)
   simp [zrk, zaI]
theorem zmX (s : W8) : Fun Tryz.prog 25 [.u (.str s)] (· = .tup [byD (zfN s).1, .u (.int .i64 (zfN s).2.1), .u (.int .i64 (zfN s).2.2)]) := by
 unfold Fun;exact (zmW s).ret (fun d o n h => by
  cases h;exact ⟨by simp [zrk, zas], rfl⟩) (fun ch o n h => by cases h)
theorem zoX : Fun Tryz.prog 96 [] (· = .u (.agg (zaI bL))) := by
 have h1 := zmX zqV;have e1 : (zfN zqV).2 = (0, 0) := by rw [zi7]; kernel_rfl
 rw [e1, zi7] at h1;change Fun _ _ _ (· = .tup [byD bL, _, _]) at h1;generalize bL = b at *;simp only [byD] at h1;unfold zaI at *
 (refine Fun.of_bodyW Tryz.func96 rfl (by simp) fun Γ hn => ?_); simp only [entry, ziC, ziN, maC, maN, oA, Tryz.ntmps96]
 repeat' (first
  | ((first | refine zag ?_ | refine zaj ?_ | refine zah ?_ | fail); simp [zqV])
  | (refine zar ?_; simp only [zap])
  | (refine CallP.fE (h1) (by first | rfl | fail) (by first | simp [zqV] <;> rfl | fail) ?_; (try simp [zqV]))
  | fail)
 refine EndW.here ?_
 (refine EndOK.val (.inr rfl) ?_; simp [zaz, zaf, zas, Tryz.results96])
theorem zpW (l : List Int) (hl : l.length <= 1000) : Fun Tryz.prog 50 [.u (zcO l)] (· = .u (voU (zdL l))) := by
 unfold zcO voU
 (refine Fun.of_bodyW Tryz.func50 rfl (by simp) fun Γ hn => ?_); simp only [entry, ziC, ziN, maC, maN, oA, Tryz.ntmps50]
 repeat' (first
  | ((first | refine zag ?_ | refine zaj ?_ | refine zah ?_ | refine zao ?_ | fail); simp)
  | fail)
 refine zqY _ (Wk.own 3 49 4 (by decide) rfl) ?_;simp [St.own];refine zcq (α := { i : Nat // i <= l.length }) [0] (fun i => [(3, .vec 0 i.1), (4, .u (.int .i64 i.1))]) (fun i => [(0, .vec 49 4 (voR (zdL (l.take i.1))))]) 1 (fun i => l.length - i.1) ⟨0, by omega⟩ ?_ ?_
 ·exact (Wk.cut rfl (by simp [hn, St.lp]) (by simp [wkO, St.lp, zaa, getK, Ob.under, D.under, zad, zae, zdL, voR]) (by simp [wkU, St.lp, zam, zaa, getK, D.under, zdL, voR]) (by simp [wkE, St.lp, zam, zaa, getK, zdL, voR] <;> (try (intros; simp_all; done)) <;> (try (intros; omega)) <;> (try grind)))
 rintro ⟨i, hi⟩;simp [St.lp, St.only, zam, zaa, getK];rcases hx : l[i]? with _ | k
 ·have hge : l.length <= i := by simpa using hx
  obtain rfl : i = l.length := by omega
  simp only [List.take_length];have hyl := zfY l
  repeat' (first
  | ((first | refine zag ?_ | refine zaj ?_ | refine zah ?_ | refine zai ?_ | fail); simp [hx])
  | (refine zar ?_; simp only [zap])
  | (refine zaZ ?_; simp [zap])
  | fail)
  (refine EndW.frzN 1 ?_; simp [frzN, frz1, zaE, zaD, St.frz, St.frzS, frzS, fv, za5, za6, za7, zaH, zay, zav, del, frz, zbg, zjQ, zgh, zc1, hyl])
  refine EndW.norm (EndW.here ?_)
  (refine EndOK.val (.inr rfl) ?_; simp [zaz, zaf, zas, Tryz.results50, zaD, zaE, zcS, zcT, frz, zbg, frzS, fv, za5, za6, za7, zaH, zay, zav, zbG, zb1, zbV, za9, zgh, zc1, hyl])
 ·have hlt : i < l.length := (lGE.1 hx).1;have hst := ziG hx;have hyl := zfY (l.take i);rw [List.length_take, Nat.min_eq_left (by omega)] at hyl;generalize zdL (l.take i) = O at *;have hlr := zhR O;have hvl := zc1 O;have hsn := zhQ O ⟨i, k, true, 0⟩;simp only at hsn
  repeat' (first
  | ((first | refine zag ?_ | refine zaj ?_ | fail); simp [hx, hvl, hyl, hlr, hsn])
  | (refine ⟨by omega, ?_⟩)
  | ((first | refine zah ?_ | refine zai ?_ | refine zat ?_ | fail); simp [hx, hvl, hyl, hlr, hsn])
  | (refine zaq ?_; simp only [zap])
  | (refine ⟨?_, by omega⟩)
  | (intro hc <;> (try (exfalso; omega)))
  | fail)
  refine LoopW.next ⟨i + 1, by omega⟩ (by simp; omega) ?_
  exact (Wk.ren ((fun i => if i = 0 then 2 else i)) rfl (by first | (simp [hn]; done) | (intro i hi; rw [hn] at hi; constructor <;> (try simp) <;> (try (intro _)) <;> omega)) (by simp [zoj, St.lp, zam, zaa, getK, zac, zak, D.under, D.le, D.ren, hst, hyl, zbB, zbo] <;> (try (intros; simp_all; done)) <;> (try omega)) (by simp [wkR, St.lp, zaa, getK, zac, zak, obR, leU, zcL, zbp, Ob.under, D.under, D.le, D.ren, hst, hyl, zbB, zbo] <;> (try (intros; simp_all; done)) <;> (try omega)) (by simp [hst, hyl, zbB, zbo]))
theorem zkw (l : List Int) (j nx : Nat) (hj : j < nx) (hl : l.length <= 1000) : RetX Tryz.prog 50 [.vec j l.length] [(j, .vec 3 1 (inR l))] nx
  (fun r o n => r = .val (.u (voU (zdL l))) /\ o = [(j, .vec 3 1 (inR l))] /\ n = nx) := by
 have hne := zaP hj;have hil := zqc l;have hj1 : j < nx + 1 := by omega
 have hj2 : (j = nx + 1 + 1) = False := eq_false (by omega)
 (refine RetX.of_bodyW Tryz.func50 rfl (by simp) fun Γ hn hpan => ?_); simp only [entry, ziC, ziN, maC, maN, oA, Tryz.ntmps50]
 repeat' (first
  | ((first | refine zag ?_ | refine zaj ?_ | refine zah ?_ | refine zao ?_ | fail); simp [hne])
  | fail)
 refine zqY _ (Wk.own 3 49 4 (by decide) rfl) ?_;simp [St.own, hne];refine zcq (α := { i : Nat // i <= l.length }) [0] (fun i => [(3, .vec nx i.1), (4, .u (.int .i64 i.1))]) (fun i => [(nx, .vec 49 4 (voR (zdL (l.take i.1)))), (j, .vec 3 1 (inR l))]) (nx + 1) (fun i => l.length - i.1) ⟨0, by omega⟩ ?_ ?_
 ·exact (Wk.cut rfl (by simp [hn, St.lp]) (by simp [wkO, St.lp, zaa, getK, Ob.under, D.under, zad, zae, zdL, voR, hne, hj1, zcy]) (by simp [wkU, St.lp, zam, zaa, getK, D.under, zdL, voR, hne, hj1, zcy]) (by simp [wkE, St.lp, zam, zaa, getK, zdL, voR, hne, hj1, zcy] <;> (try (intros; simp_all; done)) <;> (try (intros; omega)) <;> (try grind)))
 rintro ⟨i, hi⟩;simp [St.lp, St.only, zam, zaa, getK];rcases hx : l[i]? with _ | k
 ·have hge : l.length <= i := by simpa using hx
  obtain rfl : i = l.length := by omega
  simp only [List.take_length];have hyl := zfY l;have hvl := zc1 (zdL l)
  repeat' (first
  | ((first | refine zag ?_ | refine zaj ?_ | fail); simp [hx, hne, hvl, hyl])
  | (refine ⟨by omega, ?_⟩)
  | ((first | refine zah ?_ | refine zai ?_ | fail); simp [hx, hne, hvl, hyl])
  | (refine zar ?_; simp only [zap])
  | (refine zaZ ?_; simp [zap])
  | fail)
  (refine EndW.frzN 1 ?_; simp [frzN, frz1, zaE, zaD, St.frz, St.frzS, frzS, fv, za5, za6, za7, zaH, zay, zav, del, frz, zbg, zjQ, zqd, zgh, zc1, hyl, hne])
  (refine EndW.wk { n := _, env := [(2, .u (voU (zdL l)))], obs := [(j, .vec 3 1 (inR l))], next := nx } (Wk.cut rfl (by simp [hn]) (by simp [wkO, zaa, getK, zab, zac, Ob.under, D.under, zad, zae, hne, hj, hj1, zcy, voU]) (by simp [wkU, zam, zaa, getK, D.under, hne, hj, hj1, zcy, voU]) (by simp [wkE, zam, zaa, getK, hne, hj, hj1, zcy, voU])) (EndW.here ?_); (first | (refine EndOK.fin (.inr rfl) ?_) | (refine EndOK.fin (.inl rfl) ?_)); simp [zaz, zaf, Tryz.results50]; refine FinOK.here (by simp) ?_; try simp)
 ·have hlt : i < l.length := (lGE.1 hx).1;have hst := ziG hx;have hyl := zfY (l.take i);rw [List.length_take, Nat.min_eq_left (by omega)] at hyl;have hri : (inR l)[i]? = some [.u (.int .i64 k)] := by simp [inR, hx]
  have hrg : ∀ h, (inR l)[i]'h = [.u (.int .i64 k)] := fun h => (lGE.1 hri).2;generalize zdL (l.take i) = O at *;have hlr := zhR O;have hvl := zc1 O;have hsn := zhQ O ⟨i, k, true, 0⟩;simp only at hsn
  repeat' (first
  | ((first | refine zag ?_ | refine zaj ?_ | fail); simp [hlt, hri, hrg, hil, hvl, hyl, hlr, hsn, hne])
  | (refine ⟨by omega, ?_⟩)
  | ((first | refine zah ?_ | refine zai ?_ | refine zat ?_ | fail); simp [hlt, hri, hrg, hil, hvl, hyl, hlr, hsn, hne])
  | (refine zaq ?_; simp only [zap])
  | fail)
  refine LoopW.next ⟨i + 1, by omega⟩ (by simp; omega) ?_
  exact (Wk.ren ((fun i => if i = nx then nx + 2 else i)) rfl (by first | (simp [hn]; done) | (intro i hi; rw [hn] at hi; constructor <;> (try simp) <;> (try (intro _)) <;> omega)) (by simp [zoj, St.lp, zam, zaa, getK, zac, zak, D.under, D.le, D.ren, hst, hyl, zbB, zbo, zh3, zcy, hne, hj, hj1, hj2] <;> (try (intros; simp_all; done)) <;> (try omega)) (by simp [wkR, St.lp, zaa, getK, zac, zak, obR, leU, zcL, zbp, Ob.under, D.under, D.le, D.ren, hst, hyl, zbB, zbo, zh3, zcy, hne, hj, hj1, hj2] <;> (try (intros; simp_all; done)) <;> (try omega)) (by simp [hst, hyl, zbB, zbo, zh3, zcy, hne, hj, hj1, hj2]))
theorem zj5 : Fun Tryz.prog 177 [.u (.agg (zd8 zpt))] (· = .u (.bool true)) := by
 have h4 := zkZ 18;rw [show zl5 18 = true from rfl] at h4;simp only [zd8, zpt, List.map_nil]
 (refine Fun.of_bodyW Tryz.func177 rfl (by simp) fun Γ hn => ?_); simp only [entry, ziC, ziN, maC, maN, oA, Tryz.ntmps177]
 repeat' (first
  | ((first | refine zag ?_ | refine zaj ?_ | refine zah ?_ | refine zai ?_ | refine zao ?_ | fail); simp)
  | (refine zar ?_; simp only [zap])
  | (refine CallP.fE (h4) (by first | rfl | fail) (by first | (simp; done) | (simp; rfl) | fail) ?_; (try simp))
  | fail)
 refine EndW.here ?_
 (refine EndOK.val (.inr rfl) ?_; simp [zaz, zaf, zas, Tryz.results177])
theorem zl3 : Fun Tryz.prog 101 [.u (.agg (zd8 zpt))] (· = .u (.bool true)) := by
 have f1 := znz 5;have f2 := zkZ 20;have f3 := zmR zpt (by decide) (by decide);have f4 := zqt [] (by simp);have f5 := zfl [5, 6, 7] 10 (by simp);have f8 := zj5;have f9 := zoO 0;have fa := znz 0;rw [show zrC 5 = true from rfl] at f1;rw [show zl5 20 = true from rfl] at f2;rw [zmS] at f3;rw [show zrE [] = true from rfl] at f4;rw [show decide ((10 : Int) ∈ [5, 6, 7]) = false from rfl] at f5;rw [show zp8 0 = true from rfl] at f9;rw [show zrC 0 = true from rfl] at fa;simp only [zd8, zpt, List.map_nil, zcO, List.map_cons] at *
 (refine Fun.of_bodyW Tryz.func101 rfl (by simp) fun Γ hn => ?_); simp only [entry, ziC, ziN, maC, maN, oA, Tryz.ntmps101]
 repeat' (first
  | ((first | refine zag ?_ | refine zaj ?_ | refine zah ?_ | refine zai ?_ | fail); simp)
  | ((first | refine zar ?_ | refine zaq ?_ | fail); simp only [zap])
  | (refine CallP.fE (f1) (by first | rfl | fail) (by first | (simp; done) | (simp; rfl) | fail) ?_; (try simp))
  | (refine CallP.fE (f2) (by first | rfl | fail) (by first | (simp; done) | (simp; rfl) | fail) ?_; (try simp))
  | (refine CallP.fE (f3) (by first | rfl | fail) (by first | (simp; done) | (simp; rfl) | fail) ?_; (try simp))
  | (refine CallP.fE (f4) (by first | rfl | fail) (by first | (simp; done) | (simp; rfl) | fail) ?_; (try simp))
  | (refine CallP.fE (f5) (by first | rfl | fail) (by first | (simp; done) | (simp; rfl) | fail) ?_; (try simp))
  | (refine CallP.fE (f8) (by first | rfl | fail) (by first | (simp; done) | (simp; rfl) | fail) ?_; (try simp))
  | (refine CallP.fE (f9) (by first | rfl | fail) (by first | (simp; done) | (simp; rfl) | fail) ?_; (try simp))
  | (refine CallP.fE (fa) (by first | rfl | fail) (by first | (simp; done) | (simp; rfl) | fail) ?_; (try simp))
  | fail)
 refine EndW.here ?_
 (refine EndOK.val (.inr rfl) ?_; simp [zaz, zaf, zas, Tryz.results101])
theorem zoy : Fun Tryz.prog 41 [.u (.agg (zd8 zpt)), .u (.int .i64 9), .u (zcO [1, 2, 3])] (· = .tup [.u (clU c0), .u (.int .i64 0)]) := by
 have f1 := zl3;have f2 := zfn [1, 2, 3] (by simp);simp only [zd8, zpt, List.map_nil, zcO, List.map_cons, clU, zaY, c0] at *
 (refine Fun.of_bodyW Tryz.func41 rfl (by simp) fun Γ hn => ?_); simp only [entry, ziC, ziN, maC, maN, oA, Tryz.ntmps41]
 repeat' (first
  | ((first | refine zag ?_ | refine zaN rfl ?_ | refine zci rfl ?_ | refine zaj ?_ | refine zah ?_ | refine zai ?_ | fail); simp)
  | (refine za4 (hC _ (by kernel_rfl)) (hk _ ?_); clear hC hk C k; simp only [zap])
  | (refine zaM rfl (by kernel_rfl) (by first | (simp [hn]; done) | (simp [hn]; omega) | fail) fun C k hC hk => ?_; simp)
  | ((first | refine zar ?_ | refine zaq ?_ | fail); simp only [zap])
  | (refine CallP.fE (f1) (by first | rfl | fail) (by first | (simp; done) | (simp; rfl) | fail) ?_; (try simp))
  | (refine CallV.fun_ (f2) (by first | rfl | fail) (by first | (simp; done) | (simp; rfl) | fail) ?_ <;> (try simp))
  | fail)
 refine EndW.norm (EndW.here ?_)
 (refine EndOK.val (.inr rfl) ?_; simp [zaz, zaf, zas, Tryz.results41, zaD, zaE, zcS, zcT, frz, zbg, frzS, fv, za5, za6, za7, zaH, zay, zav, zbG, zb1, zbV, za9])
theorem zjU : Fun Tryz.prog 37 [] (· = .u (.bool true)) := by
 have l0 := zoX;have t0 := zoy;have p0 := zmM c0 (by decide) (by decide) (by decide);have y0 := zpW [1, 3] (by decide);have s1 := zey c1 bL 250 (zdL [1, 3]) 21 (by decide) (by decide) (by decide);have s2 := zey c2 bL 250 (zdL [1, 3]) 22 (by decide) (by decide) (by decide);have s3 := zey c2 bL 250 (zdL [1, 3]) 23 (by decide) (by decide) (by decide);have s4 := zmV c3 250 (by decide) (by decide);have s5 := zmV c4 250 (by decide) (by decide);have s6 := zey c0 bL 250 (zdL [1, 3]) 26 (by decide) (by decide) (by decide);have s7 := zey c0 bL 250 (zdL [1, 3]) 27 (by decide) (by decide) (by decide);have s8 := zhL c5 bL [4, 6] 34 (by decide) (by decide) (by decide);have s9 := zhL c5 bL [4, 6] 35 (by decide) (by decide) (by decide);rw [mp] at p0;rw [m1] at s1;rw [m2] at s2;rw [m3] at s3;rw [m4] at s4;rw [m5] at s5;rw [m6] at s6;rw [m7] at s7;rw [m8] at s8;rw [m9] at s9;have ey : voU (zdL [1, 3]) = .sl [[.int .i64 0, .int .i64 1, .bool true, .int .i64 0], [.int .i64 1, .int .i64 3, .bool true, .int .i64 0]] := rfl;rw [ey] at y0 s1 s2 s3 s6 s7;generalize bL = b at *;simp only [zd8, zpt, List.map_nil, zcO, List.map_cons, clU, zaY, c0, c1, c2, c3, c4, c5, c6] at *;unfold zaI at *
 (refine Fun.of_bodyW Tryz.func37 rfl (by simp) fun Γ hn => ?_); simp only [entry, ziC, ziN, maC, maN, oA, Tryz.ntmps37]
 have hy : ∀ j nx, j < nx -> RetX Tryz.prog 50 [.vec j 2] [(j, .vec 3 1 [[.u (.int .i64 1)], [.u (.int .i64 3)]])] nx (fun r o n => r = .val (.u (.sl [[.int .i64 0, .int .i64 1, .bool true, .int .i64 0], [.int .i64 1, .int .i64 3, .bool true, .int .i64 0]])) /\ o = [(j, .vec 3 1 [[.u (.int .i64 1)], [.u (.int .i64 3)]])] /\ n = nx) := fun j nx h => by
  have := zkw [1, 3] j nx h (by decide);rw [ey] at this;exact this
 repeat' (first
  | ((first | refine zag ?_ | refine zaj ?_ | refine zah ?_ | fail); simp)
  | (refine CallP.fE (l0) (by first | rfl | fail) (by first | (simp; done) | (simp; rfl) | fail) ?_; (try simp))
  | fail)
 refine ziB (Wk.norm _) ?_;simp [St.norm, zbG, zb1, zbV, za9]
 repeat' (first
  | (refine ze3 (fun nx (h : 6 <= nx) => hy 5 nx (by omega)) (by first | (simp [zaa, getK, zab, zac, zak, zau, del]; done) | fail) rfl (by first | (simp []; done) | fail) (by rfl) (by first | assumption | (simp; done) | fail) (by rfl) (by first | (simp [D.under, Ob.under, zad, zae]; done) | (simp [D.under, Ob.under, zad, zae]; omega) | fail) (by simp) ?_; (try simp))
  | (refine ze3 (fun nx (h : 8 <= nx) => hy 7 nx (by omega)) (by first | (simp [zaa, getK, zab, zac, zak, zau, del]; done) | fail) rfl (by first | (simp []; done) | fail) (by rfl) (by first | assumption | (simp; done) | fail) (by rfl) (by first | (simp [D.under, Ob.under, zad, zae]; done) | (simp [D.under, Ob.under, zad, zae]; omega) | fail) (by simp) ?_; (try simp))
  | (refine ze3 (fun nx (h : 10 <= nx) => hy 9 nx (by omega)) (by first | (simp [zaa, getK, zab, zac, zak, zau, del]; done) | fail) rfl (by first | (simp []; done) | fail) (by rfl) (by first | assumption | (simp; done) | fail) (by rfl) (by first | (simp [D.under, Ob.under, zad, zae]; done) | (simp [D.under, Ob.under, zad, zae]; omega) | fail) (by simp) ?_; (try simp))
  | (refine ze3 (fun nx (h : 14 <= nx) => hy 13 nx (by omega)) (by first | (simp [zaa, getK, zab, zac, zak, zau, del]; done) | fail) rfl (by first | (simp []; done) | fail) (by rfl) (by first | assumption | (simp; done) | fail) (by rfl) (by first | (simp [D.under, Ob.under, zad, zae]; done) | (simp [D.under, Ob.under, zad, zae]; omega) | fail) (by simp) ?_; (try simp))
  | (refine ze3 (fun nx (h : 16 <= nx) => hy 15 nx (by omega)) (by first | (simp [zaa, getK, zab, zac, zak, zau, del]; done) | fail) rfl (by first | (simp []; done) | fail) (by rfl) (by first | assumption | (simp; done) | fail) (by rfl) (by first | (simp [D.under, Ob.under, zad, zae]; done) | (simp [D.under, Ob.under, zad, zae]; omega) | fail) (by simp) ?_; (try simp))
  | ((first | refine zag ?_ | refine zaN rfl ?_ | refine zci rfl ?_ | refine zaj ?_ | refine zah ?_ | fail); simp)
  | (refine za4 (hC _ (by kernel_rfl)) (hk _ ?_); clear hC hk C k; simp only [zap])
  | (refine zaM rfl (by kernel_rfl) (by first | (simp [hn]; done) | (simp [hn]; omega) | fail) fun C k hC hk => ?_; simp)
  | (refine zar ?_; simp only [zap])
  | (refine CallP.fE (t0) (by first | rfl | fail) (by first | (simp; done) | (simp; rfl) | fail) ?_; (try simp))
  | (refine CallP.fE (p0) (by first | rfl | fail) (by first | (simp; done) | (simp; rfl) | fail) ?_; (try simp))
  | (refine CallV.fun_ (s1) (by first | rfl | fail) (by first | (simp; done) | (simp; rfl) | fail) ?_ <;> (try simp))
  | (refine CallV.fun_ (s2) (by first | rfl | fail) (by first | (simp; done) | (simp; rfl) | fail) ?_ <;> (try simp))
  | (refine CallV.fun_ (s3) (by first | rfl | fail) (by first | (simp; done) | (simp; rfl) | fail) ?_ <;> (try simp))
  | (refine CallP.fE (s4) (by first | rfl | fail) (by first | (simp; done) | (simp; rfl) | fail) ?_; (try simp))
  | (refine CallP.fE (s5) (by first | rfl | fail) (by first | (simp; done) | (simp; rfl) | fail) ?_; (try simp))
  | (refine CallV.fun_ (s6) (by first | rfl | fail) (by first | (simp; done) | (simp; rfl) | fail) ?_ <;> (try simp))
  | (refine CallV.fun_ (s7) (by first | rfl | fail) (by first | (simp; done) | (simp; rfl) | fail) ?_ <;> (try simp))
  | (refine CallP.fE (s8) (by first | rfl | fail) (by first | (simp; done) | (simp; rfl) | fail) ?_; (try simp))
  | (refine CallP.fE (s9) (by first | rfl | fail) (by first | (simp; done) | (simp; rfl) | fail) ?_; (try simp))
  | fail)
 refine EndW.here ?_
 (refine EndOK.val (.inr rfl) ?_; simp [zaz, zaf, zas, Tryz.results37])
theorem zlk (b : By) : Fun Tryz.prog 38 [.u (.agg (zaI b))] (fun d => ∃ B : Bool, d = .u (.bool B)) := by
 have h1 := zkg b.lets 3 16 (by omega) (by omega) (by omega) (by omega);have h2 := zdm b.due 16 (by omega) (by omega);have h3 := zdm b.fine 16 (by omega) (by omega);have h4 := zdm b.pay 16 (by omega) (by omega);have h5 := zdm b.cover 16 (by omega) (by omega);have h6 := zdm b.hold 16 (by omega) (by omega);generalize zsq b.lets 3 16 = x1 at *;generalize znP b.due 16 = x2 at *;generalize znP b.fine 16 = x3 at *;generalize znP b.pay 16 = x4 at *;generalize znP b.cover 16 = x5 at *;generalize znP b.hold 16 = x6 at *;unfold zaI;unfold zax at h1;unfold zb7 at h2 h3 h4 h5 h6
 (refine Fun.of_bodyW Tryz.func38 rfl (by simp) fun Γ hn => ?_); simp only [entry, ziC, ziN, maC, maN, oA, Tryz.ntmps38]
 repeat' (first
  | ((first | refine zag ?_ | refine zaj ?_ | refine zah ?_ | fail); simp)
  | (refine zar ?_; simp only [zap])
  | (refine ⟨fun hc => ?_, fun hc => ?_⟩ <;> (try (exfalso; omega)))
  | (refine CallP.fE (h1) (by first | rfl | fail) (by first | (simp; done) | (simp; rfl) | fail) ?_; (try simp))
  | (refine CallP.fE (h2) (by first | rfl | fail) (by first | (simp; done) | (simp; rfl) | fail) ?_; (try simp))
  | (refine CallP.fE (h3) (by first | rfl | fail) (by first | (simp; done) | (simp; rfl) | fail) ?_; (try simp))
  | (refine CallP.fE (h4) (by first | rfl | fail) (by first | (simp; done) | (simp; rfl) | fail) ?_; (try simp))
  | (refine CallP.fE (h5) (by first | rfl | fail) (by first | (simp; done) | (simp; rfl) | fail) ?_; (try simp))
  | (refine CallP.fE (h6) (by first | rfl | fail) (by first | (simp; done) | (simp; rfl) | fail) ?_; (try simp))
  | fail)
 all_goals
  refine EndW.here ?_
  (refine EndOK.val (.inr rfl) ?_; simp [zaz, zaf, zas, Tryz.results38])
theorem zlj (n : Int) (b : By) (x : Int) (j nx : Nat) (d : D) (hd : d = .u (clU (ze8 (cz n) b x (zdL [4]) 3))) :
  RetX Tryz.prog 43 [.agg [.u (.int .i64 0), .u (.int .i64 0), .u (.int .i64 0), .u (.int .i64 n), .u (.int .i64 0), .u (.int .i64 0), .u (.int .i64 1), .vec j 1, .u .nil, .u (.int .i64 0), .u (.int .i64 0), .u (.int .i64 0)], .u (.agg (zaI b)), .u (.int .i64 x), .u (voU (zdL [4])), .u (.int .i64 3)] [(j, .vec 3 1 [[.u (.int .i64 4)]])] nx (fun r o m => r = .val d /\ o = [] /\ m = nx) := by
 subst hd;have h := zey (cz n) b x (zdL [4]) 3 (by simp [cz]) (by simp [cz]) (by simp [zdL]);refine RetX.norm ?_;simp only [List.map_cons, List.map_nil, zbG, zb1];refine (RetX.zsy (L := [j]) h ?_).mono fun r o m ⟨h1, h2, h3⟩ => ⟨h1, ?_, h3⟩
 ·have hb : List.map zbV (zaI b) = zaI b := by simp [zaI, zbV]
  simp [zbU, cz, clU, zaY, voU, hb]
 ·rw [h2]; simp [zaR, delAll, del, clU, zaY, zbs]
theorem znU (b : By) (paid many age members n : Int) : Fun Tryz.prog 10 [.u (.agg (zaI b)), .u (.int .i64 paid), .u (.int .i64 many), .u (.int .i64 age), .u (.int .i64 members), .u (.int .i64 n)] (· = .u (.bool true)) := by
 obtain ⟨X, hX⟩ : ∃ X, X = fun x => ze8 (cz n) b x (zdL [4]) 3 := ⟨_, rfl⟩;have hsg := fun x nx => zlj n b x 2 nx (.u (clU (X x))) (by rw [hX]);have hs := zjU;have hsm := zlk b;have h1 := znV b paid many age members;have h2 := zhF b zda (cvB paid many age members);rw [<- zkm b zda paid many age members] at h2;have hrb := zd3 b;have hst : ∀ x, 0 <= x -> (X x).grant <= x /\ (X x).grant <= max n 0 /\ (0 < (X x).grant ↔ 0 < x /\ 0 < n /\ zco b = true) := fun x hx => by rw [hX]; exact zl6 b x n hx
 clear hX;have he := zl8 b zda (cvA paid many age members);generalize zcE b zda (cvA paid many age members) = R at *;obtain ⟨r, e⟩ := R;simp only at he;have hy : ∀ nx, 3 < nx -> RetX Tryz.prog 50 [.vec 3 1] [(3, .vec 3 1 [[.u (.int .i64 4)]])] nx (fun r o n => r = .val (.u (voU (zdL [4]))) /\ o = [(3, .vec 3 1 [[.u (.int .i64 4)]])] /\ n = nx) := fun nx hj => zkw [4] 3 nx hj (by simp);generalize voU (zdL [4]) = V at *;unfold clU zaY zaI zeT cvB zlF zfz zqT zeA zda at *
 (refine Fun.of_bodyW Tryz.func10 rfl (by simp) fun Γ hn => ?_); simp only [entry, ziC, ziN, maC, maN, oA, Tryz.ntmps10]
 repeat' (first
  | (refine zqG (fun nx hnx => hy nx (by simp at hnx; omega)) (by first | (simp [zaa, getK, zab, zac, zak, zau, del]; done) | fail) (by first | (simp []; done) | fail) (by rfl) (by first | assumption | (simp; done) | fail) (by rfl) (by first | (simp [D.under, Ob.under, zad, zae]; done) | (simp [D.under, Ob.under, zad, zae]; omega) | fail) (by simp) ?_; (try simp))
  | (refine zqH (fun nx hnx => hsg _ nx) (by first | (simp [zaa, getK, zab, zac, zak, zau, del]; done) | fail) (by first | (simp []; done) | fail) (by rfl) (by first | assumption | (simp; done) | fail) (by rfl) (by first | (simp [D.under, Ob.under, zad, zae]; done) | (simp [D.under, Ob.under, zad, zae]; omega) | fail) (by simp) ?_; (try simp))
  | (refine CallP.fun_ (hsm) (by first | rfl | fail) (by first | assumption | (simp; done) | fail) (by first | (simp; done) | (simp; rfl) | fail) (by first | (simp; done) | fail) (fun d hd => ?_); obtain ⟨br, rfl⟩ := hd; cases br <;> (try simp))
  | ((first | refine zag ?_ | refine zaN rfl ?_ | refine zci rfl ?_ | refine zcF rfl ?_ | refine zaj ?_ | refine zah ?_ | refine zai ?_ | fail); simp)
  | (refine za4 (hC _ (by kernel_rfl)) (hk _ ?_); clear hC hk C k; simp only [zap])
  | (refine zaM rfl (by kernel_rfl) (by first | (simp [hn]; done) | (simp [hn]; omega) | fail) fun C k hC hk => ?_; simp)
  | (refine zmg rfl (by simp) ?_; simp)
  | (refine zbQ rfl (by simp) (fun hc => ?_) (fun hc => ?_) <;> (try simp at hc) <;> (try (exfalso; omega)) <;> (try simp))
  | ((first | refine zar ?_ | refine zaq ?_ | fail); simp only [zap])
  | (refine ⟨fun hc => ?_, fun hc => ?_⟩ <;> (try (exfalso; omega)))
  | (refine CallP.fE (hs) (by first | rfl | fail) (by first | (simp; done) | (simp; rfl) | fail) ?_; (try simp))
  | (refine CallV.fun_ (hrb) (by first | rfl | fail) (by first | (simp; done) | (simp; rfl) | fail) ?_ <;> (try simp))
  | (refine CallP.fE (h1) (by first | rfl | fail) (by first | (simp; done) | (simp; rfl) | fail) ?_; (try simp))
  | (refine CallP.fE (h2) (by first | rfl | fail) (by first | (simp; done) | (simp; rfl) | fail) ?_; (try simp))
  | fail)
 all_goals
  refine EndW.here ?_
  (refine EndOK.val (.inr rfl) ?_; simp [zaz, zaf, zas, Tryz.results10])
 all_goals
  obtain ⟨g1, g2, g3⟩ := hst (max r 0) (by omega)
  first
  | (have := he (by assumption); omega)
  | (cases hq : zco b <;> simp only [hq, true_iff, iff_true, and_true, and_false, iff_false, decide_eq_true_eq, decide_eq_false_iff_not, Bool.false_eq_true] at g3 ⊢ <;> omega)
  | (cases hq : zco b <;> simp only [hq, and_true, and_false, iff_false, Bool.false_eq_true] at g3 <;> omega)
end Go.Proofs.YtepiegcjnaohjaaGreatDoor
