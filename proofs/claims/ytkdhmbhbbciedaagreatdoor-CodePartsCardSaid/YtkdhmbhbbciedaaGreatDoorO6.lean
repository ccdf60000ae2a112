import Derived.Test.YtkdhmbhbbciedaaGreatDoorO5
import Derived.Lib.ItoaNum
import Derived.Lib.AtoiAllCases
import Derived.Lib.Bytealg
import Derived.Lib.ItoaLen
set_option linter.all false
set_option maxRecDepth 100000
set_option maxHeartbeats 8000000
namespace Go.Proofs.YtkdhmbhbbciedaaGreatDoor
open Go Go.VL
attribute [local simp] HS za2 zcH zbP evPure opd uOf zaq St.put St.at getK binD binI binS binB nilD aggD ze4 zfg lookD lookR zbM rangeS Go.VL.nextD Go.VL.nextS zbR zfi zfh zeD zb0 mkV zaX zaE zaD zaC zcG zaA zaP za5 mapEff zdm zeo Key.kk shiftI arith unD convD zda loadD cellsAt fieldAddrD fieldD indexAddrD indexSlD arrAddr indexD sliceD cutD lenD minmaxD nilCheckD buildD fillD zbv zcI zec setAll zcA zd1 zbK zeT zbJ St.add zak zbd rowsOf zcU zcb zad zac zaa zaW zcy zaH entry zah zaj valD zbW zcu zeU zcN zcO zbC zbu zag zaM za4 delAll effD St.effS zb6 zaF zat zb7 zaG zav zbq zau zam zbr zb5 za1 zbm zaO zbl zai mkD zbi zbb zbf zag zbT D.ids Op.operands Call.operands zbc makeIfD makeFuncD typeAssertD zff zcX zcY zfb zbN IntKind.bits zcx List.take_of_length_le List.range_succ zcm zbF zcn zch zba zbw zby zci zbA zaU zbz zbx zfO zbE zck zaK zaw zcl zaL zay zbD zax zap zcq zcr zfN zab frzN frz1 zaR zaQ St.frz St.frzS frzS fv zbQ zb2 zb3 zaS zaz zan frz zcd zbU zbY zbZ za6 St.norm St.lp St.only zaY wkE wkO wkU Ob.under D.under zal zar zco zbG zcp h4s zdT zas za7 List.zipIdx_cons List.zipIdx_nil List.map_cons List.map_nil Nat.zero_add
attribute [local irreducible] V G H HD HD2 HD4 zgw RetX za3 Eff CallP CallV EndOK Fun Ret FinOK LoopI LoopW EndW HR vs2 RN Cnd H4
theorem zoc {lets shs m n e a b FA FB} (ho : e.op = 10) (hab : e.args = [a, b]) (hA : ExpX lets shs m n a FA) (cA : Cap FA) (pA : Pre FA) (hB : ExpX lets shs m n b FB) (cB : Cap FB) (pB : Pre FB) : zuD lets shs m n e (zbI FA (fun c => zdq (FB c)) (fun c => zb4 c ⟨0, 0, []⟩)) := by
 intro c q nx hm hq hmq hl;have hne := nef hm;have hne2 := nef hq;have hm1 : m < nx + 1 := by omega
 have hp := zbB ((zbI FA (fun c => zdq (FB c)) (fun c => zb4 c ⟨0, 0, []⟩)) c);unfold zbI at hp ⊢
 try simp only at hp ⊢
 have l1 := cA c hl;have w1 := (pA c).1;have a1 := hA c q (nx + 1) (by omega) (by omega) (by omega) hl;generalize FA c = k1 at *;have l2 := Cap.put ⟨13, 0, []⟩ k1 l1;have w2 := (zcK ⟨13, 0, []⟩ k1).1;have g2 := zet k1 ⟨13, 0, []⟩;simp only at l2;have a2 := zf6 lets shs k1 ⟨13, 0, []⟩ m (nx + 1) (nx + 2) (by omega) (by omega) (by omega) (by omega);generalize zb4 k1 ⟨13, 0, []⟩ = k2 at *;have l3 := cB k2 l2;have w3 := (pB k2).1;have a3 := hB k2 (nx + 2) (nx + 3) (by omega) (by omega) (by omega) l2;generalize FB k2 = k3 at *;have l4 := Cap.truth k3 l3;have w4 := (Pre.truth k3).1;have a4 := zoF lets shs k3 m (nx + 3) (nx + 4) (by omega) (by omega) (by omega) (by omega);generalize zdq k3 = k4 at *;have l5 := Cap.put ⟨12, 0, []⟩ k4 l4;have w5 := (zcK ⟨12, 0, []⟩ k4).1;have g5 := zet k4 ⟨12, 0, []⟩;simp only at l5;have a5 := zf6 lets shs k4 ⟨12, 0, []⟩ m (nx + 4) (nx + 5) (by omega) (by omega) (by omega) (by omega);generalize zb4 k4 ⟨12, 0, []⟩ = k5 at *;have l6 := zbO k5 (k2.length - 1);have a6 := ziY lets shs k5 (k2.length - 1) m (nx + 5) (nx + 6) (by omega) (by omega) (by omega) (by omega) (by omega);rw [show ((k2.length - 1 : Nat) : Int) = (k2.length : Int) - 1 by omega] at a6;generalize zdK k5 (k2.length - 1) = k6 at *;have l6 : k6.length <= 2001 := by omega
 have l7 := Cap.put ⟨0, 0, []⟩ k6 l6;have w7 := (zcK ⟨0, 0, []⟩ k6).1;have g7 := zet k6 ⟨0, 0, []⟩;simp only at l7;have a7 := zf6 lets shs k6 ⟨0, 0, []⟩ m (nx + 6) (nx + 7) (by omega) (by omega) (by omega) (by omega);generalize zb4 k6 ⟨0, 0, []⟩ = k7 at *;have l8 := zbO k7 (k5.length - 1);have a8 := ziY lets shs k7 (k5.length - 1) m (nx + 7) (nx + 8) (by omega) (by omega) (by omega) (by omega) (by omega);rw [show ((k5.length - 1 : Nat) : Int) = (k5.length : Int) - 1 by omega] at a8;generalize zdK k7 (k5.length - 1) = k8 at *;have l8 : k8.length <= 2001 := by omega
 simp only [zcC, zaB] at a1 a2 a3 a4 a5 a6 a7 a8 ⊢;have hpp := hp;refine RetX.runW Tryz.func67 Tryz.ntmps67 rfl (by simp) fun Γ hn hpan => ?_
 repeat' (first
  | (refine zaf rfl ?_; simp [hne, hne2, hmq, Ne.symm hmq, Nat.add_assoc, del, ho, hab, a.row_eq, b.row_eq])
  | (refine CallP.okL (a1) (by first | (simp [hne, hne2, hmq, Ne.symm hmq, Nat.add_assoc, del, ho, hab, a.row_eq, b.row_eq, zaa, getK, zab, zac, zad, zai, del]; done) | fail) (by rfl) (by first | assumption | (simp; done) | fail) (by rfl) (by simp) ?_; (try simp [hne, hne2, hmq, Ne.symm hmq, Nat.add_assoc, del, ho, hab, a.row_eq, b.row_eq, zdP, del]))
  | (refine CallP.okL (a2) (by first | (simp [hne, hne2, hmq, Ne.symm hmq, Nat.add_assoc, del, ho, hab, a.row_eq, b.row_eq, zaa, getK, zab, zac, zad, zai, del]; done) | fail) (by rfl) (by first | assumption | (simp; done) | fail) (by rfl) (by simp) ?_; (try simp [hne, hne2, hmq, Ne.symm hmq, Nat.add_assoc, del, ho, hab, a.row_eq, b.row_eq, zdP, del]))
  | (refine CallP.okL (a3) (by first | (simp [hne, hne2, hmq, Ne.symm hmq, Nat.add_assoc, del, ho, hab, a.row_eq, b.row_eq, zaa, getK, zab, zac, zad, zai, del]; done) | fail) (by rfl) (by first | assumption | (simp; done) | fail) (by rfl) (by simp) ?_; (try simp [hne, hne2, hmq, Ne.symm hmq, Nat.add_assoc, del, ho, hab, a.row_eq, b.row_eq, zdP, del]))
  | (refine CallP.okL (a4) (by first | (simp [hne, hne2, hmq, Ne.symm hmq, Nat.add_assoc, del, ho, hab, a.row_eq, b.row_eq, zaa, getK, zab, zac, zad, zai, del]; done) | fail) (by rfl) (by first | assumption | (simp; done) | fail) (by rfl) (by simp) ?_; (try simp [hne, hne2, hmq, Ne.symm hmq, Nat.add_assoc, del, ho, hab, a.row_eq, b.row_eq, zdP, del]))
  | (refine CallP.okL (a5) (by first | (simp [hne, hne2, hmq, Ne.symm hmq, Nat.add_assoc, del, ho, hab, a.row_eq, b.row_eq, zaa, getK, zab, zac, zad, zai, del]; done) | fail) (by rfl) (by first | assumption | (simp; done) | fail) (by rfl) (by simp) ?_; (try simp [hne, hne2, hmq, Ne.symm hmq, Nat.add_assoc, del, ho, hab, a.row_eq, b.row_eq, zdP, del]))
  | (refine CallP.okL (a6) (by first | (simp [hne, hne2, hmq, Ne.symm hmq, Nat.add_assoc, del, ho, hab, a.row_eq, b.row_eq, zaa, getK, zab, zac, zad, zai, del]; done) | fail) (by rfl) (by first | assumption | (simp; done) | fail) (by rfl) (by simp) ?_; (try simp [hne, hne2, hmq, Ne.symm hmq, Nat.add_assoc, del, ho, hab, a.row_eq, b.row_eq, zdP, del]))
  | (refine CallP.okL (a7) (by first | (simp [hne, hne2, hmq, Ne.symm hmq, Nat.add_assoc, del, ho, hab, a.row_eq, b.row_eq, zaa, getK, zab, zac, zad, zai, del]; done) | fail) (by rfl) (by first | assumption | (simp; done) | fail) (by rfl) (by simp) ?_; (try simp [hne, hne2, hmq, Ne.symm hmq, Nat.add_assoc, del, ho, hab, a.row_eq, b.row_eq, zdP, del]))
  | (refine CallP.okL (a8) (by first | (simp [hne, hne2, hmq, Ne.symm hmq, Nat.add_assoc, del, ho, hab, a.row_eq, b.row_eq, zaa, getK, zab, zac, zad, zai, del]; done) | fail) (by rfl) (by first | assumption | (simp; done) | fail) (by rfl) (by simp) ?_; (try simp [hne, hne2, hmq, Ne.symm hmq, Nat.add_assoc, del, ho, hab, a.row_eq, b.row_eq, zdP, del]))
  | fail)
 refine EndW.wk { n := _, env := [], obs := [(m, cOb lets shs nx k8), (nx, kOb k8)], next := nx + 1 } (Wk.ren ((fun i => if i = nx then nx + 8 else i)) rfl (by first | (simp [hn]; done) | (intro i hi; rw [hn] at hi; constructor <;> (try simp) <;> (try (intro _)) <;> omega)) (by simp [zgu, St.lp, zaY, zaa, getK, zac, zad, D.under, D.le, D.ren, hne, hne2, hmq, Ne.symm hmq, hm1, hp, cOb, kOb, zaB] <;> (try (intros; simp_all; done)) <;> (try omega)) (by simp [wkR, St.lp, zaa, getK, zac, zad, obR, leU, zbn, zaN, Ob.under, D.under, D.le, D.ren, hne, hne2, hmq, Ne.symm hmq, hm1, hp, cOb, kOb, zaB] <;> (try (intros; simp_all; done)) <;> (try omega)) (by simp [hne, hne2, hmq, Ne.symm hmq, hm1, hp, cOb, kOb, zaB])) ?_
 (refine EndW.h Tryz.results67 ?_; simp)
theorem zpK {lets shs m n e a b FA FB} (ho : e.op = 11) (hab : e.args = [a, b]) (hA : ExpX lets shs m n a FA) (cA : Cap FA) (pA : Pre FA) (hB : ExpX lets shs m n b FB) (cB : Cap FB) (pB : Pre FB) : zuD lets shs m n e (zbI FA (fun c => zb4 c ⟨0, 1, []⟩) (fun c => zdq (FB c))) := by
 intro c q nx hm hq hmq hl;have hne := nef hm;have hne2 := nef hq;have hm1 : m < nx + 1 := by omega
 have hp := zbB ((zbI FA (fun c => zb4 c ⟨0, 1, []⟩) (fun c => zdq (FB c))) c);unfold zbI at hp ⊢
 try simp only at hp ⊢
 have l1 := cA c hl;have w1 := (pA c).1;have a1 := hA c q (nx + 1) (by omega) (by omega) (by omega) hl;generalize FA c = k1 at *;have l2 := Cap.put ⟨13, 0, []⟩ k1 l1;have w2 := (zcK ⟨13, 0, []⟩ k1).1;have g2 := zet k1 ⟨13, 0, []⟩;simp only at l2;have a2 := zf6 lets shs k1 ⟨13, 0, []⟩ m (nx + 1) (nx + 2) (by omega) (by omega) (by omega) (by omega);generalize zb4 k1 ⟨13, 0, []⟩ = k2 at *;have l3 := Cap.put ⟨0, 1, []⟩ k2 l2;have w3 := (zcK ⟨0, 1, []⟩ k2).1;have g3 := zet k2 ⟨0, 1, []⟩;simp only at l3;have a3 := zf6 lets shs k2 ⟨0, 1, []⟩ m (nx + 2) (nx + 3) (by omega) (by omega) (by omega) (by omega);generalize zb4 k2 ⟨0, 1, []⟩ = k3 at *;have l4 := Cap.put ⟨12, 0, []⟩ k3 l3;have w4 := (zcK ⟨12, 0, []⟩ k3).1;have g4 := zet k3 ⟨12, 0, []⟩;simp only at l4;have a4 := zf6 lets shs k3 ⟨12, 0, []⟩ m (nx + 3) (nx + 4) (by omega) (by omega) (by omega) (by omega);generalize zb4 k3 ⟨12, 0, []⟩ = k4 at *;have l5 := zbO k4 (k2.length - 1);have a5 := ziY lets shs k4 (k2.length - 1) m (nx + 4) (nx + 5) (by omega) (by omega) (by omega) (by omega) (by omega);rw [show ((k2.length - 1 : Nat) : Int) = (k2.length : Int) - 1 by omega] at a5;generalize zdK k4 (k2.length - 1) = k5 at *;have l5 : k5.length <= 2001 := by omega
 have l6 := cB k5 l5;have w6 := (pB k5).1;have a6 := hB k5 (nx + 5) (nx + 6) (by omega) (by omega) (by omega) l5;generalize FB k5 = k6 at *;have l7 := Cap.truth k6 l6;have w7 := (Pre.truth k6).1;have a7 := zoF lets shs k6 m (nx + 6) (nx + 7) (by omega) (by omega) (by omega) (by omega);generalize zdq k6 = k7 at *;have l8 := zbO k7 (k4.length - 1);have a8 := ziY lets shs k7 (k4.length - 1) m (nx + 7) (nx + 8) (by omega) (by omega) (by omega) (by omega) (by omega);rw [show ((k4.length - 1 : Nat) : Int) = (k4.length : Int) - 1 by omega] at a8;generalize zdK k7 (k4.length - 1) = k8 at *;have l8 : k8.length <= 2001 := by omega
 simp only [zcC, zaB] at a1 a2 a3 a4 a5 a6 a7 a8 ⊢;have hpp := hp;refine RetX.runW Tryz.func67 Tryz.ntmps67 rfl (by simp) fun Γ hn hpan => ?_
 repeat' (first
  | (refine zaf rfl ?_; simp [hne, hne2, hmq, Ne.symm hmq, Nat.add_assoc, del, ho, hab, a.row_eq, b.row_eq])
  | (refine CallP.okL (a1) (by first | (simp [hne, hne2, hmq, Ne.symm hmq, Nat.add_assoc, del, ho, hab, a.row_eq, b.row_eq, zaa, getK, zab, zac, zad, zai, del]; done) | fail) (by rfl) (by first | assumption | (simp; done) | fail) (by rfl) (by simp) ?_; (try simp [hne, hne2, hmq, Ne.symm hmq, Nat.add_assoc, del, ho, hab, a.row_eq, b.row_eq, zdP, del]))
  | (refine CallP.okL (a2) (by first | (simp [hne, hne2, hmq, Ne.symm hmq, Nat.add_assoc, del, ho, hab, a.row_eq, b.row_eq, zaa, getK, zab, zac, zad, zai, del]; done) | fail) (by rfl) (by first | assumption | (simp; done) | fail) (by rfl) (by simp) ?_; (try simp [hne, hne2, hmq, Ne.symm hmq, Nat.add_assoc, del, ho, hab, a.row_eq, b.row_eq, zdP, del]))
  | (refine CallP.okL (a3) (by first | (simp [hne, hne2, hmq, Ne.symm hmq, Nat.add_assoc, del, ho, hab, a.row_eq, b.row_eq, zaa, getK, zab, zac, zad, zai, del]; done) | fail) (by rfl) (by first | assumption | (simp; done) | fail) (by rfl) (by simp) ?_; (try simp [hne, hne2, hmq, Ne.symm hmq, Nat.add_assoc, del, ho, hab, a.row_eq, b.row_eq, zdP, del]))
  | (refine CallP.okL (a4) (by first | (simp [hne, hne2, hmq, Ne.symm hmq, Nat.add_assoc, del, ho, hab, a.row_eq, b.row_eq, zaa, getK, zab, zac, zad, zai, del]; done) | fail) (by rfl) (by first | assumption | (simp; done) | fail) (by rfl) (by simp) ?_; (try simp [hne, hne2, hmq, Ne.symm hmq, Nat.add_assoc, del, ho, hab, a.row_eq, b.row_eq, zdP, del]))
  | (refine CallP.okL (a5) (by first | (simp [hne, hne2, hmq, Ne.symm hmq, Nat.add_assoc, del, ho, hab, a.row_eq, b.row_eq, zaa, getK, zab, zac, zad, zai, del]; done) | fail) (by rfl) (by first | assumption | (simp; done) | fail) (by rfl) (by simp) ?_; (try simp [hne, hne2, hmq, Ne.symm hmq, Nat.add_assoc, del, ho, hab, a.row_eq, b.row_eq, zdP, del]))
  | (refine CallP.okL (a6) (by first | (simp [hne, hne2, hmq, Ne.symm hmq, Nat.add_assoc, del, ho, hab, a.row_eq, b.row_eq, zaa, getK, zab, zac, zad, zai, del]; done) | fail) (by rfl) (by first | assumption | (simp; done) | fail) (by rfl) (by simp) ?_; (try simp [hne, hne2, hmq, Ne.symm hmq, Nat.add_assoc, del, ho, hab, a.row_eq, b.row_eq, zdP, del]))
  | (refine CallP.okL (a7) (by first | (simp [hne, hne2, hmq, Ne.symm hmq, Nat.add_assoc, del, ho, hab, a.row_eq, b.row_eq, zaa, getK, zab, zac, zad, zai, del]; done) | fail) (by rfl) (by first | assumption | (simp; done) | fail) (by rfl) (by simp) ?_; (try simp [hne, hne2, hmq, Ne.symm hmq, Nat.add_assoc, del, ho, hab, a.row_eq, b.row_eq, zdP, del]))
  | (refine CallP.okL (a8) (by first | (simp [hne, hne2, hmq, Ne.symm hmq, Nat.add_assoc, del, ho, hab, a.row_eq, b.row_eq, zaa, getK, zab, zac, zad, zai, del]; done) | fail) (by rfl) (by first | assumption | (simp; done) | fail) (by rfl) (by simp) ?_; (try simp [hne, hne2, hmq, Ne.symm hmq, Nat.add_assoc, del, ho, hab, a.row_eq, b.row_eq, zdP, del]))
  | fail)
 refine EndW.wk { n := _, env := [], obs := [(m, cOb lets shs nx k8), (nx, kOb k8)], next := nx + 1 } (Wk.ren ((fun i => if i = nx then nx + 8 else i)) rfl (by first | (simp [hn]; done) | (intro i hi; rw [hn] at hi; constructor <;> (try simp) <;> (try (intro _)) <;> omega)) (by simp [zgu, St.lp, zaY, zaa, getK, zac, zad, D.under, D.le, D.ren, hne, hne2, hmq, Ne.symm hmq, hm1, hp, cOb, kOb, zaB] <;> (try (intros; simp_all; done)) <;> (try omega)) (by simp [wkR, St.lp, zaa, getK, zac, zad, obR, leU, zbn, zaN, Ob.under, D.under, D.le, D.ren, hne, hne2, hmq, Ne.symm hmq, hm1, hp, cOb, kOb, zaB] <;> (try (intros; simp_all; done)) <;> (try omega)) (by simp [hne, hne2, hmq, Ne.symm hmq, hm1, hp, cOb, kOb, zaB])) ?_
 (refine EndW.h Tryz.results67 ?_; simp)
theorem zpL {lets shs m n e a b d FA FB FD} (ho : e.op = 13) (hab : e.args = [a, b, d]) (hA : ExpX lets shs m n a FA) (cA : Cap FA) (pA : Pre FA) (hB : ExpX lets shs m n b FB) (cB : Cap FB) (pB : Pre FB) (hD : ExpX lets shs m n d FD) (cD : Cap FD) (pD : Pre FD) : zuD lets shs m n e (zbI FA FB FD) := by
 intro c q nx hm hq hmq hl;have hne := nef hm;have hne2 := nef hq;have hm1 : m < nx + 1 := by omega
 have hp := zbB ((zbI FA FB FD) c);unfold zbI at hp ⊢
 try simp only at hp ⊢
 have l1 := cA c hl;have w1 := (pA c).1;have a1 := hA c q (nx + 1) (by omega) (by omega) (by omega) hl;generalize FA c = k1 at *;have l2 := Cap.put ⟨13, 0, []⟩ k1 l1;have w2 := (zcK ⟨13, 0, []⟩ k1).1;have g2 := zet k1 ⟨13, 0, []⟩;simp only at l2;have a2 := zf6 lets shs k1 ⟨13, 0, []⟩ m (nx + 1) (nx + 2) (by omega) (by omega) (by omega) (by omega);generalize zb4 k1 ⟨13, 0, []⟩ = k2 at *;have l3 := cB k2 l2;have w3 := (pB k2).1;have a3 := hB k2 (nx + 2) (nx + 3) (by omega) (by omega) (by omega) l2;generalize FB k2 = k3 at *;have l4 := Cap.put ⟨12, 0, []⟩ k3 l3;have w4 := (zcK ⟨12, 0, []⟩ k3).1;have g4 := zet k3 ⟨12, 0, []⟩;simp only at l4;have a4 := zf6 lets shs k3 ⟨12, 0, []⟩ m (nx + 3) (nx + 4) (by omega) (by omega) (by omega) (by omega);generalize zb4 k3 ⟨12, 0, []⟩ = k4 at *;have l5 := zbO k4 (k2.length - 1);have a5 := ziY lets shs k4 (k2.length - 1) m (nx + 4) (nx + 5) (by omega) (by omega) (by omega) (by omega) (by omega);rw [show ((k2.length - 1 : Nat) : Int) = (k2.length : Int) - 1 by omega] at a5;generalize zdK k4 (k2.length - 1) = k5 at *;have l5 : k5.length <= 2001 := by omega
 have l6 := cD k5 l5;have w6 := (pD k5).1;have a6 := hD k5 (nx + 5) (nx + 6) (by omega) (by omega) (by omega) l5;generalize FD k5 = k6 at *;have l7 := zbO k6 (k4.length - 1);have a7 := ziY lets shs k6 (k4.length - 1) m (nx + 6) (nx + 7) (by omega) (by omega) (by omega) (by omega) (by omega);rw [show ((k4.length - 1 : Nat) : Int) = (k4.length : Int) - 1 by omega] at a7;generalize zdK k6 (k4.length - 1) = k7 at *;have l7 : k7.length <= 2001 := by omega
 simp only [zcC, zaB] at a1 a2 a3 a4 a5 a6 a7 ⊢;have hpp := hp;refine RetX.runW Tryz.func67 Tryz.ntmps67 rfl (by simp) fun Γ hn hpan => ?_
 repeat' (first
  | (refine zaf rfl ?_; simp [hne, hne2, hmq, Ne.symm hmq, Nat.add_assoc, del, ho, hab, a.row_eq, b.row_eq, d.row_eq])
  | (refine CallP.okL (a1) (by first | (simp [hne, hne2, hmq, Ne.symm hmq, Nat.add_assoc, del, ho, hab, a.row_eq, b.row_eq, d.row_eq, zaa, getK, zab, zac, zad, zai, del]; done) | fail) (by rfl) (by first | assumption | (simp; done) | fail) (by rfl) (by simp) ?_; (try simp [hne, hne2, hmq, Ne.symm hmq, Nat.add_assoc, del, ho, hab, a.row_eq, b.row_eq, d.row_eq, zdP, del]))
  | (refine CallP.okL (a2) (by first | (simp [hne, hne2, hmq, Ne.symm hmq, Nat.add_assoc, del, ho, hab, a.row_eq, b.row_eq, d.row_eq, zaa, getK, zab, zac, zad, zai, del]; done) | fail) (by rfl) (by first | assumption | (simp; done) | fail) (by rfl) (by simp) ?_; (try simp [hne, hne2, hmq, Ne.symm hmq, Nat.add_assoc, del, ho, hab, a.row_eq, b.row_eq, d.row_eq, zdP, del]))
  | (refine CallP.okL (a3) (by first | (simp [hne, hne2, hmq, Ne.symm hmq, Nat.add_assoc, del, ho, hab, a.row_eq, b.row_eq, d.row_eq, zaa, getK, zab, zac, zad, zai, del]; done) | fail) (by rfl) (by first | assumption | (simp; done) | fail) (by rfl) (by simp) ?_; (try simp [hne, hne2, hmq, Ne.symm hmq, Nat.add_assoc, del, ho, hab, a.row_eq, b.row_eq, d.row_eq, zdP, del]))
  | (refine CallP.okL (a4) (by first | (simp [hne, hne2, hmq, Ne.symm hmq, Nat.add_assoc, del, ho, hab, a.row_eq, b.row_eq, d.row_eq, zaa, getK, zab, zac, zad, zai, del]; done) | fail) (by rfl) (by first | assumption | (simp; done) | fail) (by rfl) (by simp) ?_; (try simp [hne, hne2, hmq, Ne.symm hmq, Nat.add_assoc, del, ho, hab, a.row_eq, b.row_eq, d.row_eq, zdP, del]))
  | (refine CallP.okL (a5) (by first | (simp [hne, hne2, hmq, Ne.symm hmq, Nat.add_assoc, del, ho, hab, a.row_eq, b.row_eq, d.row_eq, zaa, getK, zab, zac, zad, zai, del]; done) | fail) (by rfl) (by first | assumption | (simp; done) | fail) (by rfl) (by simp) ?_; (try simp [hne, hne2, hmq, Ne.symm hmq, Nat.add_assoc, del, ho, hab, a.row_eq, b.row_eq, d.row_eq, zdP, del]))
  | (refine CallP.okL (a6) (by first | (simp [hne, hne2, hmq, Ne.symm hmq, Nat.add_assoc, del, ho, hab, a.row_eq, b.row_eq, d.row_eq, zaa, getK, zab, zac, zad, zai, del]; done) | fail) (by rfl) (by first | assumption | (simp; done) | fail) (by rfl) (by simp) ?_; (try simp [hne, hne2, hmq, Ne.symm hmq, Nat.add_assoc, del, ho, hab, a.row_eq, b.row_eq, d.row_eq, zdP, del]))
  | (refine CallP.okL (a7) (by first | (simp [hne, hne2, hmq, Ne.symm hmq, Nat.add_assoc, del, ho, hab, a.row_eq, b.row_eq, d.row_eq, zaa, getK, zab, zac, zad, zai, del]; done) | fail) (by rfl) (by first | assumption | (simp; done) | fail) (by rfl) (by simp) ?_; (try simp [hne, hne2, hmq, Ne.symm hmq, Nat.add_assoc, del, ho, hab, a.row_eq, b.row_eq, d.row_eq, zdP, del]))
  | fail)
 refine EndW.wk { n := _, env := [], obs := [(m, cOb lets shs nx k7), (nx, kOb k7)], next := nx + 1 } (Wk.ren ((fun i => if i = nx then nx + 7 else i)) rfl (by first | (simp [hn]; done) | (intro i hi; rw [hn] at hi; constructor <;> (try simp) <;> (try (intro _)) <;> omega)) (by simp [zgu, St.lp, zaY, zaa, getK, zac, zad, D.under, D.le, D.ren, hne, hne2, hmq, Ne.symm hmq, hm1, hp, cOb, kOb, zaB] <;> (try (intros; simp_all; done)) <;> (try omega)) (by simp [wkR, St.lp, zaa, getK, zac, zad, obR, leU, zbn, zaN, Ob.under, D.under, D.le, D.ren, hne, hne2, hmq, Ne.symm hmq, hm1, hp, cOb, kOb, zaB] <;> (try (intros; simp_all; done)) <;> (try omega)) (by simp [hne, hne2, hmq, Ne.symm hmq, hm1, hp, cOb, kOb, zaB])) ?_
 (refine EndW.h Tryz.results67 ?_; simp)
end Go.Proofs.YtkdhmbhbbciedaaGreatDoor
namespace Go.Proofs.YtkdhmbhbbciedaaGreatDoor
open Go Go.VL
def PR.bind {α β : Type} : PR α -> (α -> Nat -> PR β) -> PR β
 | .ok a p, f => f a p
 | .stop pos e, _ => .stop pos e
theorem PR.bind_ok {α β : Type} {a : α} {p : Nat} {f : α -> Nat -> PR β} : (PR.ok a p).bind f = f a p := rfl
theorem PR.zaZ {α β : Type} {r : PR α} {f : α -> Nat -> PR β} {b : β} {q : Nat} (h : r.bind f = .ok b q) : ∃ a p, r = .ok a p /\ f a p = .ok b q := by
 cases r with
 | ok a p => exact ⟨a, p, rfl, h⟩
 | stop => cases h
theorem PPost.zeS {α : Type} {l i nx} {val : α -> D} {r : PR α} {a : α} {q : Nat} (h : r = .ok a q) {d : D} (hd : d = val a) {o : List (Nat × Ob)} (ho : o = [(i, pOb l q)]) : PPost l i nx val r (.val d) o nx := by
 subst h; subst hd; subst ho; exact ⟨rfl, rfl, rfl⟩
theorem PPost.zcf {α : Type} {l i nx} {val : α -> D} {r : PR α} {pos e : Int} {q : Nat} (h : r = .stop pos e) : PPost l i nx val r (.pan (chP pos e)) [(i, pOb l q)] nx := by
 subst h; exact ⟨rfl, ⟨_, ⟨q, rfl⟩, rfl⟩, rfl⟩
structure Opr where
 text : List UInt8
 op : Int
 form : Int
def oprs : List Opr := [⟨[111, 114], 11, 1⟩, ⟨[97, 110, 100], 10, 2⟩, ⟨[61, 61], 9, 4⟩, ⟨[60], 8, 4⟩, ⟨[43], 2, 5⟩, ⟨[45], 3, 5⟩, ⟨[42], 4, 6⟩, ⟨[47], 5, 6⟩]
def ztX (l : List Tok) (p : Nat) : Option Opr := oprs.find? fun o => isB l p o.text
def znm (l : List Tok) (p : Nat) : PR Int :=
 if isB l p [99, 111, 105, 110, 115] = true then .ok 3 (p + 1)
 else if isB l p [100, 97, 121, 115] = true then .ok 2 (p + 1)
 else if isB l p [112, 101, 114] = true then (zdQ l (p + 1) [[109, 105, 108, 108, 101]]).bind fun _ q => .ok 4 q
 else .ok 1 p
mutual
def zfu (l : List Tok) : Nat -> Nat -> Int -> PR Exp
 | 0, _, _ => .stop 0 0
 | f + 1, p, form => (zcc l f p form).bind fun e q => zfL l f form e.1 e.2 q
def zfL (l : List Tok) : Nat -> Int -> Exp -> Int -> Nat -> PR Exp
 | 0, _, _, _, _ => .stop 0 0
 | f + 1, form, e, own, q => match ztX l q with
  | none => .ok e q
  | some x => if x.form < form \/ own < x.form \/ (own = 4 /\ x.form = 4) then .ok e q
   else (zfu l f (q + 1) (x.form + 1)).bind fun e2 r => zfL l f form (.mk x.op 0 0 [] [e, e2]) x.form r
def zcc (l : List Tok) : Nat -> Nat -> Int -> PR (Exp × Int)
 | 0, _, _ => .stop 0 0
 | f + 1, p, form =>
  if form = 0 /\ isB l p [105, 102] = true then
   (zfu l f (p + 1) 0).bind fun a q1 => (zdQ l q1 [[116, 104, 101, 110]]).bind fun _ q2 => (zfu l f q2 0).bind fun b q3 =>
   (zdQ l q3 [[101, 108, 115, 101]]).bind fun _ q4 => (zfu l f q4 0).bind fun c q5 => .ok (.mk 13 0 0 [] [a, b, c], 0) q5
  else if form <= 3 /\ isB l p [110, 111, 116] = true then (zfu l f (p + 1) 3).bind fun a q => .ok (.mk 12 0 0 [] [a], 3) q
  else (zbj l f p).bind fun e q => .ok (e, 7) q
def zbj (l : List Tok) : Nat -> Nat -> PR Exp
 | 0, _ => .stop 0 0
 | f + 1, p => match l[p]? with
  | none => .stop 0 0
  | some t =>
   if t.kind = 2 then (znm l (p + 1)).bind fun u q => .ok (.mk 0 t.n u [] []) q
   else if isB l p [116, 114, 117, 101] = true then .ok (.mk 0 1 0 [] []) (p + 1)
   else if isB l p [102, 97, 108, 115, 101] = true then .ok (.mk 0 0 0 [] []) (p + 1)
   else if isB l p [109, 105, 110] = true \/ isB l p [109, 97, 120] = true then
    (zdQ l (p + 1) [[40]]).bind fun _ q1 => (zfu l f q1 0).bind fun a q2 => (zdQ l q2 [[44]]).bind fun _ q3 => (zfu l f q3 0).bind fun b q4 =>
    (zdQ l q4 [[41]]).bind fun _ q5 => .ok (.mk (if isB l p [109, 97, 120] = true then 7 else 6) 0 0 [] [a, b]) q5
   else if isB l p [40] = true then (zfu l f (p + 1) 0).bind fun e q1 => (zdQ l q1 [[41]]).bind fun _ q2 => .ok e q2
   else if t.kind = 1 /\ zf8 t.text = true then .ok (.mk 1 0 0 t.text []) (p + 1)
   else .stop t.pos 12
end
theorem zcD {l : List Tok} (hl : TokOK l) : ∀ (ws : List (List UInt8)) {p q : Nat}, zdQ l p ws = .ok () q -> p < l.length -> p <= q /\ q < l.length
 | [], p, q, h, hp => by rw [zdQ] at h; cases h; exact ⟨Nat.le_refl _, hp⟩
 | w :: ws, p, q, h, hp => by
  rw [zdQ] at h;split at h
  ·rename_i hb;have := zcD hl ws h (zcM hl hb);exact ⟨by omega, this.2⟩
  ·cases h
theorem zqo {l : List Tok} (hl : TokOK l) {p q : Nat} {u : Int} (h : znm l p = .ok u q) (hp : p < l.length) : p <= q /\ q < l.length := by
 unfold znm at h;split at h
 ·rename_i hb; cases h; exact ⟨by omega, zcM hl hb⟩
 ·split at h
  ·rename_i hb; cases h; exact ⟨by omega, zcM hl hb⟩
  ·split at h
   ·rename_i hb;obtain ⟨a, r, h1, h2⟩ := PR.zaZ h;cases h2;have := zcD hl _ h1 (zcM hl hb);exact ⟨by omega, this.2⟩
   ·cases h; exact ⟨by omega, hp⟩
theorem zdH {l : List Tok} (hl : TokOK l) : ∀ (f : Nat),
  (∀ p form e q, zfu l f p form = .ok e q -> p < l.length -> p <= q /\ q < l.length) /\
  (∀ form e own p e' q, zfL l f form e own p = .ok e' q -> p < l.length -> p <= q /\ q < l.length) /\
  (∀ p form e q, zcc l f p form = .ok e q -> p < l.length -> p <= q /\ q < l.length) /\
  (∀ p e q, zbj l f p = .ok e q -> p < l.length -> p <= q /\ q < l.length)
 | 0 => ⟨fun _ _ _ _ h => by simp [zfu] at h, fun _ _ _ _ _ _ h => by simp [zfL] at h, fun _ _ _ _ h => by simp [zcc] at h, fun _ _ _ h => by simp [zbj] at h⟩
 | f + 1 => by
  obtain ⟨he, hlo, hpr, hpm⟩ := zdH hl f;refine ⟨fun p form e q h hp => ?_, fun form e own p e' q h hp => ?_, fun p form e q h hp => ?_, fun p e q h hp => ?_⟩
  ·rw [zfu] at h;obtain ⟨a, r, h1, h2⟩ := PR.zaZ h;have g1 := hpr _ _ _ _ h1 hp;have g2 := hlo _ _ _ _ _ _ h2 g1.2;exact ⟨by omega, g2.2⟩
  ·rw [zfL] at h;split at h
   ·cases h; exact ⟨by omega, hp⟩
   ·rename_i x hx;have hb := List.find?_some hx;have hp2 := zcM hl hb;split at h
    ·cases h; exact ⟨by omega, hp⟩
    ·obtain ⟨a, r, h1, h2⟩ := PR.zaZ h;have g1 := he _ _ _ _ h1 hp2;have g2 := hlo _ _ _ _ _ _ h2 g1.2;exact ⟨by omega, g2.2⟩
  ·rw [zcc] at h;split at h
   ·rename_i hb;have hp2 := zcM hl hb.2;obtain ⟨a, r, h1, h⟩ := PR.zaZ h;have g1 := he _ _ _ _ h1 hp2;obtain ⟨_, r2, h2, h⟩ := PR.zaZ h;have g2 := zcD hl _ h2 g1.2;obtain ⟨a, r3, h3, h⟩ := PR.zaZ h;have g3 := he _ _ _ _ h3 g2.2;obtain ⟨_, r4, h4, h⟩ := PR.zaZ h;have g4 := zcD hl _ h4 g3.2;obtain ⟨a, r5, h5, h⟩ := PR.zaZ h;have g5 := he _ _ _ _ h5 g4.2;cases h;exact ⟨by omega, g5.2⟩
   ·split at h
    ·rename_i hb;have hp2 := zcM hl hb.2;obtain ⟨a, r, h1, h⟩ := PR.zaZ h;have g1 := he _ _ _ _ h1 hp2;cases h;exact ⟨by omega, g1.2⟩
    ·obtain ⟨a, r, h1, h⟩ := PR.zaZ h;have g1 := hpm _ _ _ h1 hp;cases h;exact g1
  ·rw [zbj] at h;split at h
   ·cases h
   ·rename_i t ht;split at h
    ·rename_i hk;have hp2 := hl.fin p t ht (by omega);obtain ⟨a, r, h1, h⟩ := PR.zaZ h;have g1 := zqo hl h1 hp2;cases h;exact ⟨by omega, g1.2⟩
    split at h
    ·rename_i hb; cases h; exact ⟨by omega, zcM hl hb⟩
    split at h
    ·rename_i hb; cases h; exact ⟨by omega, zcM hl hb⟩
    split at h
    ·rename_i hb;have hp2 : p + 1 < l.length := hb.elim (zcM hl) (zcM hl);obtain ⟨_, r2, h2, h⟩ := PR.zaZ h;have g2 := zcD hl _ h2 hp2;obtain ⟨a, r3, h3, h⟩ := PR.zaZ h;have g3 := he _ _ _ _ h3 g2.2;obtain ⟨_, r4, h4, h⟩ := PR.zaZ h;have g4 := zcD hl _ h4 g3.2;obtain ⟨a, r5, h5, h⟩ := PR.zaZ h;have g5 := he _ _ _ _ h5 g4.2;obtain ⟨_, r6, h6, h⟩ := PR.zaZ h;have g6 := zcD hl _ h6 g5.2;cases h;exact ⟨by omega, g6.2⟩
    split at h
    ·rename_i hb;have hp2 := zcM hl hb;obtain ⟨a, r3, h3, h⟩ := PR.zaZ h;have g3 := he _ _ _ _ h3 hp2;obtain ⟨_, r4, h4, h⟩ := PR.zaZ h;have g4 := zcD hl _ h4 g3.2;cases h;exact ⟨by omega, g4.2⟩
    split at h
    ·rename_i hk;cases h;exact ⟨by omega, hl.fin p t ht (by omega)⟩
    ·cases h
end Go.Proofs.YtkdhmbhbbciedaaGreatDoor
namespace Go.Proofs.YtkdhmbhbbciedaaGreatDoor
open Go Go.VL
abbrev W8 := List UInt8
def znT : W8 -> Int
 | [] => 0
 | c :: _ => if zdM c = true then 1 else if zbg c = true then 2 else 3
theorem zq1 {w : W8} (h : w ≠ []) : znT w ≠ 0 := by
 cases w with
 | nil => exact absurd rfl h
 | cons c w => rw [znT]; split <;> (try split) <;> decide
def zuK (w : W8) : Int := if znT w = 2 then (zgC w).getD 0 else 0
def Reads (l : List Tok) (p : Nat) (ws : List W8) : Prop := ∀ i w, ws[i]? = some w -> w ≠ [] /\ ∃ t, l[p + i]? = some t /\ t.text = w /\ t.kind = znT w /\ t.n = zuK w
theorem Reads.left {l p} {a b : List W8} (h : Reads l p (a ++ b)) : Reads l p a := fun i w hi => h i w (by rw [List.getElem?_append_left (List.getElem?_eq_some_iff.1 hi).1]; exact hi)
theorem Reads.right {l p} {a b : List W8} (h : Reads l p (a ++ b)) : Reads l (p + a.length) b := fun i w hi => by
 have := h (a.length + i) w (by rw [List.getElem?_append_right (by omega), Nat.add_sub_cancel_left]; exact hi)
 rwa [<- Nat.add_assoc] at this
theorem Reads.head {l p} {w : W8} {b : List W8} (h : Reads l p (w :: b)) : w ≠ [] /\ ∃ t, l[p]? = some t /\ t.text = w /\ t.kind = znT w /\ t.n = zuK w := h 0 w rfl
theorem Reads.tail {l p} {w : W8} {b : List W8} (h : Reads l p (w :: b)) : Reads l (p + 1) b := Reads.right (a := [w]) h
theorem Reads.isB {l p} {w : W8} {b : List W8} (h : Reads l p (w :: b)) (v : W8) : isB l p v = decide (w = v) := by
 obtain ⟨hw, t, ht, h1, h2, h3⟩ := h.head;have := zq1 hw;simp [Go.Proofs.YtkdhmbhbbciedaaGreatDoor.isB, ht, h1, h2, this]
theorem Reads.want {l p} {w : W8} {b : List W8} (h : Reads l p (w :: b)) : zdQ l p [w] = .ok () (p + 1) := by
 rw [zdQ, if_pos (by rw [h.isB]; simp), zdQ]
def Ev {α : Type} (g : Nat -> PR α) (r : PR α) : Prop := ∃ f0, ∀ f, f0 <= f -> g f = r
theorem Ev.succ {α : Type} {g : Nat -> PR α} {r : PR α} (h : Ev (fun f => g (f + 1)) r) : Ev g r := by
 obtain ⟨f0, h⟩ := h;refine ⟨f0 + 1, fun f hf => ?_⟩;obtain ⟨f, rfl⟩ : ∃ k, f = k + 1 := ⟨f - 1, by omega⟩;exact h f (by omega)
theorem Ev.const {α : Type} {r : PR α} : Ev (fun _ => r) r := ⟨0, fun _ _ => rfl⟩
theorem Ev.of {α : Type} {g : Nat -> PR α} {r : PR α} (h : ∀ f, g f = r) : Ev g r := ⟨0, fun f _ => h f⟩
theorem Ev.bind {α β : Type} {g : Nat -> PR α} {a : α} {q : Nat} {F : Nat -> α -> Nat -> PR β} {r : PR β} (h : Ev g (.ok a q)) (h2 : Ev (fun f => F f a q) r) : Ev (fun f => (g f).bind (F f)) r := by
 obtain ⟨f0, h⟩ := h;obtain ⟨f1, h2⟩ := h2;refine ⟨max f0 f1, fun f hf => ?_⟩;show (g f).bind (F f) = r;rw [h f (by omega), PR.bind_ok];exact h2 f (by omega)
end Go.Proofs.YtkdhmbhbbciedaaGreatDoor
namespace Go.Proofs.YtkdhmbhbbciedaaGreatDoor
open Go Go.VL
end Go.Proofs.YtkdhmbhbbciedaaGreatDoor
namespace Go.Proofs.YtkdhmbhbbciedaaGreatDoor
open Go Go.VL
theorem zg0 : ∀ n, Lib.decDigits n ≠ [] := fun n => by
 rw [Lib.decDigits]; split <;> simp
theorem zel (n : Nat) : ∀ c ∈ Lib.decDigits n, zbg c = true := by
 induction n using Nat.strongRecOn with
 | _ n ih =>
  intro c hc;have hd : ∀ k, k < 10 -> zbg (UInt8.ofNat (48 + k)) = true := by decide
  rw [Lib.decDigits] at hc;split at hc
  ·rename_i h;simp only [List.mem_singleton] at hc;subst hc;exact hd n h
  ·rename_i h;rw [List.mem_append, List.mem_singleton] at hc;rcases hc with hc | rfl
   ·exact ih _ (by omega) c hc
   ·exact hd _ (by omega)
theorem zjY (n : Nat) : zbS (Lib.decDigits n) = n := by
 induction n using Nat.strongRecOn with
 | _ n ih =>
  have hd : ∀ k, k < 10 -> ((UInt8.ofNat (48 + k)).toNat : Int) - 48 = k := by decide
  rw [Lib.decDigits];split
  ·rename_i h;simpa [zbS] using hd n h
  ·rename_i h;rw [zex, ih _ (by omega), hd _ (by omega)];omega
theorem zjZ (n : Nat) : ∀ k, n < 10 ^ (k + 1) -> (Lib.decDigits n).length <= k + 1 := by
 induction n using Nat.strongRecOn with
 | _ n ih =>
  intro k hk;rw [Lib.decDigits];split
  ·simp
  ·rename_i h;obtain ⟨k, rfl⟩ : ∃ j, k = j + 1 := ⟨k - 1, by cases k with | zero => simp at hk; omega | succ k => rfl⟩;have := ih (n / 10) (by omega) k (by rw [Nat.pow_succ] at hk; omega);simp;omega
end Go.Proofs.YtkdhmbhbbciedaaGreatDoor
namespace Go.Proofs.YtkdhmbhbbciedaaGreatDoor
open Go Go.VL
end Go.Proofs.YtkdhmbhbbciedaaGreatDoor
namespace Go.Proofs.YtkdhmbhbbciedaaGreatDoor
open Go Go.VL
end Go.Proofs.YtkdhmbhbbciedaaGreatDoor
namespace Go.Proofs.YtkdhmbhbbciedaaGreatDoor
open Go Go.VL
end Go.Proofs.YtkdhmbhbbciedaaGreatDoor
namespace Go.Proofs.YtkdhmbhbbciedaaGreatDoor
open Go Go.VL
def zvl (r : W8) : Prop := ∀ c t, r = c :: t -> zcW c = true
structure GoodW (w : W8) : Prop where
 next : ∀ r, zvl r -> zil (w ++ r) = .ok ⟨znT w, w, zuK w, 0⟩
 ne : w ≠ []
 head : ∀ c t, w = c :: t -> zcW c = false
def Spaced : List (W8 × W8) -> Prop
 | [] => True
 | [x] => GoodW x.1 /\ ∀ c ∈ x.2, zcW c = true
 | x :: y :: l => GoodW x.1 /\ (∀ c ∈ x.2, zcW c = true) /\ x.2 ≠ [] /\ Spaced (y :: l)
theorem Spaced.good {x : W8 × W8} {l : List (W8 × W8)} (h : Spaced (x :: l)) : GoodW x.1 /\ (∀ c ∈ x.2, zcW c = true) /\ (l ≠ [] -> x.2 ≠ []) /\ Spaced l := by
 cases l with
 | nil => exact ⟨h.1, h.2, fun h => absurd rfl h, trivial⟩
 | cons y l => exact ⟨h.1, h.2.1, fun _ => h.2.2.1, h.2.2.2⟩
end Go.Proofs.YtkdhmbhbbciedaaGreatDoor
namespace Go.Proofs.YtkdhmbhbbciedaaGreatDoor
open Go Go.VL
theorem PR.zdl {α β : Type} {r : PR α} {F G : α -> Nat -> PR β} (h : ∀ a q, r = .ok a q -> F a q = G a q) : r.bind F = r.bind G := by
 cases r with
 | ok a q => exact h a q rfl
 | stop => rfl
theorem zm3 {l : List Tok} (hl : TokOK l) : ∀ (f : Nat),
  (∀ p form, p < l.length -> 4 * (l.length - p) + 3 <= f -> zfu l (f + 1) p form = zfu l f p form) /\
  (∀ p form e own, p < l.length -> 4 * (l.length - p) + 2 <= f -> zfL l (f + 1) form e own p = zfL l f form e own p) /\
  (∀ p form, p < l.length -> 4 * (l.length - p) + 2 <= f -> zcc l (f + 1) p form = zcc l f p form) /\
  (∀ p, p < l.length -> 4 * (l.length - p) + 1 <= f -> zbj l (f + 1) p = zbj l f p)
 | 0 => ⟨fun _ _ _ h => by omega, fun _ _ _ _ _ h => by omega, fun _ _ _ h => by omega, fun _ _ h => by omega⟩
 | f + 1 => by
  obtain ⟨he, hlo, hpr, hpm⟩ := zm3 hl f;obtain ⟨le, llo, lpr, lpm⟩ := zdH hl f;refine ⟨fun p form hp hf => ?_, fun p form e own hp hf => ?_, fun p form hp hf => ?_, fun p hp hf => ?_⟩
  ·simp only [zfu];rw [hpr p form hp (by omega)];refine PR.zdl fun a q hq => ?_;have g := lpr _ _ _ _ hq hp;exact hlo _ _ _ _ g.2 (by omega)
  ·rw [zfL, zfL];split
   ·rfl
   ·rename_i x hx;have hb := List.find?_some hx;have hp2 := zcM hl hb;split
    ·rfl
    ·rw [he (p + 1) _ hp2 (by omega)];refine PR.zdl fun a q hq => ?_;have g := le _ _ _ _ hq hp2;exact hlo _ _ _ _ g.2 (by omega)
  ·simp only [zcc];split
   ·rename_i hb;have hp2 := zcM hl hb.2;rw [he (p + 1) _ hp2 (by omega)];refine PR.zdl fun a q1 hq1 => ?_;have g1 := le _ _ _ _ hq1 hp2;refine PR.zdl fun _ q2 hq2 => ?_;have g2 := zcD hl _ hq2 g1.2;rw [he q2 _ g2.2 (by omega)];refine PR.zdl fun b q3 hq3 => ?_;have g3 := le _ _ _ _ hq3 g2.2;refine PR.zdl fun _ q4 hq4 => ?_;have g4 := zcD hl _ hq4 g3.2;rw [he q4 _ g4.2 (by omega)]
   ·split
    ·rename_i hb;rw [he (p + 1) _ (zcM hl hb.2) (by omega)]
    ·rw [hpm p hp (by omega)]
  ·simp only [zbj];split
   ·rfl
   ·split
    ·rfl
    ·split
     ·rfl
     ·split
      ·rfl
      ·split
       ·rename_i hb;have hp2 : p + 1 < l.length := hb.elim (zcM hl) (zcM hl);refine PR.zdl fun _ q1 hq1 => ?_;have g1 := zcD hl _ hq1 hp2;rw [he q1 _ g1.2 (by omega)];refine PR.zdl fun a q2 hq2 => ?_;have g2 := le _ _ _ _ hq2 g1.2;refine PR.zdl fun _ q3 hq3 => ?_;have g3 := zcD hl _ hq3 g2.2;rw [he q3 _ g3.2 (by omega)]
       ·split
        ·rename_i hb;rw [he (p + 1) _ (zcM hl hb) (by omega)]
        ·rfl
theorem zk7 {l : List Tok} (hl : TokOK l) {p f : Nat} {form : Int} (hp : p < l.length) (hf : 4 * (l.length - p) + 3 <= f) : ∀ g, zfu l (f + g) p form = zfu l f p form
 | 0 => rfl
 | g + 1 => by rw [<- Nat.add_assoc, (zm3 hl (f + g)).1 p form hp (by omega), zk7 hl hp hf g]
theorem Ev.fuel {l : List Tok} (hl : TokOK l) {p f : Nat} {form : Int} {r : PR Exp} (h : Ev (fun f => zfu l f p form) r) (hp : p < l.length) (hf : 4 * (l.length - p) + 3 <= f) : zfu l f p form = r := by
 obtain ⟨f0, h⟩ := h;rw [<- zk7 hl hp hf f0];exact h (f + f0) (by omega)
end Go.Proofs.YtkdhmbhbbciedaaGreatDoor
namespace Go.Proofs.YtkdhmbhbbciedaaGreatDoor
open Go Go.VL
def AllGood (ws : List W8) : Prop := ∀ w ∈ ws, GoodW w
theorem AllGood.nil : AllGood [] := fun _ h => by cases h
theorem AllGood.cons {w : W8} {ws : List W8} (h : GoodW w) (h2 : AllGood ws) : AllGood (w :: ws) := fun x hx => by
 rcases List.mem_cons.1 hx with rfl | hx
 ·exact h
 ·exact h2 x hx
theorem AllGood.app {a b : List W8} (h : AllGood a) (h2 : AllGood b) : AllGood (a ++ b) := fun x hx => by
 rcases List.mem_append.1 hx with hx | hx
 ·exact h x hx
 ·exact h2 x hx
end Go.Proofs.YtkdhmbhbbciedaaGreatDoor
namespace Go.Proofs.YtkdhmbhbbciedaaGreatDoor
open Go Go.VL
end Go.Proofs.YtkdhmbhbbciedaaGreatDoor
namespace Go.Proofs.YtkdhmbhbbciedaaGreatDoor
open Go Go.VL
theorem ziK {l : Code} (hr : zb8 l = true) {i : Nat} {x : Ins} (hx : l[i]? = some x) : 0 <= x.op /\ x.op < 15 /\ -1099511627776 <= x.a /\ x.a <= 1099511627776 /\ x.s.length <= 1000 := by
 simp only [zb8, Bool.and_eq_true, decide_eq_true_eq] at hr;have h := zfG hr.1.2 hx;have hl := hr.1.1.2;unfold zdx at h;split at h
 ·simp at h; rw [h.1.1]; simp; omega
 split at h
 ·rename_i h1;simp at h;have h3 : x.s.length <= 20 := by
   have h := h.2;simp only [zf8, Bool.and_eq_true] at h;have h := h.1;generalize x.s = s at *;cases s with
   | nil => simp
   | cons c r =>
    simp only [zii, Bool.and_eq_true, decide_eq_true_eq] at h;exact h.1.2
  have h4 := h.1;rw [h1, h4];omega
 split at h
 ·simp at h; rw [h.1.1]; simp; omega
 ·simp at h; rw [h.1.1.1]; simp; omega
theorem zmR (x : Ins) (h0 : 0 <= x.op /\ x.op < 15 /\ -1099511627776 <= x.a /\ x.a <= 1099511627776 /\ x.s.length <= 1000) : (zfr x).length <= 2000 := by
 have hil := Lib.itoa_length_le x.a (by omega) (by omega);have hwl2 : ∀ w ∈ wordsL, w.length <= 5 := by decide
 have hu : wordsL[x.op.toNat]? = some (zd8 x.op) := by
  rw [zd8, List.getD, List.getElem?_eq_getElem (by have : wordsL.length = 15 := rfl; omega)]; rfl
 have := hwl2 _ (List.mem_of_getElem? hu);unfold zfr;split
 ·simp; omega
 split
 ·simp; omega
 ·simp; omega
theorem zkW {l : Code} {i : Nat} {x : Ins} (h : l[i]? = some x) : zdu (l.take (i + 1)) = zdu (l.take i) ++ zfr x := by
 obtain ⟨hi, rfl⟩ := List.getElem?_eq_some_iff.1 h;rw [List.take_succ_eq_append_getElem hi, zdu, List.map_append, List.flatten_append];simp [zdu]
theorem zjE {l : Code} (hr : zb8 l = true) : ∀ i, i <= l.length -> (zdu (l.take i)).length <= i * 2000
 | 0, _ => by simp [zdu]
 | i + 1, h => by
  have hx : l[i]? = some l[i] := List.getElem?_eq_getElem (by omega);rw [zkW hx, List.length_append];have := zjE hr i (by omega);have := zmR _ (ziK hr hx);omega
def zl1 (T : List UInt8) (i : Nat) : List (Nat × Ob) := if i = 0 then [(0, .nw 88)] else [(0, .box [.ptr 0 0, .vec 1 T.length]), (1, .vec u8T 1 (zd7 T))]
end Go.Proofs.YtkdhmbhbbciedaaGreatDoor
namespace Go.Proofs.YtkdhmbhbbciedaaGreatDoor
open Go Go.VL
def zg1 (c : UInt8) : W8 -> Option (W8 × W8)
 | [] => none
 | x :: r => if x = c then some ([], r) else (zg1 c r).map fun p => (x :: p.1, p.2)
theorem zhk {c : UInt8} : ∀ {s p q : W8}, zg1 c s = some (p, q) -> s = p ++ c :: q /\ c ∉ p
 | [], p, q, h => by simp [zg1] at h
 | x :: r, p, q, h => by
  unfold zg1 at h;split at h
  ·rename_i e;simp at h;obtain ⟨rfl, rfl⟩ := h;simp [e]
  ·rename_i e;cases hr : zg1 c r with
   | none => rw [hr] at h; simp at h
   | some pq =>
    obtain ⟨p', q'⟩ := pq;rw [hr] at h;simp at h;obtain ⟨rfl, rfl⟩ := h;obtain ⟨h1, h2⟩ := zhk hr;exact ⟨by rw [h1]; rfl, by simp [h2, Ne.symm e]⟩
theorem zli {c : UInt8} : ∀ {p : W8} (q : W8), c ∉ p -> zg1 c (p ++ c :: q) = some (p, q)
 | [], q, _ => by simp [zg1]
 | x :: p, q, h => by
  simp at h;rw [List.cons_append, zg1, if_neg (Ne.symm h.1), zli q h.2];rfl
theorem zmd {c : UInt8} : ∀ {s : W8}, c ∉ s -> zg1 c s = none
 | [], _ => rfl
 | x :: r, h => by
  simp at h;rw [zg1, if_neg (Ne.symm h.1), zmd h.2];rfl
theorem zh0 {c : UInt8} : ∀ (s : W8), Lib.indexByte s c = match zg1 c s with | some p => (p.1.length : Int) | none => -1
 | [] => rfl
 | x :: r => by
  have ih := zh0 (c := c) r;unfold zg1 Lib.indexByte;by_cases e : x = c
  ·simp [e]
  ·rw [if_neg e, ih];have : (x == c) = false := by simpa using e
   rw [this];cases zg1 c r with
   | none => simp
   | some p => simp
theorem zsT {c : UInt8} {s p q : W8} (h : zg1 c s = some (p, q)) : q.length < s.length := by
 rw [(zhk h).1]; simp; omega
def zbV (c : UInt8) : W8 -> List W8
 | [] => [[]]
 | x :: r => if x = c then [] :: zbV c r else match zbV c r with | [] => [[x]] | p :: ps => (x :: p) :: ps
theorem zhH {c : UInt8} : ∀ s : W8, zbV c s ≠ []
 | [] => by simp [zbV]
 | x :: r => by
  unfold zbV;split
  ·simp
  ·split <;> simp
theorem zeb {c : UInt8} : ∀ s : W8, zbV c s = match zg1 c s with | some p => p.1 :: zbV c p.2 | none => [s]
 | [] => rfl
 | x :: r => by
  have ih := zeb (c := c) r;rw [zbV, zg1];by_cases e : x = c
  ·simp [e]
  ·rw [if_neg e, if_neg e, ih];cases zg1 c r <;> simp
theorem ziO {c : UInt8} : ∀ s : W8, ∀ t ∈ zbV c s, t.length <= s.length
 | [], t, h => by simp [zbV] at h; simp [h]
 | x :: r, t, h => by
  have ih := ziO (c := c) r;unfold zbV at h;split at h
  ·rcases List.mem_cons.1 h with rfl | h
   ·simp
   ·have := ih t h; simp; omega
  ·split at h
   ·simp at h; subst h; simp
   ·rename_i p ps hp;rcases List.mem_cons.1 h with rfl | h
    ·have := ih p (by rw [hp]; simp); simp; omega
    ·have := ih t (by rw [hp]; simp [h]); simp; omega
theorem ziN {c : UInt8} : ∀ s : W8, (zbV c s).length <= s.length + 1
 | [] => by simp [zbV]
 | x :: r => by
  have ih := ziN (c := c) r;unfold zbV;split
  ·simp; omega
  ·split
   ·simp
   ·rename_i p ps hp;rw [hp] at ih;simp at ih ⊢;omega
def zfQ (s : W8) : W8 := if s.getLast? = some 10 then s.dropLast else s
theorem zqt (t : W8) : zfQ (t ++ [10]) = t := by simp [zfQ]
theorem zqr (s : W8) : (zfQ s).length <= s.length := by unfold zfQ; split <;> simp
def zlq (s : W8) : Int := match Lib.atoiAll s with | .ok v => v | .range => Lib.atoiSat s | _ => 0
def zl3 (t : W8) : Ins :=
 let w := match zg1 32 t with | some p => p.1 | none => t
 let r := match zg1 32 t with | some p => p.2 | none => []
 if zjJ wordsL w 0 = 1 then ⟨1, 0, r⟩ else ⟨zjJ wordsL w 0, zlq r, []⟩
def zd6 (s : W8) : Code := (zbV 10 (zfQ s)).map zl3
def zjt (s : W8) : Code × Int := if zb8 (zd6 s) = true /\ zdu (zd6 s) = s then (zd6 s, 0) else ([], 2)
theorem zgZ : ∀ (s : W8) (acc : Nat), (∀ c ∈ s, zbg c = true) -> ((acc + 1) * 10 ^ s.length <= 10 ^ 18) -> Lib.parseUint10 acc s = .ok (s.foldl (fun (n : Int) c => 10 * n + ((c.toNat : Int) - 48)) acc).toNat /\ 0 <= s.foldl (fun (n : Int) c => 10 * n + ((c.toNat : Int) - 48)) acc
 | [], acc, _, _ => by simp [Lib.parseUint10]
 | c :: r, acc, h, hb => by
  have hc := h c (by simp);simp only [zbg, Bool.and_eq_true, decide_eq_true_eq] at hc;have hpow : 1 <= 10 ^ r.length := Nat.one_le_pow _ _ (by decide);have e1 : (acc + 1) * 10 ^ (c :: r).length = (10 * (acc + 1)) * 10 ^ r.length := by
   rw [List.length_cons, Nat.pow_succ, Nat.mul_comm (10 ^ r.length) 10, <- Nat.mul_assoc, Nat.mul_comm (acc + 1) 10]
  rw [e1] at hb;have hle : (acc * 10 + (c.toNat - 48) + 1) * 10 ^ r.length <= 10 * (acc + 1) * 10 ^ r.length := Nat.mul_le_mul_right _ (by omega);have h18 : 10 * (acc + 1) <= 10 ^ 18 := Nat.le_trans (Nat.le_mul_of_pos_right _ hpow) hb;have ih := zgZ r (acc * 10 + (c.toNat - 48)) (fun d hd => h d (by simp [hd])) (Nat.le_trans hle hb);have e2 : (10 * (acc : Int) + ((c.toNat : Int) - 48)) = ((acc * 10 + (c.toNat - 48) : Nat) : Int) := by omega
  rw [List.foldl_cons, e2];refine ⟨?_, ih.2⟩;rw [<- ih.1, Lib.parseUint10, if_pos hc, if_neg (by omega), if_neg (by omega)]
theorem zgU (n : Nat) (h : n < 10 ^ 17) : Lib.parseMag (Lib.decDigits n) = .ok n := by
 unfold Lib.parseMag;rw [if_neg (zg0 n)];have hl := zjZ n 16 (by omega);have hpow : 10 ^ (Lib.decDigits n).length <= 10 ^ 17 := Nat.pow_le_pow_right (by decide) (by omega);have h1 := zgZ (Lib.decDigits n) 0 (zel n) (by omega);have h2 := zjY n;unfold zbS at h2;simp only [Int.ofNat_zero, Int.natCast_zero] at h1;rw [h1.1, h2];simp
theorem zmc (n : Nat) {c : UInt8} {r : W8} (h : Lib.decDigits n = c :: r) : zbg c = true := zel n c (by rw [h]; simp)
theorem zje {a : Int} (h0 : -1099511627776 <= a) (h1 : a <= 1099511627776) : zlq (Lib.itoa a) = a := by
 unfold Lib.itoa;split
 ·rename_i hn;have hm := zgU a.natAbs (by omega);have e : Lib.atoiAll (45 :: Lib.decDigits a.natAbs) = .ok a := by
   rw [Lib.atoiAll_minus, hm, Lib.signed];rw [if_neg (by omega)]
   congr 1
   omega
  rw [zlq, e]
 ·rename_i hn;have hm := zgU a.toNat (by omega);have e : Lib.atoiAll (Lib.decDigits a.toNat) = .ok a := by
   cases hd : Lib.decDigits a.toNat with
   | nil => exact absurd hd (zg0 _)
   | cons c r =>
    have hc := zmc _ hd;simp only [zbg, Bool.and_eq_true, decide_eq_true_eq] at hc;rw [Lib.atoiAll_plain c r (by omega) (by omega), <- hd, hm, Lib.signless];rw [if_neg (by omega)]
    congr 1
    omega
  rw [zlq, e]
def zfR (x : Ins) : W8 := if x.op = 0 \/ x.op = 12 \/ x.op = 13 then 32 :: Lib.itoa x.a else if x.op = 1 then 32 :: x.s else []
theorem ziW (x : Ins) : zfr x = (zd8 x.op ++ zfR x) ++ [10] := rfl
theorem zqk : ∀ n : Nat, n < 15 -> zjJ wordsL (wordsL.getD n []) 0 = n /\ (32 : UInt8) ∉ wordsL.getD n [] /\ (10 : UInt8) ∉ wordsL.getD n [] := by decide
theorem zqM {s : W8} (h : zf8 s = true) : (10 : UInt8) ∉ s := fun hm => by
 simp only [zf8, Bool.and_eq_true] at h;have h := h.1;cases s with
 | nil => cases hm
 | cons c r =>
  simp only [zii, Bool.and_eq_true, decide_eq_true_eq] at h;have := zkr h.2 10 hm;simp [zdM, zbg] at this
theorem zpq (a : Int) : (10 : UInt8) ∉ Lib.itoa a := fun hm => by
 have hd : ∀ n, (10 : UInt8) ∉ Lib.decDigits n := fun n h => by
  have := zel n 10 h;simp [zbg] at this
 unfold Lib.itoa at hm;split at hm
 ·simp at hm; exact hd _ hm
 ·exact hd _ hm
theorem zps {x : Ins} {i n : Nat} (h : zdx x i n = true) (hn : n <= 1099511627776) : zl3 (zd8 x.op ++ zfR x) = x /\ (10 : UInt8) ∉ zd8 x.op ++ zfR x := by
 obtain ⟨op, a, s⟩ := x;have hw : ∀ o : Int, 0 <= o -> o < 15 -> zjJ wordsL (zd8 o) 0 = o /\ (32 : UInt8) ∉ zd8 o /\ (10 : UInt8) ∉ zd8 o := fun o h0 h1 => by
  have := zqk o.toNat (by omega);unfold zd8;refine ⟨?_, this.2⟩;rw [this.1];omega
 unfold zdx at h;simp only at h;split at h
 ·rename_i e;subst e;simp at h;obtain ⟨⟨rfl, h1⟩, h2⟩ := h;obtain ⟨w1, w2, w3⟩ := hw 0 (by omega) (by omega);have et : zfR ⟨0, a, []⟩ = 32 :: Lib.itoa a := by simp [zfR]
  refine ⟨?_, ?_⟩
  ·rw [et];unfold zl3;rw [zli _ w2];simp only;rw [w1, if_neg (by omega), zje h1 h2]
  ·rw [et]; simp [w3, zpq]
 split at h
 ·rename_i e;subst e;simp at h;obtain ⟨rfl, h2⟩ := h;obtain ⟨w1, w2, w3⟩ := hw 1 (by omega) (by omega);have et : zfR ⟨1, 0, s⟩ = 32 :: s := by simp [zfR]
  refine ⟨?_, ?_⟩
  ·rw [et];unfold zl3;rw [zli _ w2];simp only;rw [w1, if_pos rfl]
  ·rw [et]; simp [w3, zqM h2]
 split at h
 ·rename_i e1 e2 e;simp at h;obtain ⟨⟨rfl, h1⟩, h2⟩ := h;obtain ⟨w1, w2, w3⟩ := hw op (by omega) (by omega);have et : zfR ⟨op, a, []⟩ = 32 :: Lib.itoa a := by simp only [zfR]; rw [if_pos (by omega)]
  refine ⟨?_, ?_⟩
  ·rw [et];unfold zl3;rw [zli _ w2];simp only;rw [w1, if_neg (by omega), zje (by omega) (by omega)]
  ·rw [et]; simp [w3, zpq]
 ·rename_i e1 e2 e3;simp at h;obtain ⟨⟨⟨rfl, rfl⟩, h1⟩, h2⟩ := h;obtain ⟨w1, w2, w3⟩ := hw op (by omega) (by omega);have et : zfR ⟨op, 0, []⟩ = [] := by simp only [zfR]; rw [if_neg (by omega), if_neg (by omega)]
  refine ⟨?_, ?_⟩
  ·rw [et, List.append_nil];unfold zl3;rw [zmd w2];simp only;rw [w1, if_neg (by omega)];rfl
  ·rw [et]; simpa using w3
theorem znD {c : UInt8} {p : W8} (q : W8) (h : c ∉ p) : zbV c (p ++ c :: q) = p :: zbV c q := by rw [zeb, zli q h]
theorem znC {c : UInt8} {p : W8} (h : c ∉ p) : zbV c p = [p] := by rw [zeb, zmd h]
theorem zhI : ∀ (l : Code), l ≠ [] -> (∀ x ∈ l, zl3 (zd8 x.op ++ zfR x) = x /\ (10 : UInt8) ∉ zd8 x.op ++ zfR x) -> ∃ t, zdu l = t ++ [10] /\ (zbV 10 t).map zl3 = l
 | [], h, _ => absurd rfl h
 | [x], _, h => by
  obtain ⟨h1, h2⟩ := h x (by simp);exact ⟨zd8 x.op ++ zfR x, by simp [zdu, ziW], by rw [znC h2]; simp [h1]⟩
 | x :: y :: r, _, h => by
  obtain ⟨h1, h2⟩ := h x (by simp);obtain ⟨t, h3, h4⟩ := zhI (y :: r) (by simp) (fun z hz => h z (by simp [List.mem_cons.1 hz]));refine ⟨(zd8 x.op ++ zfR x) ++ 10 :: t, ?_, ?_⟩
  ·have : zdu (x :: y :: r) = zfr x ++ zdu (y :: r) := by simp [zdu]
   rw [this, h3, ziW];simp
  ·rw [znD _ h2, List.map_cons, h1, h4]
theorem zhA {l : Code} (h : zb8 l = true) : 0 < l.length /\ l.length <= 2000 /\ ∀ i x, l[i]? = some x -> zdx x i l.length = true := by
 simp only [zb8, Bool.and_eq_true, decide_eq_true_eq] at h;exact ⟨h.1.1.1, h.1.1.2, fun i x hx => zfG h.1.2 hx⟩
theorem znE {l : Code} (h : zb8 l = true) : zd6 (zdu l) = l := by
 obtain ⟨h1, h2, h3⟩ := zhA h;obtain ⟨t, h4, h5⟩ := zhI l (fun e => by rw [e] at h1; simp at h1) (fun x hx => by
  obtain ⟨i, hi⟩ := List.getElem?_of_mem hx;exact zps (h3 i x hi) (by omega))
 unfold zd6;rw [h4, zqt, h5]
theorem zoP {l : Code} (h : zb8 l = true) : zjt (zdu l) = (l, 0) := by
 unfold zjt;rw [znE h, if_pos ⟨h, rfl⟩]
end Go.Proofs.YtkdhmbhbbciedaaGreatDoor
namespace Go.Proofs.YtkdhmbhbbciedaaGreatDoor
open Go Go.VL Go.Shelf Go.RowKit
theorem zjI (s : W8) (c : UInt8) : Fun Tryz.prog 145 [.u (.str s), .u (.int .u8 c.toNat)] (· = .u (.int .i64 (Lib.indexByte s c))) :=
 Fun.zqg fun k own w vs hsat hrep => by
  obtain ⟨v, u, rfl, hv, hu⟩ := zqq hrep;have hv := zeC hv;have hu := zb1 hu;subst hv hu;refine ⟨_, .int _ _, (Tryz.stringslite_IndexByte ⟨s.toArray⟩ c.toNat w).mono ?_⟩;rintro e w' ⟨h1, rfl⟩;refine ⟨?_, Below.refl _ _⟩;rw [h1];simp
end Go.Proofs.YtkdhmbhbbciedaaGreatDoor
namespace Go.Proofs.YtkdhmbhbbciedaaGreatDoor
open Go Go.VL
def zkX (c : UInt8) (s : W8) : W8 := (zbV c s).getLast (zhH s)
def ziD (c : UInt8) (s : W8) : List (Nat × Ob) := [(1, .box [.u (.str s)]), (2, .box [.u (.str [c])]), (3, .box [.u (.int .i64 0)])]
theorem znR {c : UInt8} {s p q : W8} (h : zg1 c s = some (p, q)) : zkX c s = zkX c q := by
 unfold zkX;have := zeb (c := c) s;rw [h] at this;simp only [this];rw [List.getLast_cons (zhH q)]
theorem znS {c : UInt8} {s : W8} (h : zg1 c s = none) : zkX c s = s := by
 unfold zkX;have := zeb (c := c) s;rw [h] at this;simp only [this];rfl
end Go.Proofs.YtkdhmbhbbciedaaGreatDoor
namespace Go.Proofs.YtkdhmbhbbciedaaGreatDoor
open Go Go.VL Go.Shelf Go.RowKit
theorem Fun.ofB {P : Program} {f : FuncId} {ds : List D} {post : D -> Prop} (h : ∀ (k : Kr) (own : Nat -> Prop) (w : World) (vs : Array Value), Sat k own [] w -> RepL k ds vs ->
  Calls P f vs w fun e w' => (∃ v d, e = .returned v /\ Rep k d v /\ za7 d = true /\ post d) /\ Below w.heap.size w w') : Fun P f ds post := by
 intro k own w vs hsat hhdr hown hrep;refine (h k own w vs hsat hrep).mono ?_;rintro e w' ⟨⟨v, d, rfl, hv, hpd, hpo⟩, hb⟩;refine ⟨v, d, [], 0, k, rfl, ⟨.refl _, fun i hi => hhdr i hi, fun _ _ _ e => .inl e, hown, hb.os, hb.tape, hb.output, hb.size, fun x hx => hb.block x ?_⟩, ⟨fun x o v hm => ?_, fun j ob hj => by simp [getK] at hj, fun x y ox oy g g' b hx => by simp [getK] at hx⟩, hhdr, Nat.le_refl _, hv, hpd, hpo⟩
 ·rcases Nat.lt_or_ge x w.heap.size with h | h
  ·exact h
  ·exact absurd (hown x h) hx
 ·rw [zfn (hb.block x (hsat.memLt hm))];exact hsat.mem x o v hm
theorem zsd {k : Kr} {own obs} {w : World} (h : Sat k own obs w) {g : Nat} (hg : g ∈ zt3) : ∃ ev, w.cell? ⟨g, 0, none⟩ = some ev /\ (ev = .nilIface \/ ∃ te pe, ev = .iface te pe) := by
 obtain ⟨t, v, e⟩ := k.glob.ifc g hg;exact ⟨_, h.cell e, .inr ⟨t, v, rfl⟩⟩
theorem zrG (s : W8) (hl : s.length <= 140737488355328) : Fun Tryz.prog 45 [.u (.str s)] (fun d => ∃ v, d = .tup [.u (.int .i64 (zlq s)), .u (.oth v)]) :=
 Fun.ofB fun k own w vs hsat hrep => by
  obtain ⟨v, rfl, hv⟩ := zhJ hrep;have hv := zeC hv;subst hv;have tup : ∀ (n : Int) (u : Value), Rep k (.tup [.u (.int .i64 n), .u (.oth u)]) (.tuple #[.int .i64 n, u]) := fun n u => .tup _ [_, _] rfl fun j d hj => by
   match j, hj with
   | 0, hj => cases hj; exact .u _ _ (.int _ _)
   | 1, hj => cases hj; exact .u _ _ (.oth _)
  have hsz : (⟨s.toArray⟩ : ByteArray).size <= 281474976710656 := by
   show s.toArray.size <= _;simp; omega
  unfold zlq;cases ha : Lib.atoiAll s with
  | ok n =>
   refine (Tryz.strconv_Atoi_ok ⟨s.toArray⟩ (by omega) n (by simpa using ha) w).mono ?_;rintro e w' ⟨rfl, h2⟩;refine ⟨⟨_, _, rfl, tup n .nilIface, by simp [za7], _, rfl⟩, ?_⟩;rcases h2 with rfl | ⟨t, rfl⟩
   ·exact Below.refl _ _
   ·exact Lib.bytesWorld_below w _ t
  | range =>
   obtain ⟨ev, h1, h2⟩ := zsd hsat (g := 3) (by simp [zt3]);refine (Tryz.strconv_Atoi_range ⟨s.toArray⟩ hsz (by simpa using ha) ev w h1 h2).mono ?_;rintro e w' ⟨N, rfl, _, _, hb⟩;refine ⟨⟨_, _, rfl, tup (Lib.atoiSat s) _, by simp [za7], _, rfl⟩, hb⟩
  | _ =>
   obtain ⟨ev, h1, h2⟩ := zsd hsat (g := 2) (by simp [zt3]);refine (Tryz.strconv_Atoi_syntax ⟨s.toArray⟩ hsz (by simp [ha]) ev w h1 h2).mono ?_;rintro e w' ⟨N, rfl, _, _, hb⟩;exact ⟨⟨_, _, rfl, tup 0 _, by simp [za7], _, rfl⟩, hb⟩
end Go.Proofs.YtkdhmbhbbciedaaGreatDoor
namespace Go.Proofs.YtkdhmbhbbciedaaGreatDoor
open Go Go.VL
theorem zme {lets : List Let} {e : Exp} (h : ¬ (zcZ lets e).2 = 1) : zbh lets e = true := by
 rw [zj5] at h;by_cases hr : zbh lets e = true
 ·exact hr
 ·rw [if_neg hr] at h; exact absurd rfl h
theorem zhl {lets : List Let} {e : Exp} (h : zbh lets e = true) : (zcZ lets e).2 = 0 \/ (zcZ lets e).2 = 6 := by
 rw [zj5, if_pos h];split <;> simp
theorem zn8 (lets : List Let) (e : Exp) : (zcZ lets e).2 = 0 \/ (zcZ lets e).2 = 1 \/ (zcZ lets e).2 = 6 := by
 rw [zj5];split
 ·split <;> simp
 ·simp
def ztW (lets : List Let) (op : Int) (a b : Exp) : Int := if op = 4 /\ (zd5 lets a = true \/ zd5 lets b = true) then 6 else if op <= 5 then op else op + 1
theorem zkw {lets : List Let} {op : Int} {a b : Exp} (h2 : 2 <= op) (h9 : op <= 9) (h : zbh lets (.mk op 0 0 [] [a, b]) = true) : zbh lets a = true /\ zbh lets b = true := by
 obtain ⟨q1, q2, q3⟩ := (zfk _ _).1 h;rw [za0] at q2;have e0 : ¬ op = 0 := by omega
 have e1 : ¬ op = 1 := by omega
 simp only [Exp.op, Exp.n, Exp.unit, Exp.s, Exp.args, e0, e1, if_false, Bool.and_eq_true] at q2;have q4 := q2.2;simp at q4;exact ⟨(zfk _ _).2 ⟨q1, zfj (by omega) q4.1, q3⟩, (zfk _ _).2 ⟨q1, zfj (by omega) q4.2, q3⟩⟩
theorem zmf {lets : List Let} {e : Exp} {c : Code} (h : zcZ lets e = (c, 0)) : zbh lets e = true /\ c = zeE lets (shS lets) e ++ [⟨14, 0, []⟩] /\ (zeE lets (shS lets) e).length < 2000 := by
 have hr := zme (lets := lets) (e := e) (by rw [h]; simp);rw [zj5, if_pos hr] at h;split at h
 ·cases h
 ·rename_i hl;exact ⟨hr, (congrArg Prod.fst h).symm, by omega⟩
theorem zsX {lets : List Let} {op : Int} {a b : Exp} {l m n : Code} (h2 : 2 <= op) (h9 : op <= 9) (ha : zcZ lets a = (l, 0)) (hb : zcZ lets b = (m, 0)) (hx : zcZ lets (.mk op 0 0 [] [a, b]) = (n, 0)) :
  ∃ A B : Nat, l.length = A + 1 /\ m.length = B + 1 /\ n.length = A + B + 2 /\ A + B <= 2000 /\ (∀ i, i < A -> ∃ y, l[i]? = some y /\ n[i]? = some y) /\
   (∀ i, i < B -> ∃ y, m[i]? = some y /\ n[A + i]? = some (mvI A y) /\ -1099511627776 <= y.a /\ y.a <= 1099511627776) /\ n[A + B]? = some ⟨ztW lets op a b, 0, []⟩ /\ n[A + B + 1]? = some ⟨14, 0, []⟩ := by
 obtain ⟨ra, rfl, la⟩ := zmf ha;have hrm := zsY hb;obtain ⟨rb, rfl, lb⟩ := zmf hb;obtain ⟨rx, rfl, lx⟩ := zmf hx;have e0 : ¬ op = 0 := by omega
 have e1 : ¬ op = 1 := by omega
 have e10 : ¬ op = 10 := by omega
 have e11 : ¬ op = 11 := by omega
 have e13 : ¬ op = 13 := by omega
 have hsh : ∀ y, zbh lets y = true -> shS lets lets.length y = zd5 lets y := fun y hy => by
  unfold shS zd5;rw [hy, List.take_length, Bool.true_and]
 have hpl : zaT (shS lets lets.length) op [a, b] = ztW lets op a b := by
  unfold zaT ztW;simp only [List.take_succ_cons, List.take_zero, List.any_cons, List.any_nil, Bool.or_false, Bool.or_eq_true, hsh a ra, hsh b rb];by_cases k2 : op = 2
  ·simp [k2]
  by_cases k3 : op = 3
  ·simp [k3]
  by_cases k5 : op = 5
  ·simp [k5]
  by_cases k6 : op = 6
  ·simp [k6]
  by_cases k7 : op = 7
  ·simp [k7]
  by_cases k8 : op = 8
  ·simp [k8]
  by_cases k9 : op = 9
  ·simp [k9]
  obtain rfl : op = 4 := by omega
  simp
 have hg : zeE lets (shS lets) (.mk op 0 0 [] [a, b]) = zeE lets (shS lets) a ++ mvC (zeE lets (shS lets) a).length (zeE lets (shS lets) b) ++ [⟨ztW lets op a b, 0, []⟩] := by
  unfold zeE;rw [zl7];simp only [Exp.op, Exp.args, e0, e1, e10, e11, e13, if_false, hpl];rw [zfV, zfV, zfV];simp [mvC]
 rw [hg] at lx ⊢;generalize zeE lets (shS lets) a = P at *;generalize zeE lets (shS lets) b = Q at *;simp only [List.length_append, zcV, List.length_cons, List.length_nil] at lx;obtain ⟨f1, f2, f3⟩ := zhA hrm;refine ⟨P.length, Q.length, by simp, by simp, by simp [zcV]; omega, by omega, fun i hi => ?_, fun i hi => ?_, ?_, ?_⟩
 ·refine ⟨P[i], ?_, ?_⟩
  ·rw [List.getElem?_append_left hi, List.getElem?_eq_getElem hi]
  ·rw [List.append_assoc, List.append_assoc, List.getElem?_append_left hi, List.getElem?_eq_getElem hi]
 ·have hx : (Q ++ [⟨14, 0, []⟩] : Code)[i]? = some Q[i] := by rw [List.getElem?_append_left hi, List.getElem?_eq_getElem hi]
  refine ⟨Q[i], hx, ?_, ?_⟩
  ·rw [List.append_assoc, List.append_assoc, List.getElem?_append_right (by omega), show P.length + i - P.length = i by omega, List.getElem?_append_left (by rw [zcV]; exact hi)];unfold mvC;rw [List.getElem?_map, List.getElem?_eq_getElem hi];rfl
  ·have hf := f3 i _ hx;generalize Q[i] = y at *;have hl2 : ((Q ++ [⟨14, 0, []⟩] : Code).length : Int) <= 2000 := by omega
   generalize ((Q ++ [⟨14, 0, []⟩] : Code).length) = N at *;unfold zdx at hf;split at hf
   ·simp at hf; omega
   split at hf
   ·simp at hf; omega
   split at hf
   ·simp at hf; omega
   ·simp at hf; omega
 ·rw [List.append_assoc, List.getElem?_append_right (by simp [zcV])];simp [zcV]
 ·rw [List.getElem?_append_right (by simp [zcV]; omega)];simp [zcV];rw [show P.length + Q.length + 1 - (P.length + (Q.length + 1)) = 0 by omega];rfl
end Go.Proofs.YtkdhmbhbbciedaaGreatDoor
namespace Go.Proofs.YtkdhmbhbbciedaaGreatDoor
open Go Go.VL
theorem zq0 {k : Nat} (hk : k < 8) : ∃ op : Int, 2 <= op /\ op <= 9 /\ ([[.u (.int .i64 2)], [.u (.int .i64 3)], [.u (.int .i64 4)], [.u (.int .i64 5)], [.u (.int .i64 6)], [.u (.int .i64 7)], [.u (.int .i64 8)], [.u (.int .i64 9)]] : List (List D))[k]? = some [.u (.int .i64 op)] /\
  ([[.u (.int .i64 2)], [.u (.int .i64 3)], [.u (.int .i64 4)], [.u (.int .i64 5)], [.u (.int .i64 7)], [.u (.int .i64 8)], [.u (.int .i64 9)], [.u (.int .i64 10)]] : List (List D))[k]? = some [.u (.int .i64 (if op <= 5 then op else op + 1))] := by
 refine ⟨k + 2, by omega, by omega, ?_⟩
 match k, hk with
 | 0, _ => exact ⟨rfl, rfl⟩
 | 1, _ => exact ⟨rfl, rfl⟩
 | 2, _ => exact ⟨rfl, rfl⟩
 | 3, _ => exact ⟨rfl, rfl⟩
 | 4, _ => exact ⟨rfl, rfl⟩
 | 5, _ => exact ⟨rfl, rfl⟩
 | 6, _ => exact ⟨rfl, rfl⟩
 | 7, _ => exact ⟨rfl, rfl⟩
theorem zoW {lets : List Let} {op : Int} {a b : Exp} (h2 : 2 <= op) (h9 : op <= 9) (h : ¬ ((zcZ lets a).2 = 0 /\ (zcZ lets b).2 = 0 /\ (zcZ lets (.mk op 0 0 [] [a, b])).2 = 0)) :
  ((zcZ lets a).2 = 0 /\ (zcZ lets b).2 = 0 /\ (zcZ lets (.mk op 0 0 [] [a, b])).2 = 6) \/ (zcZ lets (.mk op 0 0 [] [a, b])).2 = 1 \/ (zcZ lets a).2 = 6 \/ (zcZ lets b).2 = 6 := by
 rcases zn8 lets (.mk op 0 0 [] [a, b]) with g | g | g
 ·have hr := zkw h2 h9 (zme (lets := lets) (e := .mk op 0 0 [] [a, b]) (by omega));have := zhl hr.1;have := zhl hr.2;omega
 ·exact .inr (.inl g)
 ·have hr := zkw h2 h9 (zme (lets := lets) (e := .mk op 0 0 [] [a, b]) (by omega));have := zhl hr.1;have := zhl hr.2;omega
theorem zuN (o n u : Int) (s : List UInt8) (a : List Exp) : (Exp.mk o n u s a).op = o := rfl
theorem zyj (o n u : Int) (s : List UInt8) (a : List Exp) : (Exp.mk o n u s a).n = n := rfl
theorem zyh (o n u : Int) (s : List UInt8) (a : List Exp) : (Exp.mk o n u s a).unit = u := rfl
theorem zyi (o n u : Int) (s : List UInt8) (a : List Exp) : (Exp.mk o n u s a).s = s := rfl
theorem zyk (o n u : Int) (s : List UInt8) (a : List Exp) : (Exp.mk o n u s a).args = a := rfl
end Go.Proofs.YtkdhmbhbbciedaaGreatDoor
namespace Go.Proofs.YtkdhmbhbbciedaaGreatDoor
open Go Go.VL
attribute [local simp] HS za2 zcH zbP evPure opd uOf zaq St.put St.at getK binD binI binS binB nilD aggD ze4 zfg lookD lookR zbM rangeS Go.VL.nextD Go.VL.nextS zbR zfi zfh zeD zb0 mkV zaX zaE zaD zaC zcG zaA zaP za5 mapEff zdm zeo Key.kk shiftI arith unD convD zda loadD cellsAt fieldAddrD fieldD indexAddrD indexSlD arrAddr indexD sliceD cutD lenD minmaxD nilCheckD buildD fillD zbv zcI zec setAll zcA zd1 zbK zeT zbJ St.add zak zbd rowsOf zcU zcb zad zac zaa zaW zcy zaH entry zah zaj valD zbW zcu zeU zcN zcO zbC zbu zag zaM za4 delAll effD St.effS zb6 zaF zat zb7 zaG zav zbq zau zam zbr zb5 za1 zbm zaO zbl zai mkD zbi zbb zbf zag zbT D.ids Op.operands Call.operands zbc makeIfD makeFuncD typeAssertD zff zcX zcY zfb zbN IntKind.bits zcx List.take_of_length_le List.range_succ zcm zbF zcn zch zba zbw zby zci zbA zaU zbz zbx zfO zbE zck zaK zaw zcl zaL zay zbD zax zap zcq zcr zfN zab frzN frz1 zaR zaQ St.frz St.frzS frzS fv zbQ zb2 zb3 zaS zaz zan frz zcd zbU zbY zbZ za6 St.norm St.lp St.only zaY wkE wkO wkU Ob.under D.under zal zar zco zbG zcp h4s zdT zas za7 List.zipIdx_cons List.zipIdx_nil List.map_cons List.map_nil Nat.zero_add
attribute [local irreducible] V G H HD HD2 HD4 zgw RetX za3 Eff CallP CallV EndOK Fun Ret FinOK LoopI LoopW EndW HR vs2 RN Cnd H4
abbrev zpD (e : Exp) : D := .u (.agg e.row)
abbrev zqi (n : Int) : D := .u (.int .i64 n)
theorem zbo {i nx : Nat} (h : i < nx) : ¬ i = nx /\ ¬ nx = i /\ (∀ k, ¬ i = nx + k) /\ ∀ k, ¬ nx + k = i := ⟨by omega, by omega, fun k => by omega, fun k => by omega⟩
theorem zqn (l : List Tok) (p : Nat) (i nx : Nat) (hi : i < nx) (hp : p < l.length) (hl : TokOK l) :
  RetX Tryz.prog 183 [.ptr i 0] [(i, pOb l p)] nx (PPost l i nx zqi (znm l p)) := by
 have hne := zbo hi;have hh1 := fun nx' (h : nx <= nx') => zcB l p [99, 111, 105, 110, 115] i nx' (by omega) hp hl.len;have hh2 := fun nx' (h : nx <= nx') => zcB l p [100, 97, 121, 115] i nx' (by omega) hp hl.len;have hh3 := fun nx' (h : nx <= nx') => zcB l p [112, 101, 114] i nx' (by omega) hp hl.len;unfold znm;by_cases h1 : isB l p [99, 111, 105, 110, 115] = true
 ·simp only [h1, if_true] at hh1 ⊢;refine RetX.runW Tryz.func183 Tryz.ntmps183 rfl (by simp) fun Γ hn hpan => ?_
  repeat' (first
  | (refine zaf rfl ?_; simp [hne])
  | (refine CallP.ok1 (hh1 _ (by first | omega | (simp; done) | (simp; omega) | fail)) (by first | (simp [hne, zaa, getK, zab, zac]; done) | fail) (by rfl) (by first | assumption | (simp; done) | fail) (by rfl) (by simp) ?_; (try simp [hne]))
  | fail)
  (refine EndW.h Tryz.results183 ?_; simp)
  exact PPost.zeS rfl rfl (by first | rfl | simp [del])
 ·simp only [h1, Bool.false_eq_true, if_false] at hh1 ⊢;by_cases h2 : isB l p [100, 97, 121, 115] = true
  ·simp only [h2, if_true] at hh2 ⊢;refine RetX.runW Tryz.func183 Tryz.ntmps183 rfl (by simp) fun Γ hn hpan => ?_
   repeat' (first
  | (refine zaf rfl ?_; simp [hne])
  | (refine CallP.ok1 (hh1 _ (by first | omega | (simp; done) | (simp; omega) | fail)) (by first | (simp [hne, zaa, getK, zab, zac]; done) | fail) (by rfl) (by first | assumption | (simp; done) | fail) (by rfl) (by simp) ?_; (try simp [hne]))
  | (refine CallP.ok1 (hh2 _ (by first | omega | (simp; done) | (simp; omega) | fail)) (by first | (simp [hne, zaa, getK, zab, zac]; done) | fail) (by rfl) (by first | assumption | (simp; done) | fail) (by rfl) (by simp) ?_; (try simp [hne]))
  | fail)
   (refine EndW.h Tryz.results183 ?_; simp)
   exact PPost.zeS rfl rfl (by first | rfl | simp [del])
  ·simp only [h2, Bool.false_eq_true, if_false] at hh2 ⊢;by_cases h3 : isB l p [112, 101, 114] = true
   ·simp only [h3, if_true] at hh3 ⊢;have hw := fun nx' (h : nx <= nx') => zmz l (p + 1) [[109, 105, 108, 108, 101]] i nx' (by omega) (zcM hl h3) hl (by simp);cases hr : zdQ l (p + 1) [[109, 105, 108, 108, 101]] with
    | ok a q =>
     simp only [hr, List.map_cons, List.map_nil] at hw;refine RetX.runW Tryz.func183 Tryz.ntmps183 rfl (by simp) fun Γ hn hpan => ?_
     repeat' (first
  | (refine zaf rfl ?_; simp [hne])
  | (refine CallP.ok1 (hh1 _ (by first | omega | (simp; done) | (simp; omega) | fail)) (by first | (simp [hne, zaa, getK, zab, zac]; done) | fail) (by rfl) (by first | assumption | (simp; done) | fail) (by rfl) (by simp) ?_; (try simp [hne]))
  | (refine CallP.ok1 (hh2 _ (by first | omega | (simp; done) | (simp; omega) | fail)) (by first | (simp [hne, zaa, getK, zab, zac]; done) | fail) (by rfl) (by first | assumption | (simp; done) | fail) (by rfl) (by simp) ?_; (try simp [hne]))
  | (refine CallP.ok1 (hh3 _ (by first | omega | (simp; done) | (simp; omega) | fail)) (by first | (simp [hne, zaa, getK, zab, zac]; done) | fail) (by rfl) (by first | assumption | (simp; done) | fail) (by rfl) (by simp) ?_; (try simp [hne]))
  | (refine CallP.ok1 (hw _ (by first | omega | (simp; done) | (simp; omega) | fail)) (by first | (simp [hne, zaa, getK, zab, zac]; done) | fail) (by rfl) (by first | assumption | (simp; done) | fail) (by rfl) (by simp) ?_; (try simp [hne]))
  | (refine zbX (by first | rfl | fail) ?_; simp [hne, frzN, frz1, zaR, zaQ, St.frz, St.frzS, frzS, fv, zbQ, zb2, zb3, zaS, zaz, zan, del, frz, zcd])
  | fail)
     (refine EndW.wk { n := _, env := [(2, zqi 4)], obs := [(i, pOb l q)], next := nx } (Wk.cut rfl (by simp [hn]) (by simp [wkO, zaa, getK, zab, zac, Ob.under, D.under, zal, zar, hne, hi]) (by simp [wkU, zaY, zaa, getK, D.under, hne, hi]) (by simp [wkE, zaY, zaa, getK, hne, hi])) (EndW.here ?_); (first | (refine EndOK.fin (.inr rfl) ?_) | (refine EndOK.fin (.inl rfl) ?_)); simp [zdT, zas, Tryz.results183]; refine FinOK.here (by simp) ?_; try simp)
     exact PPost.zeS rfl rfl (by first | rfl | simp [del])
    | stop pos e =>
     simp only [hr, List.map_cons, List.map_nil] at hw;refine RetX.runW Tryz.func183 Tryz.ntmps183 rfl (by simp) fun Γ hn hpan => ?_
     repeat' (first
  | (refine zaf rfl ?_; simp [hne])
  | (refine CallP.ok1 (hh1 _ (by first | omega | (simp; done) | (simp; omega) | fail)) (by first | (simp [hne, zaa, getK, zab, zac]; done) | fail) (by rfl) (by first | assumption | (simp; done) | fail) (by rfl) (by simp) ?_; (try simp [hne]))
  | (refine CallP.ok1 (hh2 _ (by first | omega | (simp; done) | (simp; omega) | fail)) (by first | (simp [hne, zaa, getK, zab, zac]; done) | fail) (by rfl) (by first | assumption | (simp; done) | fail) (by rfl) (by simp) ?_; (try simp [hne]))
  | (refine CallP.ok1 (hh3 _ (by first | omega | (simp; done) | (simp; omega) | fail)) (by first | (simp [hne, zaa, getK, zab, zac]; done) | fail) (by rfl) (by first | assumption | (simp; done) | fail) (by rfl) (by simp) ?_; (try simp [hne]))
  | (refine CallP.zhq (hw _ (by first | omega | (simp; done) | (simp; omega) | fail)) (by first | (simp [hne, zaa, getK, zab, zac]; done) | fail) (by rfl) (by first | assumption | (simp; done) | fail) (by rfl) (by simp) ?_; rintro ob' ⟨q', rfl⟩; refine ⟨_, Wk.refl _, ?_⟩)
  | (refine zbX (by first | rfl | fail) ?_; simp [hne, frzN, frz1, zaR, zaQ, St.frz, St.frzS, frzS, fv, zbQ, zb2, zb3, zaS, zaz, zan, del, frz, zcd])
  | fail)
     (refine hpan _ _ (PanG.k ([(i, pOb l q')]) (nx) (by simp [hn, hi, zab, zac, zaa, getK] <;> omega) ?_); try simp)
     exact PPost.zcf rfl
   ·simp only [h3, Bool.false_eq_true, if_false] at hh3 ⊢;refine RetX.runW Tryz.func183 Tryz.ntmps183 rfl (by simp) fun Γ hn hpan => ?_
    repeat' (first
  | (refine zaf rfl ?_; simp [hne])
  | (refine CallP.ok1 (hh1 _ (by first | omega | (simp; done) | (simp; omega) | fail)) (by first | (simp [hne, zaa, getK, zab, zac]; done) | fail) (by rfl) (by first | assumption | (simp; done) | fail) (by rfl) (by simp) ?_; (try simp [hne]))
  | (refine CallP.ok1 (hh2 _ (by first | omega | (simp; done) | (simp; omega) | fail)) (by first | (simp [hne, zaa, getK, zab, zac]; done) | fail) (by rfl) (by first | assumption | (simp; done) | fail) (by rfl) (by simp) ?_; (try simp [hne]))
  | (refine CallP.ok1 (hh3 _ (by first | omega | (simp; done) | (simp; omega) | fail)) (by first | (simp [hne, zaa, getK, zab, zac]; done) | fail) (by rfl) (by first | assumption | (simp; done) | fail) (by rfl) (by simp) ?_; (try simp [hne]))
  | fail)
    (refine EndW.h Tryz.results183 ?_; simp)
    exact PPost.zeS rfl rfl (by first | rfl | simp [del])
theorem zi4 : zl6 0 = .u (.row (wordsL.map .str) 0) := by
 simp [zl6, globs, wordsL, uOf]
theorem zqT (x : Ins) (h0 : 0 <= x.op) (h1 : x.op < 15) (ha : -9223372036854775808 <= x.a) (hb : x.a <= 9223372036854775807) (hsl : x.s.length <= 1000000) : Fun Tryz.prog 50 [.u (.agg [.int .i64 x.op, .int .i64 x.a, .str x.s])] (· = .u (.str (zfr x))) := by
 have hgw := zi4;have hwl : wordsL.length = 15 := rfl;have hu : wordsL[x.op.toNat]? = some (zd8 x.op) := by
  rw [zd8, List.getD, List.getElem?_eq_getElem (by omega)]; rfl
 have hu' : ∀ h, wordsL[x.op.toNat]'h = zd8 x.op := fun h => (List.getElem?_eq_some_iff.1 hu).2;have hit := zq3 x.a ha hb;have hkn : ((x.op.toNat : Nat) : Int) = x.op := by omega
 have hs : ∃ W, W = zd8 x.op := ⟨_, rfl⟩;obtain ⟨W, hW⟩ := hs;unfold zfr;have hwl2 : ∀ w ∈ wordsL, w.length <= 5 := by decide
 have hWl : (zd8 x.op).length <= 5 := hwl2 _ (List.mem_of_getElem? hu);rw [<- hW] at hu hu' hWl ⊢;clear hW hwl2;have hil := Lib.itoa_length_le x.a ha hb;generalize Lib.itoa x.a = T at *;refine Fun.run Tryz.func50 Tryz.ntmps50 Tryz.results50 rfl (by simp) fun Γ hn => ?_; simp only [entry, List.zipIdx_cons, List.zipIdx_nil, List.map_cons, List.map_nil, Nat.zero_add];by_cases e0 : x.op = 0
 ·rw [e0] at hu' ⊢;have hwx : wordsL[0]'(by decide) = W := hu' (by decide);clear hu hu' hkn
  repeat' (first
  | (refine zaf rfl ?_; simp [hgw, hwl, hwx])
  | (refine And.intro (by omega) ?_)
  | (refine CallP.f2 rfl (hit) (by first | simp [hgw, hwl, hwx] <;> rfl | fail) ?_; simp [hgw, hwl, hwx])
  | fail)
  (refine Pst.of ?_; simp)
 by_cases e12 : x.op = 12
 ·rw [e12] at hu' ⊢;have hwx : wordsL[12]'(by decide) = W := hu' (by decide);clear hu hu' hkn
  repeat' (first
  | (refine zaf rfl ?_; simp [hgw, hwl, hwx])
  | (refine And.intro (by omega) ?_)
  | (refine CallP.f2 rfl (hit) (by first | simp [hgw, hwl, hwx] <;> rfl | fail) ?_; simp [hgw, hwl, hwx])
  | fail)
  (refine Pst.of ?_; simp)
 by_cases e13 : x.op = 13
 ·rw [e13] at hu' ⊢;have hwx : wordsL[13]'(by decide) = W := hu' (by decide);clear hu hu' hkn
  repeat' (first
  | (refine zaf rfl ?_; simp [hgw, hwl, hwx])
  | (refine And.intro (by omega) ?_)
  | (refine CallP.f2 rfl (hit) (by first | simp [hgw, hwl, hwx] <;> rfl | fail) ?_; simp [hgw, hwl, hwx])
  | fail)
  (refine Pst.of ?_; simp)
 by_cases e1 : x.op = 1
 ·rw [e1] at hu' ⊢;have hwx : wordsL[1]'(by decide) = W := hu' (by decide);clear hu hu' hkn
  repeat' (first
  | (refine zaf rfl ?_; simp [hgw, hwl, hwx])
  | (refine And.intro (by omega) ?_)
  | fail)
  (refine Pst.of ?_; simp)
 repeat' (first
  | (refine zaf rfl ?_; simp [hgw, hwl, hu, hu', h0, h1, hkn, e0, e1, e12, e13])
  | (refine And.intro (by omega) ?_)
  | fail)
 (refine Pst.of ?_; simp)
end Go.Proofs.YtkdhmbhbbciedaaGreatDoor
namespace Go.Proofs.YtkdhmbhbbciedaaGreatDoor
open Go Go.VL Go.Shelf Go.RowKit
attribute [local simp] HS za2 zcH zbP evPure opd uOf zaq St.put St.at getK binD binI binS binB nilD aggD ze4 zfg lookD lookR zbM rangeS Go.VL.nextD Go.VL.nextS zbR zfi zfh zeD zb0 mkV zaX zaE zaD zaC zcG zaA zaP za5 mapEff zdm zeo Key.kk shiftI arith unD convD zda loadD cellsAt fieldAddrD fieldD indexAddrD indexSlD arrAddr indexD sliceD cutD lenD minmaxD nilCheckD buildD fillD zbv zcI zec setAll zcA zd1 zbK zeT zbJ St.add zak zbd rowsOf zcU zcb zad zac zaa zaW zcy zaH entry zah zaj valD zbW zcu zeU zcN zcO zbC zbu zag zaM za4 delAll effD St.effS zb6 zaF zat zb7 zaG zav zbq zau zam zbr zb5 za1 zbm zaO zbl zai mkD zbi zbb zbf zag zbT D.ids Op.operands Call.operands zbc makeIfD makeFuncD typeAssertD zff zcX zcY zfb zbN IntKind.bits zcx List.take_of_length_le List.range_succ zcm zbF zcn zch zba zbw zby zci zbA zaU zbz zbx zfO zbE zck zaK zaw zcl zaL zay zbD zax zap zcq zcr zfN zab frzN frz1 zaR zaQ St.frz St.frzS frzS fv zbQ zb2 zb3 zaS zaz zan frz zcd zbU zbY zbZ za6 St.norm St.lp St.only zaY wkE wkO wkU Ob.under D.under zal zar zco zbG zcp h4s zdT zas za7 List.zipIdx_cons List.zipIdx_nil List.map_cons List.map_nil Nat.zero_add
attribute [local irreducible] V G H HD HD2 HD4 zgw RetX za3 Eff CallP CallV EndOK Fun Ret FinOK LoopI LoopW EndW HR vs2 RN Cnd H4
theorem zi2 (s : W8) (c : UInt8) : Fun Tryz.prog 119 [.u (.str s), .u (.str [c])] (· = .u (.int .i64 (Lib.indexByte s c))) := by
 have hib := zjI s c;by_cases he : s = [c]
 ·subst he;have e : Lib.indexByte [c] c = 0 := by simp [Lib.indexByte]
  rw [e];refine Fun.run Tryz.func119 Tryz.ntmps119 Tryz.results119 rfl (by simp) fun Γ hn => ?_
  repeat' (first
  | (refine zaf rfl ?_; simp)
  | fail)
  (refine Pst.of ?_; simp)
 ·generalize Lib.indexByte s c = n at hib ⊢;have he' : ¬ [c] = s := fun e => he e.symm;refine Fun.run Tryz.func119 Tryz.ntmps119 Tryz.results119 rfl (by simp) fun Γ hn => ?_
  repeat' (first
  | (refine zaf rfl ?_; simp [he', he])
  | (refine CallP.f2 rfl (hib) (by first | simp [he', he] <;> rfl | fail) ?_; simp [he', he])
  | fail)
  (refine Pst.of ?_; simp)
theorem zpt (s : W8) (c : UInt8) : Fun Tryz.prog 117 [.u (.str s), .u (.str [c])] (· = .u (.int .i64 (Lib.indexByte s c))) := by
 have hib := zi2 s c;refine Fun.run Tryz.func117 Tryz.ntmps117 Tryz.results117 rfl (by simp) fun Γ hn => ?_
 repeat' (first
  | (refine zaf rfl ?_; simp)
  | (refine CallP.f2 rfl (hib) (by first | simp <;> rfl | fail) ?_; simp)
  | fail)
 (refine Pst.of ?_; simp)
def zsW (c : UInt8) (s : W8) : D := match zg1 c s with
 | some p => .tup [.u (.str p.1), .u (.str p.2), .u (.bool true)]
 | none => .tup [.u (.str s), .u (.str []), .u (.bool false)]
theorem zrf (s : W8) (c : UInt8) (hl : s.length <= 140737488355328) : Fun Tryz.prog 77 [.u (.str s), .u (.str [c])] (· = zsW c s) := by
 have hib := zi2 s c;have hix := zh0 (c := c) s;unfold zsW;cases hc : zg1 c s with
 | none =>
  rw [hc] at hix;simp only at hix;rw [hix] at hib;refine Fun.run Tryz.func77 Tryz.ntmps77 Tryz.results77 rfl (by simp) fun Γ hn => ?_
  repeat' (first
  | (refine zaf rfl ?_; simp)
  | (refine CallP.f2 rfl (hib) (by first | simp <;> rfl | fail) ?_; simp)
  | fail)
  (refine Pst.of ?_; simp)
 | some pq =>
  obtain ⟨p, q⟩ := pq;rw [hc] at hix;simp only at hix ⊢;rw [hix] at hib;obtain ⟨rfl, _⟩ := zhk hc;simp at hl;have e1 : List.drop (p.length + 1) (p ++ c :: q) = q := by simp [List.drop_append]
  have e2 : List.take p.length (p ++ c :: q) = p := by simp
  have b1 : p.length <= (p ++ c :: q).length := by simp
  have b2 : p.length + 1 <= (p ++ c :: q).length := by simp
  refine Fun.run Tryz.func77 Tryz.ntmps77 Tryz.results77 rfl (by simp) fun Γ hn => ?_
  repeat' (first
  | (refine zaf rfl ?_; simp [e1, e2, b1, b2])
  | (refine And.intro (by omega) ?_)
  | (refine ⟨hC _ (by kernel_rfl), hk _ (zdb 8 _ _ _ ?_)⟩; clear hC hk C k; simp [e1, e2, b1, b2])
  | (refine zdX rfl (by kernel_rfl) (by first | (simp [hn]; done) | (simp [hn]; omega) | fail) fun C k hC hk => ?_; simp [e1, e2, b1, b2])
  | (refine CallP.f2 rfl (hib) (by first | simp [e1, e2, b1, b2] <;> rfl | fail) ?_; simp [e1, e2, b1, b2])
  | fail)
  (refine Pst.of ?_; simp)
theorem zsU (s : W8) (c : UInt8) (hl : s.length <= 140737488355328) : Fun Tryz.prog 43 [.u (.str s), .u (.str [c])] (· = zsW c s) := by
 have hib := zrf s c hl;unfold zsW at hib ⊢;cases hc : zg1 c s <;> rw [hc] at hib <;> simp only at hib ⊢
 all_goals
  refine Fun.run Tryz.func43 Tryz.ntmps43 Tryz.results43 rfl (by simp) fun Γ hn => ?_
  repeat' (first
  | (refine zaf rfl ?_; simp)
  | (refine CallP.f2 rfl (hib) (by first | simp <;> rfl | fail) ?_; simp)
  | fail)
  (refine Pst.of ?_; simp)
theorem zjM (s : W8) (hl : s.length <= 140737488355328) : Fun Tryz.prog 118 [.u (.str s), .u (.str [10])] (· = .u (.bool (decide (s.getLast? = some 10)))) := by
 rcases List.eq_nil_or_concat s with rfl | ⟨t, c, rfl⟩
 ·refine Fun.run Tryz.func118 Tryz.ntmps118 Tryz.results118 rfl (by simp) fun Γ hn => ?_
  repeat' (first
  | (refine zaf rfl ?_; simp)
  | fail)
  (refine Pst.of ?_; simp)
 ·rw [List.concat_eq_append] at hl ⊢;have e1 : List.drop t.length (t ++ [c]) = [c] := by simp
  have e2 : (t ++ [c]).getLast? = some c := by simp
  simp at hl;rw [e2];refine Fun.run Tryz.func118 Tryz.ntmps118 Tryz.results118 rfl (by simp) fun Γ hn => ?_
  repeat' (first
  | (refine Cnd.of (fun hc => ?_) (fun hc => ?_) <;> (try (exfalso; omega)) <;> (try simp [e1]))
  | (refine zaf rfl ?_; simp [e1])
  | (refine And.intro (by omega) ?_)
  | fail)
  (refine Pst.of ?_; simp)
theorem zoG (s : W8) (hl : s.length <= 140737488355328) : Fun Tryz.prog 76 [.u (.str s), .u (.str [10])] (· = .u (.str (zfQ s))) := by
 have hsf := zjM s hl;unfold zfQ;by_cases hb : s.getLast? = some 10
 ·rw [decide_eq_true hb] at hsf;rw [if_pos hb];obtain ⟨t, rfl⟩ : ∃ t, s = t ++ [10] := List.getLast?_eq_some_iff.1 hb;have e1 : List.take t.length (t ++ [10]) = t := by simp
  simp at hl;refine Fun.run Tryz.func76 Tryz.ntmps76 Tryz.results76 rfl (by simp) fun Γ hn => ?_
  repeat' (first
  | (refine zaf rfl ?_; simp [e1])
  | (refine And.intro (by omega) ?_)
  | (refine CallP.f2 rfl (hsf) (by first | simp [e1] <;> rfl | fail) ?_; simp [e1])
  | fail)
  (refine Pst.of ?_; simp)
 ·rw [decide_eq_false hb] at hsf;rw [if_neg hb];refine Fun.run Tryz.func76 Tryz.ntmps76 Tryz.results76 rfl (by simp) fun Γ hn => ?_
  repeat' (first
  | (refine zaf rfl ?_; simp)
  | (refine CallP.f2 rfl (hsf) (by first | simp <;> rfl | fail) ?_; simp)
  | fail)
  (refine Pst.of ?_; simp)
theorem zqs (s : W8) (hl : s.length <= 140737488355328) : Fun Tryz.prog 42 [.u (.str s), .u (.str [10])] (· = .u (.str (zfQ s))) := by
 have hsf := zoG s hl;refine Fun.run Tryz.func42 Tryz.ntmps42 Tryz.results42 rfl (by simp) fun Γ hn => ?_
 repeat' (first
  | (refine zaf rfl ?_; simp)
  | (refine CallP.f2 rfl (hsf) (by first | simp <;> rfl | fail) ?_; simp)
  | fail)
 (refine Pst.of ?_; simp)
end Go.Proofs.YtkdhmbhbbciedaaGreatDoor
namespace Go.Proofs.YtkdhmbhbbciedaaGreatDoor
open Go Go.VL
attribute [local simp] HS za2 zcH zbP evPure opd uOf zaq St.put St.at getK binD binI binS binB nilD aggD ze4 zfg lookD lookR zbM rangeS Go.VL.nextD Go.VL.nextS zbR zfi zfh zeD zb0 mkV zaX zaE zaD zaC zcG zaA zaP za5 mapEff zdm zeo Key.kk shiftI arith unD convD zda loadD cellsAt fieldAddrD fieldD indexAddrD indexSlD arrAddr indexD sliceD cutD lenD minmaxD nilCheckD buildD fillD zbv zcI zec setAll zcA zd1 zbK zeT zbJ St.add zak zbd rowsOf zcU zcb zad zac zaa zaW zcy zaH entry zah zaj valD zbW zcu zeU zcN zcO zbC zbu zag zaM za4 delAll effD St.effS zb6 zaF zat zb7 zaG zav zbq zau zam zbr zb5 za1 zbm zaO zbl zai mkD zbi zbb zbf zag zbT D.ids Op.operands Call.operands zbc makeIfD makeFuncD typeAssertD zff zcX zcY zfb zbN IntKind.bits zcx List.take_of_length_le List.range_succ zcm zbF zcn zch zba zbw zby zci zbA zaU zbz zbx zfO zbE zck zaK zaw zcl zaL zay zbD zax zap zcq zcr zfN zab frzN frz1 zaR zaQ St.frz St.frzS frzS fv zbQ zb2 zb3 zaS zaz zan frz zcd zbU zbY zbZ za6 St.norm St.lp St.only zaY wkE wkO wkU Ob.under D.under zal zar zco zbG zcp h4s zdT zas za7 List.zipIdx_cons List.zipIdx_nil List.map_cons List.map_nil Nat.zero_add
attribute [local irreducible] V G H HD HD2 HD4 zgw RetX za3 Eff CallP CallV EndOK Fun Ret FinOK LoopI LoopW EndW HR vs2 RN Cnd H4
theorem znq (c : UInt8) (s : W8) (hl : s.length <= 140737488355328) : zvK Tryz.prog 115 [.ptr 2 0, .ptr 1 0, .ptr 3 0] (ziD c s) (ziD c (zkX c s)) ((zbV c s).map fun t => .u (.str t)) := by
 intro k0 l L A N hdis hN hY;have hNle : ∀ i, N 0 <= N i := fun i => by
  induction i with
  | zero => omega
  | succ i ih => exact Nat.le_trans ih (hN i)
 simp only [ziD] at hdis ⊢;have hdis1 : ∀ i j ob, getK [(1, Ob.box [D.u (.str s)]), (2, Ob.box [D.u (.str [c])]), (3, Ob.box [D.u (.int .i64 0)])] j = some ob -> getK (A i) j = none := hdis;have hdis2 : ∀ (t : W8) i j ob, getK [(1, Ob.box [D.u (.str t)]), (2, Ob.box [D.u (.str [c])]), (3, Ob.box [D.u (.int .i64 0)])] j = some ob -> getK (A i) j = none := fun t i j ob h => by
  simp only [zaa] at h hdis1;by_cases h1 : j = 1
  ·exact hdis1 i j _ (if_pos h1)
  ·rw [if_neg h1] at h;exact hdis1 i j ob (by rw [if_neg h1]; exact h)
 generalize hls : zkX c s = ls;refine RetI.of_body Tryz.func115 Tryz.ntmps115 rfl (by simp) fun Γ hn hyc hpan => ?_; simp only [entry, List.zipIdx_cons, List.zipIdx_nil, List.map_cons, List.map_nil, Nat.zero_add];rw [zsJ 8, zq8 10]
 repeat' (first
  | (refine zgr rfl ?_; simp)
  | fail)
 refine ztl (α := { p : Nat × W8 // (zbV c s).drop p.1 = zbV c p.2 /\ p.2.length <= s.length /\ ls = zkX c p.2 }) [0, 1, 2, 3] (fun _ => []) (fun p => [(1, .box [.u (.str p.1.2)]), (2, .box [.u (.str [c])]), (3, .box [.u (.int .i64 0)])] ++ A p.1.1) (fun p => N p.1.1) (fun p => p.1.2.length) ⟨(0, s), by simp, by simp, hls.symm⟩ ?_ ?_
 ·exact (Wk.env rfl rfl rfl (by simp [wkE, St.lp, zaY, zaa, getK] <;> (try (intros; simp_all; done)) <;> (try (intros; omega)) <;> (try grind)))
 rintro ⟨⟨i, t⟩, h1, h2, h3⟩;simp;have hix := zpt t c;rw [zh0] at hix;have hpc := zeb (c := c) t;simp only at h1 h2 h3;have hN0 := hNle i;have hlt : i < (zbV c s).length := by
  rcases Nat.lt_or_ge i (zbV c s).length with h | h
  ·exact h
  ·rw [List.drop_eq_nil_of_le h] at h1;exact absurd h1.symm (zhH t)
 cases hc : zg1 c t with
 | none =>
  rw [hc] at hix hpc;simp only at hix hpc;have h3' : ls = t := h3.trans (znS hc);have hlen : (zbV c s).length = i + 1 := by
   have := congrArg List.length h1;rw [hpc] at this;simp at this;omega
  have hget : ((zbV c s).map fun t => D.u (.str t))[i]? = some (.u (.str t)) := by
   have : ((zbV c s).drop i)[0]? = some t := by rw [h1, hpc]; rfl
   rw [List.getElem?_drop] at this;simp only [Nat.add_zero] at this;rw [List.getElem?_map, this];rfl
  repeat' (first
  | (refine zgr rfl ?_; simp)
  | (refine CallP.f2 rfl (hix) (by first | simp <;> rfl | fail) ?_; simp)
  | fail)
  refine zng 2 hpan hyc rfl rfl ?_;simp;refine YS.of [(1, .box [.u (.str t)]), (2, .box [.u (.str [c])]), (3, .box [.u (.int .i64 0)])] (hY i _ hget) rfl (fun _ => rfl) (hdis2 t i) rfl (by simp) ?_;rintro d o n hn2 ⟨rfl, rfl, rfl⟩;simp
  repeat' (first | fail)
  (refine EndW.h Tryz.results115 ?_; simp)
  rw [hlen, h3'];exact ⟨hNle _, ⟨rfl, rfl⟩, rfl⟩
 | some pq =>
  obtain ⟨p, q⟩ := pq;rw [hc] at hix hpc;simp only at hix hpc;have hget : ((zbV c s).map fun t => D.u (.str t))[i]? = some (.u (.str p)) := by
   have : ((zbV c s).drop i)[0]? = some p := by rw [h1, hpc]; rfl
   rw [List.getElem?_drop] at this;simp only [Nat.add_zero] at this;rw [List.getElem?_map, this];rfl
  have hdrop : (zbV c s).drop (i + 1) = zbV c q := by
   have : ((zbV c s).drop i).drop 1 = zbV c q := by rw [h1, hpc]; rfl
   rw [List.drop_drop] at this;exact this
  have hlp := znR hc;obtain ⟨rfl, _⟩ := zhk hc;simp at h2;have e1 : List.drop (p.length + 1) (p ++ c :: q) = q := by simp [List.drop_append]
  have e2 : List.take p.length (p ++ c :: q) = p := by simp
  repeat' (first
  | (refine Cnd.of (fun hc => ?_) (fun hc => ?_) <;> (try (exfalso; omega)) <;> (try simp [e1, e2]))
  | (refine zgr rfl ?_; simp [e1, e2])
  | (refine And.intro (by omega) ?_)
  | (refine CallP.f2 rfl (hix) (by first | simp [e1, e2] <;> rfl | fail) ?_; simp [e1, e2])
  | fail)
  refine zp5 ?_;refine ztj 2 hpan hyc rfl rfl ?_;simp;refine YS.of [(1, .box [.u (.str (p ++ c :: q))]), (2, .box [.u (.str [c])]), (3, .box [.u (.int .i64 0)])] (hY i _ hget) rfl (fun _ => rfl) (hdis2 (p ++ c :: q) i) rfl (by simp) ?_;rintro d o n hn2 ⟨rfl, rfl, rfl⟩;simp
  repeat' (first
  | (refine zgr rfl ?_; simp [e1, e2])
  | (refine And.intro (by omega) ?_)
  | fail)
  refine LoopW.next ⟨(i + 1, q), hdrop, by simp; omega, h3.trans hlp⟩ (by simp; omega) ?_
  exact (Wk.env rfl rfl rfl (by simp [wkE, St.lp, zaY, zaa, getK] <;> (try (intros; simp_all; done)) <;> (try (intros; omega)) <;> (try grind)))
end Go.Proofs.YtkdhmbhbbciedaaGreatDoor
namespace Go.Proofs.YtkdhmbhbbciedaaGreatDoor
open Go Go.VL Go.Shelf Go.RowKit
attribute [local simp] HS za2 zcH zbP evPure opd uOf zaq St.put St.at getK binD binI binS binB nilD aggD ze4 zfg lookD lookR zbM rangeS Go.VL.nextD Go.VL.nextS zbR zfi zfh zeD zb0 mkV zaX zaE zaD zaC zcG zaA zaP za5 mapEff zdm zeo Key.kk shiftI arith unD convD zda loadD cellsAt fieldAddrD fieldD indexAddrD indexSlD arrAddr indexD sliceD cutD lenD minmaxD nilCheckD buildD fillD zbv zcI zec setAll zcA zd1 zbK zeT zbJ St.add zak zbd rowsOf zcU zcb zad zac zaa zaW zcy zaH entry zah zaj valD zbW zcu zeU zcN zcO zbC zbu zag zaM za4 delAll effD St.effS zb6 zaF zat zb7 zaG zav zbq zau zam zbr zb5 za1 zbm zaO zbl zai mkD zbi zbb zbf zag zbT D.ids Op.operands Call.operands zbc makeIfD makeFuncD typeAssertD zff zcX zcY zfb zbN IntKind.bits zcx List.take_of_length_le List.range_succ zcm zbF zcn zch zba zbw zby zci zbA zaU zbz zbx zfO zbE zck zaK zaw zcl zaL zay zbD zax zap zcq zcr zfN zab frzN frz1 zaR zaQ St.frz St.frzS frzS fv zbQ zb2 zb3 zaS zaz zan frz zcd zbU zbY zbZ za6 St.norm St.lp St.only zaY wkE wkO wkU Ob.under D.under zal zar zco zbG zcp h4s zdT zas za7 List.zipIdx_cons List.zipIdx_nil List.map_cons List.map_nil Nat.zero_add
attribute [local irreducible] V G H HD HD2 HD4 zgw RetX za3 Eff CallP CallV EndOK Fun Ret FinOK LoopI LoopW EndW HR vs2 RN Cnd H4
theorem zjq (s : W8) (c : UInt8) : Ret Tryz.prog 75 [.u (.str s), .u (.str [c]), .u (.int .i64 0)] [] 1
  (fun d o n => d = .fnc (.func 115) [.ptr 2 0, .ptr 1 0, .ptr 3 0] /\ o = [(3, .box [.u (.int .i64 0)]), (2, .box [.u (.str [c])]), (1, .box [.u (.str s)])] /\ n = 4) := by
 refine Ret.runW Tryz.func75 Tryz.ntmps75 rfl (by simp) fun Γ hn => ?_
 repeat' (first
  | (refine zaf rfl ?_; simp)
  | fail)
 (refine EndW.h Tryz.results75 ?_; simp)
theorem zkp (s : W8) (c : UInt8) : Ret Tryz.prog 41 [.u (.str s), .u (.str [c])] [] 1
  (fun d o n => d = .fnc (.func 115) [.ptr 2 0, .ptr 1 0, .ptr 3 0] /\ o = [(3, .box [.u (.int .i64 0)]), (2, .box [.u (.str [c])]), (1, .box [.u (.str s)])] /\ n = 4) := by
 have h1 := zjq s c;have hca : zae Tryz.prog 75 = true := by kernel_rfl
 refine Ret.runW Tryz.func41 Tryz.ntmps41 rfl (by simp) fun Γ hn => ?_
 repeat' (first
  | (refine zaf rfl ?_; simp [hca])
  | (refine CallP.zvN (h1) (by rfl) (by first | assumption | simp) (by rfl) (by simp) ?_; rintro d o n' hn' ⟨rfl, rfl, rfl⟩; (try simp at hn'); (try simp [hca]))
  | fail)
 (refine EndW.h Tryz.results41 ?_; simp)
end Go.Proofs.YtkdhmbhbbciedaaGreatDoor
namespace Go.Proofs.YtkdhmbhbbciedaaGreatDoor
open Go Go.VL
attribute [local simp] HS za2 zcH zbP evPure opd uOf zaq St.put St.at getK binD binI binS binB nilD aggD ze4 zfg lookD lookR zbM rangeS Go.VL.nextD Go.VL.nextS zbR zfi zfh zeD zb0 mkV zaX zaE zaD zaC zcG zaA zaP za5 mapEff zdm zeo Key.kk shiftI arith unD convD zda loadD cellsAt fieldAddrD fieldD indexAddrD indexSlD arrAddr indexD sliceD cutD lenD minmaxD nilCheckD buildD fillD zbv zcI zec setAll zcA zd1 zbK zeT zbJ St.add zak zbd rowsOf zcU zcb zad zac zaa zaW zcy zaH entry zah zaj valD zbW zcu zeU zcN zcO zbC zbu zag zaM za4 delAll effD St.effS zb6 zaF zat zb7 zaG zav zbq zau zam zbr zb5 za1 zbm zaO zbl zai mkD zbi zbb zbf zag zbT D.ids Op.operands Call.operands zbc makeIfD makeFuncD typeAssertD zff zcX zcY zfb zbN IntKind.bits zcx List.take_of_length_le List.range_succ zcm zbF zcn zch zba zbw zby zci zbA zaU zbz zbx zfO zbE zck zaK zaw zcl zaL zay zbD zax zap zcq zcr zfN zab frzN frz1 zaR zaQ St.frz St.frzS frzS fv zbQ zb2 zb3 zaS zaz zan frz zcd zbU zbY zbZ za6 St.norm St.lp St.only zaY wkE wkO wkU Ob.under D.under zal zar zco zbG zcp h4s zdT zas za7 List.zipIdx_cons List.zipIdx_nil List.map_cons List.map_nil Nat.zero_add
attribute [local irreducible] V G H HD HD2 HD4 zgw RetX za3 Eff CallP CallV EndOK Fun Ret FinOK LoopI LoopW EndW HR vs2 RN Cnd H4
abbrev zkO (e : Exp × Int) : D := .tup [.u (.agg e.1.row), .u (.int .i64 e.2)]
def zg8 (l : List Tok) (f : Nat) : Prop := ∀ (p : Nat) (form : Int) (i nx : Nat), i < nx -> p < l.length -> 4 * (l.length - p) + 3 <= f -> 0 <= form -> form <= 7 ->
 RetX Tryz.prog 106 [.ptr i 0, zqi form] [(i, pOb l p)] nx (PPost l i nx zpD (zfu l f p form))
def ztt (l : List Tok) (f : Nat) : Prop := ∀ (p : Nat) (form : Int) (i nx : Nat), i < nx -> p < l.length -> 4 * (l.length - p) + 2 <= f -> 0 <= form -> form <= 7 ->
 RetX Tryz.prog 139 [.ptr i 0, zqi form] [(i, pOb l p)] nx (PPost l i nx zkO (zcc l f p form))
def zjj (l : List Tok) (f : Nat) : Prop := ∀ (p : Nat) (i nx : Nat), i < nx -> p < l.length -> 4 * (l.length - p) + 1 <= f ->
 RetX Tryz.prog 170 [.ptr i 0] [(i, pOb l p)] nx (PPost l i nx zpD (zbj l f p))
theorem znl {l : List Tok} (hl : TokOK l) (w : List UInt8) {q i nx : Nat} (hi : i < nx) (hq : q < l.length) :
  RetX Tryz.prog 169 [.ptr i 0, .u (.sl [[.str w]])] [(i, pOb l q)] nx (PPost l i nx (fun _ => .tup []) (zdQ l q [w])) := zmz l q [w] i nx hi hq hl (by simp)
theorem zlL {l : List Tok} (hl : TokOK l) {f p : Nat} {t : Tok} (ht : l[p]? = some t) (hk : t.kind = 2) {i nx : Nat} (hi : i < nx) :
  RetX Tryz.prog 170 [.ptr i 0] [(i, pOb l p)] nx (PPost l i nx zpD (zbj l (f + 1) p)) := by
 have hne := zbo hi;have hp := (List.getElem?_eq_some_iff.1 ht).1;have hnx := zdG l p t ht hl.len;have hp2 := hl.fin p t ht (by omega);have hll := hl.len;rw [zbj, ht];simp only [hk, if_true] at hnx ⊢;have hu := fun nx' (h : nx <= nx') => zqn l (p + 1) i nx' (by omega) hp2 hl;cases hr : znm l (p + 1) with
 | ok a q =>
  simp only [hr] at hu;refine RetX.runW Tryz.func170 Tryz.ntmps170 rfl (by simp) fun Γ hn hpan => ?_
  repeat' (first
  | (refine zkf (fun nx' h' => hu nx' (by simp at h'; omega)) (by first | (simp [hne, zaa, getK, zab, zac, zad, zai]; done) | fail) (by rfl) (by first | assumption | simp) (by rfl) (by simp [D.under, Ob.under]) (by simp) ?_; (try simp [hne]))
  | (refine zaf rfl ?_; simp [hne])
  | (refine And.intro (by omega) ?_)
  | (refine ⟨hC _ (zdI [i] nx (by simp <;> omega) (by simp <;> omega) (by apply Exists.intro; apply And.intro; (focus (repeat' (first | exact KF.nil | exact KL.nil | apply KF.cons | apply KL.cons 0 rfl | apply KL.cons 1 rfl | apply KL.cons 2 rfl | apply KL.cons 3 rfl | apply KL.cons 4 rfl | apply KL.cons 5 rfl | apply KL.cons 6 rfl | apply KL.cons 7 rfl | apply KL.cons 8 rfl | apply KL.cons 9 rfl))); kernel_rfl)), hk _ (zdb 8 _ _ _ ?_)⟩; clear hC hk C k; simp [hne])
  | (refine zdX rfl (by kernel_rfl) (by first | (simp [hn]; done) | (simp [hn]; omega) | fail) fun C k hC hk => ?_; simp [hne])
  | (refine zb9 rfl ?_; simp [hne])
  | (refine CallP.f2 rfl (hnx) (by first | simp [hne] <;> rfl | fail) ?_; simp [hne])
  | fail)
  refine EndW.norm ?_;simp [St.norm, za6, zbU, zbY, zbZ, hne]
  (refine EndW.z ([(i, pOb l q)]) (N := nx) Tryz.results170 (by simp [hne, hi] <;> omega) ?_; simp [hne, hi])
  exact PPost.zeS rfl (by simp [Exp.row]) rfl
 | stop pos e =>
  simp only [hr] at hu;refine RetX.runW Tryz.func170 Tryz.ntmps170 rfl (by simp) fun Γ hn hpan => ?_
  repeat' (first
  | (refine zho (fun nx' h' => hu nx' (by simp at h'; omega)) (by first | (simp [hne, zaa, getK, zab, zac, zad, zai]; done) | fail) (by rfl) (by first | assumption | simp) (by rfl) (by simp) ?_ ?_; rintro env' ob' n' hn' ⟨q', rfl⟩; refine ⟨_, Wk.refl _, ?_⟩)
  | (refine zgt rfl (by simp) ?_; simp)
  | (refine zaf rfl ?_; simp [hne])
  | (refine And.intro (by omega) ?_)
  | (refine zhp (hC _ (zdI [i] nx (by simp <;> omega) (by simp <;> omega) (by apply Exists.intro; apply And.intro; (focus (repeat' (first | exact KF.nil | exact KL.nil | apply KF.cons | apply KL.cons 0 rfl | apply KL.cons 1 rfl | apply KL.cons 2 rfl | apply KL.cons 3 rfl | apply KL.cons 4 rfl | apply KL.cons 5 rfl | apply KL.cons 6 rfl | apply KL.cons 7 rfl | apply KL.cons 8 rfl | apply KL.cons 9 rfl))); kernel_rfl))) rfl; done)
  | (refine zdX rfl (by kernel_rfl) (by first | (simp [hn]; done) | (simp [hn]; omega) | fail) fun C k hC hk => ?_; simp [hne])
  | (refine CallP.f2 rfl (hnx) (by first | simp [hne] <;> rfl | fail) ?_; simp [hne])
  | fail)
  (refine hpan _ _ (PanG.k ([(i, pOb l q')]) (nx) (by simp [hn, hi, hne, zab, zac, zaa, getK] <;> omega) ?_); try simp)
  exact PPost.zcf (by simp [PR.bind])
theorem zkD {l : List Tok} (hl : TokOK l) {f p : Nat} {t : Tok} (ht : l[p]? = some t) (hk : ¬ t.kind = 2) (h1 : isB l p [116, 114, 117, 101] = true) {i nx : Nat} (hi : i < nx) :
  RetX Tryz.prog 170 [.ptr i 0] [(i, pOb l p)] nx (PPost l i nx zpD (zbj l (f + 1) p)) := by
 have hne := zbo hi;have hp := (List.getElem?_eq_some_iff.1 ht).1;have hnx := zdG l p t ht hl.len;have hll := hl.len;rw [zbj, ht];have hh1 := fun nx' (h : nx <= nx') => zcB l p [116, 114, 117, 101] i nx' (by omega) hp hl.len;simp only [hk, h1, if_false, if_true] at hh1 ⊢;refine RetX.runW Tryz.func170 Tryz.ntmps170 rfl (by simp) fun Γ hn hpan => ?_
 repeat' (first
  | (refine zaf rfl ?_; simp [hne, hk, del])
  | (refine CallP.f2 rfl (hnx) (by first | simp [hne, hk, del] <;> rfl | fail) ?_; simp [hne, hk, del])
  | (refine CallP.ok1 (hh1 _ (by first | omega | (simp; done) | (simp; omega) | fail)) (by first | (simp [hne, hk, del, zaa, getK, zab, zac]; done) | fail) (by rfl) (by first | assumption | (simp; done) | fail) (by rfl) (by simp) ?_; (try simp [hne, hk, del]))
  | fail)
 refine EndW.norm ?_;simp [St.norm, za6, zbU, zbY, zbZ, hne]
 (refine EndW.z ([(i, pOb l (p + 1))]) (N := nx) Tryz.results170 (by simp [hne, hi] <;> omega) ?_; simp [hne, hi])
 exact PPost.zeS rfl (by simp [Exp.row]) rfl
theorem zjv {l : List Tok} (hl : TokOK l) {f p : Nat} {t : Tok} (ht : l[p]? = some t) (hk : ¬ t.kind = 2) (h1 : isB l p [116, 114, 117, 101] = false) (h2 : isB l p [102, 97, 108, 115, 101] = true) {i nx : Nat} (hi : i < nx) :
  RetX Tryz.prog 170 [.ptr i 0] [(i, pOb l p)] nx (PPost l i nx zpD (zbj l (f + 1) p)) := by
 have hne := zbo hi;have hp := (List.getElem?_eq_some_iff.1 ht).1;have hnx := zdG l p t ht hl.len;have hll := hl.len;rw [zbj, ht];have hh1 := fun nx' (h : nx <= nx') => zcB l p [116, 114, 117, 101] i nx' (by omega) hp hl.len;have hh2 := fun nx' (h : nx <= nx') => zcB l p [102, 97, 108, 115, 101] i nx' (by omega) hp hl.len;simp only [hk, h1, h2, if_false, if_true, Bool.false_eq_true] at hh1 hh2 ⊢;refine RetX.runW Tryz.func170 Tryz.ntmps170 rfl (by simp) fun Γ hn hpan => ?_
 repeat' (first
  | (refine zaf rfl ?_; simp [hne, hk, del])
  | (refine CallP.f2 rfl (hnx) (by first | simp [hne, hk, del] <;> rfl | fail) ?_; simp [hne, hk, del])
  | (refine CallP.ok1 (hh1 _ (by first | omega | (simp; done) | (simp; omega) | fail)) (by first | (simp [hne, hk, del, zaa, getK, zab, zac]; done) | fail) (by rfl) (by first | assumption | (simp; done) | fail) (by rfl) (by simp) ?_; (try simp [hne, hk, del]))
  | (refine CallP.ok1 (hh2 _ (by first | omega | (simp; done) | (simp; omega) | fail)) (by first | (simp [hne, hk, del, zaa, getK, zab, zac]; done) | fail) (by rfl) (by first | assumption | (simp; done) | fail) (by rfl) (by simp) ?_; (try simp [hne, hk, del]))
  | fail)
 refine EndW.norm ?_;simp [St.norm, za6, zbU, zbY, zbZ, hne]
 (refine EndW.z ([(i, pOb l (p + 1))]) (N := nx) Tryz.results170 (by simp [hne, hi] <;> omega) ?_; simp [hne, hi])
 exact PPost.zeS rfl (by simp [Exp.row]) rfl
theorem zeN {l : List Tok} {F : FuncId} {r : PR Exp} {e : Exp} {q i nx : Nat} {ds : List D} {obs : List (Nat × Ob)} (h : RetX Tryz.prog F ds obs nx (PPost l i nx zpD r)) (hr : r = .ok e q) :
  RetX Tryz.prog F ds obs nx fun r o n => r = .val (.u (.agg [.int .i64 e.op, .int .i64 e.n, .int .i64 e.unit, .str e.s, .sl (e.args.map Exp.row)])) /\ o = [(i, pOb l q)] /\ n = nx := by
 subst hr;rw [<- Exp.row_eq];exact h
theorem zju {l : List Tok} (hl : TokOK l) {f p : Nat} (hE : zg8 l f) (hf : 4 * (l.length - p) <= f) {t : Tok} (ht : l[p]? = some t) (hk : ¬ t.kind = 2) (h1 : isB l p [116, 114, 117, 101] = false) (h2 : isB l p [102, 97, 108, 115, 101] = false)
  (h3 : isB l p [109, 105, 110] = false) (h4 : isB l p [109, 97, 120] = false) (h5 : isB l p [40] = true) {i nx : Nat} (hi : i < nx) :
  RetX Tryz.prog 170 [.ptr i 0] [(i, pOb l p)] nx (PPost l i nx zpD (zbj l (f + 1) p)) := by
 have hne := zbo hi;have hp := (List.getElem?_eq_some_iff.1 ht).1;have hnx := zdG l p t ht hl.len;have hll := hl.len;have hp2 := zcM hl h5;rw [zbj, ht];have hh1 := fun nx' (h : nx <= nx') => zcB l p [116, 114, 117, 101] i nx' (by omega) hp hl.len;have hh2 := fun nx' (h : nx <= nx') => zcB l p [102, 97, 108, 115, 101] i nx' (by omega) hp hl.len;have hm1 := zgX l p [109, 105, 110] hp hl.len;have hm2 := zgX l p [109, 97, 120] hp hl.len;have hh3 := fun nx' (h : nx <= nx') => zcB l p [40] i nx' (by omega) hp hl.len;simp only [hk, h1, h2, h3, h4, h5, if_false, if_true, Bool.false_eq_true, or_self] at hh1 hh2 hm1 hm2 hh3 ⊢;have he := fun nx' (h : nx <= nx') => hE (p + 1) 0 i nx' (by omega) hp2 (by omega) (by omega) (by omega);cases hr : zfu l f (p + 1) 0 with
 | stop pos e =>
  simp only [hr] at he;refine RetX.runW Tryz.func170 Tryz.ntmps170 rfl (by simp) fun Γ hn hpan => ?_
  repeat' (first
  | (refine zaf rfl ?_; simp [hne, hk, del, Nat.add_assoc])
  | ((first | refine CallP.f2 rfl (hnx) (by first | simp [hne, hk, del, Nat.add_assoc] <;> rfl | fail) ?_ | refine CallP.f2 rfl (hm1) (by first | simp [hne, hk, del, Nat.add_assoc] <;> rfl | fail) ?_ | refine CallP.f2 rfl (hm2) (by first | simp [hne, hk, del, Nat.add_assoc] <;> rfl | fail) ?_ | fail); simp [hne, hk, del, Nat.add_assoc])
  | (refine CallP.ok1 (hh1 _ (by first | omega | (simp; done) | (simp; omega) | fail)) (by first | (simp [hne, hk, del, Nat.add_assoc, zaa, getK, zab, zac]; done) | fail) (by rfl) (by first | assumption | (simp; done) | fail) (by rfl) (by simp) ?_; (try simp [hne, hk, del, Nat.add_assoc]))
  | (refine CallP.ok1 (hh2 _ (by first | omega | (simp; done) | (simp; omega) | fail)) (by first | (simp [hne, hk, del, Nat.add_assoc, zaa, getK, zab, zac]; done) | fail) (by rfl) (by first | assumption | (simp; done) | fail) (by rfl) (by simp) ?_; (try simp [hne, hk, del, Nat.add_assoc]))
  | (refine CallP.ok1 (hh3 _ (by first | omega | (simp; done) | (simp; omega) | fail)) (by first | (simp [hne, hk, del, Nat.add_assoc, zaa, getK, zab, zac]; done) | fail) (by rfl) (by first | assumption | (simp; done) | fail) (by rfl) (by simp) ?_; (try simp [hne, hk, del, Nat.add_assoc]))
  | (refine CallP.zhq (he _ (by first | omega | (simp; done) | (simp; omega) | fail)) (by first | (simp [hne, hk, del, Nat.add_assoc, zaa, getK, zab, zac]; done) | fail) (by rfl) (by first | assumption | (simp; done) | fail) (by rfl) (by simp) ?_; rintro ob' ⟨q', rfl⟩; refine ⟨_, Wk.refl _, ?_⟩)
  | fail)
  (refine hpan _ _ (PanG.k ([(i, pOb l q')]) (nx) (by simp [hn, hi, hne, zab, zac, zaa, getK] <;> omega) ?_); try simp)
  exact PPost.zcf (by simp [PR.bind, *])
 | ok e1 q1 =>
  have he := fun nx' h => zeN (he nx' h) hr;obtain ⟨g1, g2⟩ := (zdH hl f).1 _ _ _ _ hr hp2;have hw := fun nx' (h : nx <= nx') => znl hl [41] (q := q1) (i := i) (nx := nx') (by omega) g2;cases hr2 : zdQ l q1 [[41]] with
  | stop pos e =>
   simp only [hr2] at hw;refine RetX.runW Tryz.func170 Tryz.ntmps170 rfl (by simp) fun Γ hn hpan => ?_
   repeat' (first
  | (refine zaf rfl ?_; simp [hne, hk, del, Nat.add_assoc])
  | ((first | refine CallP.f2 rfl (hnx) (by first | simp [hne, hk, del, Nat.add_assoc] <;> rfl | fail) ?_ | refine CallP.f2 rfl (hm1) (by first | simp [hne, hk, del, Nat.add_assoc] <;> rfl | fail) ?_ | refine CallP.f2 rfl (hm2) (by first | simp [hne, hk, del, Nat.add_assoc] <;> rfl | fail) ?_ | fail); simp [hne, hk, del, Nat.add_assoc])
  | (refine CallP.ok1 (hh1 _ (by first | omega | (simp; done) | (simp; omega) | fail)) (by first | (simp [hne, hk, del, Nat.add_assoc, zaa, getK, zab, zac]; done) | fail) (by rfl) (by first | assumption | (simp; done) | fail) (by rfl) (by simp) ?_; (try simp [hne, hk, del, Nat.add_assoc]))
  | (refine CallP.ok1 (hh2 _ (by first | omega | (simp; done) | (simp; omega) | fail)) (by first | (simp [hne, hk, del, Nat.add_assoc, zaa, getK, zab, zac]; done) | fail) (by rfl) (by first | assumption | (simp; done) | fail) (by rfl) (by simp) ?_; (try simp [hne, hk, del, Nat.add_assoc]))
  | (refine CallP.ok1 (hh3 _ (by first | omega | (simp; done) | (simp; omega) | fail)) (by first | (simp [hne, hk, del, Nat.add_assoc, zaa, getK, zab, zac]; done) | fail) (by rfl) (by first | assumption | (simp; done) | fail) (by rfl) (by simp) ?_; (try simp [hne, hk, del, Nat.add_assoc]))
  | (refine CallP.ok1 (he _ (by first | omega | (simp; done) | (simp; omega) | fail)) (by first | (simp [hne, hk, del, Nat.add_assoc, zaa, getK, zab, zac]; done) | fail) (by rfl) (by first | assumption | (simp; done) | fail) (by rfl) (by simp) ?_; (try simp [hne, hk, del, Nat.add_assoc]))
  | (refine CallP.zhq (hw _ (by first | omega | (simp; done) | (simp; omega) | fail)) (by first | (simp [hne, hk, del, Nat.add_assoc, zaa, getK, zab, zac]; done) | fail) (by rfl) (by first | assumption | (simp; done) | fail) (by rfl) (by simp) ?_; rintro ob' ⟨q', rfl⟩; refine ⟨_, Wk.refl _, ?_⟩)
  | (refine zbX (by first | rfl | fail) ?_; simp [hne, hk, del, Nat.add_assoc, frzN, frz1, zaR, zaQ, St.frz, St.frzS, frzS, fv, zbQ, zb2, zb3, zaS, zaz, zan, del, frz, zcd])
  | fail)
   (refine hpan _ _ (PanG.k ([(i, pOb l q')]) (nx) (by simp [hn, hi, hne, zab, zac, zaa, getK] <;> omega) ?_); try simp)
   exact PPost.zcf (by simp [PR.bind, *])
  | ok u2 q =>
   simp only [hr2] at hw;refine RetX.runW Tryz.func170 Tryz.ntmps170 rfl (by simp) fun Γ hn hpan => ?_
   repeat' (first
  | (refine zaf rfl ?_; simp [hne, hk, del, Nat.add_assoc])
  | ((first | refine CallP.f2 rfl (hnx) (by first | simp [hne, hk, del, Nat.add_assoc] <;> rfl | fail) ?_ | refine CallP.f2 rfl (hm1) (by first | simp [hne, hk, del, Nat.add_assoc] <;> rfl | fail) ?_ | refine CallP.f2 rfl (hm2) (by first | simp [hne, hk, del, Nat.add_assoc] <;> rfl | fail) ?_ | fail); simp [hne, hk, del, Nat.add_assoc])
  | (refine CallP.ok1 (hh1 _ (by first | omega | (simp; done) | (simp; omega) | fail)) (by first | (simp [hne, hk, del, Nat.add_assoc, zaa, getK, zab, zac]; done) | fail) (by rfl) (by first | assumption | (simp; done) | fail) (by rfl) (by simp) ?_; (try simp [hne, hk, del, Nat.add_assoc]))
  | (refine CallP.ok1 (hh2 _ (by first | omega | (simp; done) | (simp; omega) | fail)) (by first | (simp [hne, hk, del, Nat.add_assoc, zaa, getK, zab, zac]; done) | fail) (by rfl) (by first | assumption | (simp; done) | fail) (by rfl) (by simp) ?_; (try simp [hne, hk, del, Nat.add_assoc]))
  | (refine CallP.ok1 (hh3 _ (by first | omega | (simp; done) | (simp; omega) | fail)) (by first | (simp [hne, hk, del, Nat.add_assoc, zaa, getK, zab, zac]; done) | fail) (by rfl) (by first | assumption | (simp; done) | fail) (by rfl) (by simp) ?_; (try simp [hne, hk, del, Nat.add_assoc]))
  | (refine CallP.ok1 (he _ (by first | omega | (simp; done) | (simp; omega) | fail)) (by first | (simp [hne, hk, del, Nat.add_assoc, zaa, getK, zab, zac]; done) | fail) (by rfl) (by first | assumption | (simp; done) | fail) (by rfl) (by simp) ?_; (try simp [hne, hk, del, Nat.add_assoc]))
  | (refine CallP.ok1 (hw _ (by first | omega | (simp; done) | (simp; omega) | fail)) (by first | (simp [hne, hk, del, Nat.add_assoc, zaa, getK, zab, zac]; done) | fail) (by rfl) (by first | assumption | (simp; done) | fail) (by rfl) (by simp) ?_; (try simp [hne, hk, del, Nat.add_assoc]))
  | (refine zbX (by first | rfl | fail) ?_; simp [hne, hk, del, Nat.add_assoc, frzN, frz1, zaR, zaQ, St.frz, St.frzS, frzS, fv, zbQ, zb2, zb3, zaS, zaz, zan, del, frz, zcd])
  | fail)
   refine EndW.norm ?_;simp [St.norm, za6, zbU, zbY, zbZ, hne]
   (refine EndW.z ([(i, pOb l q)]) (N := nx) Tryz.results170 (by simp [hne, hi] <;> omega) ?_; simp [hne, hi])
   exact PPost.zeS (by simp [PR.bind, *]; rfl) (by simp [Exp.row_eq]) rfl
theorem ziM {l : List Tok} (hl : TokOK l) {f p : Nat} (hE : zg8 l f) (hf : 4 * (l.length - p) <= f) {t : Tok} (ht : l[p]? = some t) (hk : ¬ t.kind = 2) (h1 : isB l p [116, 114, 117, 101] = false) (h2 : isB l p [102, 97, 108, 115, 101] = false)
  (hm : isB l p [109, 105, 110] = false /\ isB l p [109, 97, 120] = true \/ isB l p [109, 105, 110] = true /\ isB l p [109, 97, 120] = false) {i nx : Nat} (hi : i < nx) :
  RetX Tryz.prog 170 [.ptr i 0] [(i, pOb l p)] nx (PPost l i nx zpD (zbj l (f + 1) p)) := by
 have hne := zbo hi;have hp := (List.getElem?_eq_some_iff.1 ht).1;have hnx := zdG l p t ht hl.len;have hll := hl.len;have hp2 : p + 1 < l.length := hm.elim (fun h => zcM hl h.2) (fun h => zcM hl h.1);rw [zbj, ht];have hh1 := fun nx' (h : nx <= nx') => zcB l p [116, 114, 117, 101] i nx' (by omega) hp hl.len;have hh2 := fun nx' (h : nx <= nx') => zcB l p [102, 97, 108, 115, 101] i nx' (by omega) hp hl.len;have hm1 := zgX l p [109, 105, 110] hp hl.len;have hm2 := zgX l p [109, 97, 120] hp hl.len;rcases hm with ⟨h3, h4⟩ | ⟨h3, h4⟩
 all_goals
  simp only [hk, h1, h2, h3, h4, if_false, if_true, Bool.false_eq_true, or_true, true_or] at hh1 hh2 hm1 hm2 ⊢;have hw1 := fun nx' (h : nx <= nx') => znl hl [40] (q := (p + 1)) (i := i) (nx := nx') (by omega) hp2;cases hr0 : zdQ l (p + 1) [[40]] with
  | stop pos e =>
   simp only [hr0] at hw1;refine RetX.runW Tryz.func170 Tryz.ntmps170 rfl (by simp) fun Γ hn hpan => ?_
   repeat' (first
  | (refine zaf rfl ?_; simp [hne, hk, del, Nat.add_assoc])
  | (refine And.intro (by omega) ?_)
  | ((first | refine CallP.f2 rfl (hnx) (by first | simp [hne, hk, del, Nat.add_assoc] <;> rfl | fail) ?_ | refine CallP.f2 rfl (hm1) (by first | simp [hne, hk, del, Nat.add_assoc] <;> rfl | fail) ?_ | refine CallP.f2 rfl (hm2) (by first | simp [hne, hk, del, Nat.add_assoc] <;> rfl | fail) ?_ | fail); simp [hne, hk, del, Nat.add_assoc])
  | (refine CallP.ok1 (hh1 _ (by first | omega | (simp; done) | (simp; omega) | fail)) (by first | (simp [hne, hk, del, Nat.add_assoc, zaa, getK, zab, zac]; done) | fail) (by rfl) (by first | assumption | (simp; done) | fail) (by rfl) (by simp) ?_; (try simp [hne, hk, del, Nat.add_assoc]))
  | (refine CallP.ok1 (hh2 _ (by first | omega | (simp; done) | (simp; omega) | fail)) (by first | (simp [hne, hk, del, Nat.add_assoc, zaa, getK, zab, zac]; done) | fail) (by rfl) (by first | assumption | (simp; done) | fail) (by rfl) (by simp) ?_; (try simp [hne, hk, del, Nat.add_assoc]))
  | (refine CallP.zhq (hw1 _ (by first | omega | (simp; done) | (simp; omega) | fail)) (by first | (simp [hne, hk, del, Nat.add_assoc, zaa, getK, zab, zac]; done) | fail) (by rfl) (by first | assumption | (simp; done) | fail) (by rfl) (by simp) ?_; rintro ob' ⟨q', rfl⟩; refine ⟨_, Wk.refl _, ?_⟩)
  | (refine zbX (by first | rfl | fail) ?_; simp [hne, hk, del, Nat.add_assoc, frzN, frz1, zaR, zaQ, St.frz, St.frzS, frzS, fv, zbQ, zb2, zb3, zaS, zaz, zan, del, frz, zcd])
  | fail)
   (refine hpan _ _ (PanG.k ([(i, pOb l q')]) (nx) (by simp [hn, hi, hne, zab, zac, zaa, getK] <;> omega) ?_); try simp)
   exact PPost.zcf (by simp [PR.bind, *])
  | ok v0 q0 =>
   simp only [hr0] at hw1;obtain ⟨g0a, g0b⟩ := zcD hl _ hr0 hp2;have ha := fun nx' (h : nx <= nx') => hE q0 0 i nx' (by omega) g0b (by omega) (by omega) (by omega);cases hr1 : zfu l f q0 0 with
   | stop pos e =>
    simp only [hr1] at ha;refine RetX.runW Tryz.func170 Tryz.ntmps170 rfl (by simp) fun Γ hn hpan => ?_
    repeat' (first
  | (refine zaf rfl ?_; simp [hne, hk, del, Nat.add_assoc])
  | (refine And.intro (by omega) ?_)
  | ((first | refine CallP.f2 rfl (hnx) (by first | simp [hne, hk, del, Nat.add_assoc] <;> rfl | fail) ?_ | refine CallP.f2 rfl (hm1) (by first | simp [hne, hk, del, Nat.add_assoc] <;> rfl | fail) ?_ | refine CallP.f2 rfl (hm2) (by first | simp [hne, hk, del, Nat.add_assoc] <;> rfl | fail) ?_ | fail); simp [hne, hk, del, Nat.add_assoc])
  | (refine CallP.ok1 (hh1 _ (by first | omega | (simp; done) | (simp; omega) | fail)) (by first | (simp [hne, hk, del, Nat.add_assoc, zaa, getK, zab, zac]; done) | fail) (by rfl) (by first | assumption | (simp; done) | fail) (by rfl) (by simp) ?_; (try simp [hne, hk, del, Nat.add_assoc]))
  | (refine CallP.ok1 (hh2 _ (by first | omega | (simp; done) | (simp; omega) | fail)) (by first | (simp [hne, hk, del, Nat.add_assoc, zaa, getK, zab, zac]; done) | fail) (by rfl) (by first | assumption | (simp; done) | fail) (by rfl) (by simp) ?_; (try simp [hne, hk, del, Nat.add_assoc]))
  | (refine CallP.ok1 (hw1 _ (by first | omega | (simp; done) | (simp; omega) | fail)) (by first | (simp [hne, hk, del, Nat.add_assoc, zaa, getK, zab, zac]; done) | fail) (by rfl) (by first | assumption | (simp; done) | fail) (by rfl) (by simp) ?_; (try simp [hne, hk, del, Nat.add_assoc]))
  | (refine CallP.zhq (ha _ (by first | omega | (simp; done) | (simp; omega) | fail)) (by first | (simp [hne, hk, del, Nat.add_assoc, zaa, getK, zab, zac]; done) | fail) (by rfl) (by first | assumption | (simp; done) | fail) (by rfl) (by simp) ?_; rintro ob' ⟨q', rfl⟩; refine ⟨_, Wk.refl _, ?_⟩)
  | (refine zbX (by first | rfl | fail) ?_; simp [hne, hk, del, Nat.add_assoc, frzN, frz1, zaR, zaQ, St.frz, St.frzS, frzS, fv, zbQ, zb2, zb3, zaS, zaz, zan, del, frz, zcd])
  | fail)
    (refine hpan _ _ (PanG.k ([(i, pOb l q')]) (nx) (by simp [hn, hi, hne, zab, zac, zaa, getK] <;> omega) ?_); try simp)
    exact PPost.zcf (by simp [PR.bind, *])
   | ok v1 q1 =>
    have ha := fun nx' h => zeN (ha nx' h) hr1;obtain ⟨g1a, g1b⟩ := (zdH hl f).1 _ _ _ _ hr1 g0b;have hw2 := fun nx' (h : nx <= nx') => znl hl [44] (q := q1) (i := i) (nx := nx') (by omega) g1b;cases hr2 : zdQ l q1 [[44]] with
    | stop pos e =>
     simp only [hr2] at hw2;refine RetX.runW Tryz.func170 Tryz.ntmps170 rfl (by simp) fun Γ hn hpan => ?_
     repeat' (first
  | (refine zaf rfl ?_; simp [hne, hk, del, Nat.add_assoc])
  | (refine And.intro (by omega) ?_)
  | ((first | refine CallP.f2 rfl (hnx) (by first | simp [hne, hk, del, Nat.add_assoc] <;> rfl | fail) ?_ | refine CallP.f2 rfl (hm1) (by first | simp [hne, hk, del, Nat.add_assoc] <;> rfl | fail) ?_ | refine CallP.f2 rfl (hm2) (by first | simp [hne, hk, del, Nat.add_assoc] <;> rfl | fail) ?_ | fail); simp [hne, hk, del, Nat.add_assoc])
  | (refine CallP.ok1 (hh1 _ (by first | omega | (simp; done) | (simp; omega) | fail)) (by first | (simp [hne, hk, del, Nat.add_assoc, zaa, getK, zab, zac]; done) | fail) (by rfl) (by first | assumption | (simp; done) | fail) (by rfl) (by simp) ?_; (try simp [hne, hk, del, Nat.add_assoc]))
  | (refine CallP.ok1 (hh2 _ (by first | omega | (simp; done) | (simp; omega) | fail)) (by first | (simp [hne, hk, del, Nat.add_assoc, zaa, getK, zab, zac]; done) | fail) (by rfl) (by first | assumption | (simp; done) | fail) (by rfl) (by simp) ?_; (try simp [hne, hk, del, Nat.add_assoc]))
  | (refine CallP.ok1 (hw1 _ (by first | omega | (simp; done) | (simp; omega) | fail)) (by first | (simp [hne, hk, del, Nat.add_assoc, zaa, getK, zab, zac]; done) | fail) (by rfl) (by first | assumption | (simp; done) | fail) (by rfl) (by simp) ?_; (try simp [hne, hk, del, Nat.add_assoc]))
  | (refine CallP.ok1 (ha _ (by first | omega | (simp; done) | (simp; omega) | fail)) (by first | (simp [hne, hk, del, Nat.add_assoc, zaa, getK, zab, zac]; done) | fail) (by rfl) (by first | assumption | (simp; done) | fail) (by rfl) (by simp) ?_; (try simp [hne, hk, del, Nat.add_assoc]))
  | (refine CallP.zhq (hw2 _ (by first | omega | (simp; done) | (simp; omega) | fail)) (by first | (simp [hne, hk, del, Nat.add_assoc, zaa, getK, zab, zac]; done) | fail) (by rfl) (by first | assumption | (simp; done) | fail) (by rfl) (by simp) ?_; rintro ob' ⟨q', rfl⟩; refine ⟨_, Wk.refl _, ?_⟩)
  | (refine zbX (by first | rfl | fail) ?_; simp [hne, hk, del, Nat.add_assoc, frzN, frz1, zaR, zaQ, St.frz, St.frzS, frzS, fv, zbQ, zb2, zb3, zaS, zaz, zan, del, frz, zcd])
  | fail)
     (refine hpan _ _ (PanG.k ([(i, pOb l q')]) (nx) (by simp [hn, hi, hne, zab, zac, zaa, getK] <;> omega) ?_); try simp)
     exact PPost.zcf (by simp [PR.bind, *])
    | ok v2 q2 =>
     simp only [hr2] at hw2;obtain ⟨g2a, g2b⟩ := zcD hl _ hr2 g1b;have hb := fun nx' (h : nx <= nx') => hE q2 0 i nx' (by omega) g2b (by omega) (by omega) (by omega);cases hr3 : zfu l f q2 0 with
     | stop pos e =>
      simp only [hr3] at hb;refine RetX.runW Tryz.func170 Tryz.ntmps170 rfl (by simp) fun Γ hn hpan => ?_
      repeat' (first
  | (refine zaf rfl ?_; simp [hne, hk, del, Nat.add_assoc])
  | (refine And.intro (by omega) ?_)
  | ((first | refine CallP.f2 rfl (hnx) (by first | simp [hne, hk, del, Nat.add_assoc] <;> rfl | fail) ?_ | refine CallP.f2 rfl (hm1) (by first | simp [hne, hk, del, Nat.add_assoc] <;> rfl | fail) ?_ | refine CallP.f2 rfl (hm2) (by first | simp [hne, hk, del, Nat.add_assoc] <;> rfl | fail) ?_ | fail); simp [hne, hk, del, Nat.add_assoc])
  | (refine CallP.ok1 (hh1 _ (by first | omega | (simp; done) | (simp; omega) | fail)) (by first | (simp [hne, hk, del, Nat.add_assoc, zaa, getK, zab, zac]; done) | fail) (by rfl) (by first | assumption | (simp; done) | fail) (by rfl) (by simp) ?_; (try simp [hne, hk, del, Nat.add_assoc]))
  | (refine CallP.ok1 (hh2 _ (by first | omega | (simp; done) | (simp; omega) | fail)) (by first | (simp [hne, hk, del, Nat.add_assoc, zaa, getK, zab, zac]; done) | fail) (by rfl) (by first | assumption | (simp; done) | fail) (by rfl) (by simp) ?_; (try simp [hne, hk, del, Nat.add_assoc]))
  | (refine CallP.ok1 (hw1 _ (by first | omega | (simp; done) | (simp; omega) | fail)) (by first | (simp [hne, hk, del, Nat.add_assoc, zaa, getK, zab, zac]; done) | fail) (by rfl) (by first | assumption | (simp; done) | fail) (by rfl) (by simp) ?_; (try simp [hne, hk, del, Nat.add_assoc]))
  | (refine CallP.ok1 (ha _ (by first | omega | (simp; done) | (simp; omega) | fail)) (by first | (simp [hne, hk, del, Nat.add_assoc, zaa, getK, zab, zac]; done) | fail) (by rfl) (by first | assumption | (simp; done) | fail) (by rfl) (by simp) ?_; (try simp [hne, hk, del, Nat.add_assoc]))
  | (refine CallP.ok1 (hw2 _ (by first | omega | (simp; done) | (simp; omega) | fail)) (by first | (simp [hne, hk, del, Nat.add_assoc, zaa, getK, zab, zac]; done) | fail) (by rfl) (by first | assumption | (simp; done) | fail) (by rfl) (by simp) ?_; (try simp [hne, hk, del, Nat.add_assoc]))
  | (refine CallP.zhq (hb _ (by first | omega | (simp; done) | (simp; omega) | fail)) (by first | (simp [hne, hk, del, Nat.add_assoc, zaa, getK, zab, zac]; done) | fail) (by rfl) (by first | assumption | (simp; done) | fail) (by rfl) (by simp) ?_; rintro ob' ⟨q', rfl⟩; refine ⟨_, Wk.refl _, ?_⟩)
  | (refine zbX (by first | rfl | fail) ?_; simp [hne, hk, del, Nat.add_assoc, frzN, frz1, zaR, zaQ, St.frz, St.frzS, frzS, fv, zbQ, zb2, zb3, zaS, zaz, zan, del, frz, zcd])
  | fail)
      (refine hpan _ _ (PanG.k ([(i, pOb l q')]) (nx) (by simp [hn, hi, hne, zab, zac, zaa, getK] <;> omega) ?_); try simp)
      exact PPost.zcf (by simp [PR.bind, *])
     | ok v3 q3 =>
      have hb := fun nx' h => zeN (hb nx' h) hr3;obtain ⟨g3a, g3b⟩ := (zdH hl f).1 _ _ _ _ hr3 g2b;have hw3 := fun nx' (h : nx <= nx') => znl hl [41] (q := q3) (i := i) (nx := nx') (by omega) g3b;cases hr4 : zdQ l q3 [[41]] with
      | stop pos e =>
       simp only [hr4] at hw3;refine RetX.runW Tryz.func170 Tryz.ntmps170 rfl (by simp) fun Γ hn hpan => ?_
       repeat' (first
  | (refine zaf rfl ?_; simp [hne, hk, del, Nat.add_assoc])
  | (refine And.intro (by omega) ?_)
  | ((first | refine CallP.f2 rfl (hnx) (by first | simp [hne, hk, del, Nat.add_assoc] <;> rfl | fail) ?_ | refine CallP.f2 rfl (hm1) (by first | simp [hne, hk, del, Nat.add_assoc] <;> rfl | fail) ?_ | refine CallP.f2 rfl (hm2) (by first | simp [hne, hk, del, Nat.add_assoc] <;> rfl | fail) ?_ | fail); simp [hne, hk, del, Nat.add_assoc])
  | (refine CallP.ok1 (hh1 _ (by first | omega | (simp; done) | (simp; omega) | fail)) (by first | (simp [hne, hk, del, Nat.add_assoc, zaa, getK, zab, zac]; done) | fail) (by rfl) (by first | assumption | (simp; done) | fail) (by rfl) (by simp) ?_; (try simp [hne, hk, del, Nat.add_assoc]))
  | (refine CallP.ok1 (hh2 _ (by first | omega | (simp; done) | (simp; omega) | fail)) (by first | (simp [hne, hk, del, Nat.add_assoc, zaa, getK, zab, zac]; done) | fail) (by rfl) (by first | assumption | (simp; done) | fail) (by rfl) (by simp) ?_; (try simp [hne, hk, del, Nat.add_assoc]))
  | (refine CallP.ok1 (hw1 _ (by first | omega | (simp; done) | (simp; omega) | fail)) (by first | (simp [hne, hk, del, Nat.add_assoc, zaa, getK, zab, zac]; done) | fail) (by rfl) (by first | assumption | (simp; done) | fail) (by rfl) (by simp) ?_; (try simp [hne, hk, del, Nat.add_assoc]))
  | (refine CallP.ok1 (ha _ (by first | omega | (simp; done) | (simp; omega) | fail)) (by first | (simp [hne, hk, del, Nat.add_assoc, zaa, getK, zab, zac]; done) | fail) (by rfl) (by first | assumption | (simp; done) | fail) (by rfl) (by simp) ?_; (try simp [hne, hk, del, Nat.add_assoc]))
  | (refine CallP.ok1 (hw2 _ (by first | omega | (simp; done) | (simp; omega) | fail)) (by first | (simp [hne, hk, del, Nat.add_assoc, zaa, getK, zab, zac]; done) | fail) (by rfl) (by first | assumption | (simp; done) | fail) (by rfl) (by simp) ?_; (try simp [hne, hk, del, Nat.add_assoc]))
  | (refine CallP.ok1 (hb _ (by first | omega | (simp; done) | (simp; omega) | fail)) (by first | (simp [hne, hk, del, Nat.add_assoc, zaa, getK, zab, zac]; done) | fail) (by rfl) (by first | assumption | (simp; done) | fail) (by rfl) (by simp) ?_; (try simp [hne, hk, del, Nat.add_assoc]))
  | (refine CallP.zhq (hw3 _ (by first | omega | (simp; done) | (simp; omega) | fail)) (by first | (simp [hne, hk, del, Nat.add_assoc, zaa, getK, zab, zac]; done) | fail) (by rfl) (by first | assumption | (simp; done) | fail) (by rfl) (by simp) ?_; rintro ob' ⟨q', rfl⟩; refine ⟨_, Wk.refl _, ?_⟩)
  | (refine zbX (by first | rfl | fail) ?_; simp [hne, hk, del, Nat.add_assoc, frzN, frz1, zaR, zaQ, St.frz, St.frzS, frzS, fv, zbQ, zb2, zb3, zaS, zaz, zan, del, frz, zcd])
  | fail)
       (refine hpan _ _ (PanG.k ([(i, pOb l q')]) (nx) (by simp [hn, hi, hne, zab, zac, zaa, getK] <;> omega) ?_); try simp)
       exact PPost.zcf (by simp [PR.bind, *])
      | ok v4 q4 =>
       simp only [hr4] at hw3;obtain ⟨g4a, g4b⟩ := zcD hl _ hr4 g3b;refine RetX.runW Tryz.func170 Tryz.ntmps170 rfl (by simp) fun Γ hn hpan => ?_
       repeat' (first
  | (refine zaf rfl ?_; simp [hne, hk, del, Nat.add_assoc])
  | (refine And.intro (by omega) ?_)
  | ((first | refine CallP.f2 rfl (hnx) (by first | simp [hne, hk, del, Nat.add_assoc] <;> rfl | fail) ?_ | refine CallP.f2 rfl (hm1) (by first | simp [hne, hk, del, Nat.add_assoc] <;> rfl | fail) ?_ | refine CallP.f2 rfl (hm2) (by first | simp [hne, hk, del, Nat.add_assoc] <;> rfl | fail) ?_ | fail); simp [hne, hk, del, Nat.add_assoc])
  | (refine CallP.ok1 (hh1 _ (by first | omega | (simp; done) | (simp; omega) | fail)) (by first | (simp [hne, hk, del, Nat.add_assoc, zaa, getK, zab, zac]; done) | fail) (by rfl) (by first | assumption | (simp; done) | fail) (by rfl) (by simp) ?_; (try simp [hne, hk, del, Nat.add_assoc]))
  | (refine CallP.ok1 (hh2 _ (by first | omega | (simp; done) | (simp; omega) | fail)) (by first | (simp [hne, hk, del, Nat.add_assoc, zaa, getK, zab, zac]; done) | fail) (by rfl) (by first | assumption | (simp; done) | fail) (by rfl) (by simp) ?_; (try simp [hne, hk, del, Nat.add_assoc]))
  | (refine CallP.ok1 (hw1 _ (by first | omega | (simp; done) | (simp; omega) | fail)) (by first | (simp [hne, hk, del, Nat.add_assoc, zaa, getK, zab, zac]; done) | fail) (by rfl) (by first | assumption | (simp; done) | fail) (by rfl) (by simp) ?_; (try simp [hne, hk, del, Nat.add_assoc]))
  | (refine CallP.ok1 (ha _ (by first | omega | (simp; done) | (simp; omega) | fail)) (by first | (simp [hne, hk, del, Nat.add_assoc, zaa, getK, zab, zac]; done) | fail) (by rfl) (by first | assumption | (simp; done) | fail) (by rfl) (by simp) ?_; (try simp [hne, hk, del, Nat.add_assoc]))
  | (refine CallP.ok1 (hw2 _ (by first | omega | (simp; done) | (simp; omega) | fail)) (by first | (simp [hne, hk, del, Nat.add_assoc, zaa, getK, zab, zac]; done) | fail) (by rfl) (by first | assumption | (simp; done) | fail) (by rfl) (by simp) ?_; (try simp [hne, hk, del, Nat.add_assoc]))
  | (refine CallP.ok1 (hb _ (by first | omega | (simp; done) | (simp; omega) | fail)) (by first | (simp [hne, hk, del, Nat.add_assoc, zaa, getK, zab, zac]; done) | fail) (by rfl) (by first | assumption | (simp; done) | fail) (by rfl) (by simp) ?_; (try simp [hne, hk, del, Nat.add_assoc]))
  | (refine CallP.ok1 (hw3 _ (by first | omega | (simp; done) | (simp; omega) | fail)) (by first | (simp [hne, hk, del, Nat.add_assoc, zaa, getK, zab, zac]; done) | fail) (by rfl) (by first | assumption | (simp; done) | fail) (by rfl) (by simp) ?_; (try simp [hne, hk, del, Nat.add_assoc]))
  | (refine zbX (by first | rfl | fail) ?_; simp [hne, hk, del, Nat.add_assoc, frzN, frz1, zaR, zaQ, St.frz, St.frzS, frzS, fv, zbQ, zb2, zb3, zaS, zaz, zan, del, frz, zcd])
  | fail)
       (refine EndW.frzN 1 ?_; simp [del, hne, Nat.add_assoc])
       refine EndW.norm ?_;simp [St.norm, za6, zbU, zbY, zbZ, hne, Nat.add_assoc]
       (refine EndW.z ([(i, pOb l q4)]) (N := nx) Tryz.results170 (by simp [hne, hi] <;> omega) ?_; simp [hne, hi])
       exact PPost.zeS (by simp [PR.bind, *]; rfl) (by simp [Exp.row_eq, Exp.op, Exp.n, Exp.unit, Exp.s, Exp.args]) rfl
theorem zlN {l : List Tok} (hl : TokOK l) {f p : Nat} (hE : zg8 l f) (hf : 4 * (l.length - p) <= f) {t : Tok} (ht : l[p]? = some t) (hk : ¬ t.kind = 2) (h1 : isB l p [116, 114, 117, 101] = false) (h2 : isB l p [102, 97, 108, 115, 101] = false)
  (h3 : isB l p [109, 105, 110] = false) (h4 : isB l p [109, 97, 120] = true) {i nx : Nat} (hi : i < nx) :
  RetX Tryz.prog 170 [.ptr i 0] [(i, pOb l p)] nx (PPost l i nx zpD (zbj l (f + 1) p)) := ziM hl hE hf ht hk h1 h2 (.inl ⟨h3, h4⟩) hi
theorem zoT {l : List Tok} (hl : TokOK l) {f p : Nat} {form : Int} (hE : zg8 l f) (hp : p < l.length) (hf : 4 * (l.length - p) + 1 <= f)
  (hf0 : form = 0) (h1 : isB l p [105, 102] = true) {i nx : Nat} (hi : i < nx) :
  RetX Tryz.prog 139 [.ptr i 0, zqi form] [(i, pOb l p)] nx (PPost l i nx zkO (zcc l (f + 1) p form)) := by
 have hne := zbo hi;have hll := hl.len;rw [zcc];have hp2 := zcM hl h1;subst hf0;have hf0 : (0 : Int) = 0 := rfl;have hf3 : (0 : Int) <= 3 := by omega
 have hh1 := fun nx' (h : nx <= nx') => zcB l p [105, 102] i nx' (by omega) hp hl.len;simp only [h1, if_true] at hh1;rw [if_pos ⟨rfl, h1⟩];have ha := fun nx' (h : nx <= nx') => hE (p + 1) 0 i nx' (by omega) hp2 (by omega) (by omega) (by omega);cases hr0 : zfu l f (p + 1) 0 with
 | stop pos e =>
  simp only [hr0] at ha;refine RetX.runW Tryz.func139 Tryz.ntmps139 rfl (by simp) fun Γ hn hpan => ?_
  repeat' (first
  | (refine zaf rfl ?_; simp [hne, hf0, hf3, del, Nat.add_assoc])
  | (refine CallP.ok1 (hh1 _ (by first | omega | (simp; done) | (simp; omega) | fail)) (by first | (simp [hne, hf0, hf3, del, Nat.add_assoc, zaa, getK, zab, zac]; done) | fail) (by rfl) (by first | assumption | (simp; done) | fail) (by rfl) (by simp) ?_; (try simp [hne, hf0, hf3, del, Nat.add_assoc]))
  | (refine CallP.zhq (ha _ (by first | omega | (simp; done) | (simp; omega) | fail)) (by first | (simp [hne, hf0, hf3, del, Nat.add_assoc, zaa, getK, zab, zac]; done) | fail) (by rfl) (by first | assumption | (simp; done) | fail) (by rfl) (by simp) ?_; rintro ob' ⟨q', rfl⟩; refine ⟨_, Wk.refl _, ?_⟩)
  | fail)
  (refine hpan _ _ (PanG.k ([(i, pOb l q')]) (nx) (by simp [hn, hi, hne, zab, zac, zaa, getK] <;> omega) ?_); try simp)
  exact PPost.zcf (by simp [PR.bind, *])
 | ok v0 q0 =>
  have ha := fun nx' h => zeN (ha nx' h) hr0;obtain ⟨g0a, g0b⟩ := (zdH hl f).1 _ _ _ _ hr0 hp2;have hw1 := fun nx' (h : nx <= nx') => znl hl [116, 104, 101, 110] (q := q0) (i := i) (nx := nx') (by omega) g0b;cases hr1 : zdQ l q0 [[116, 104, 101, 110]] with
  | stop pos e =>
   simp only [hr1] at hw1;refine RetX.runW Tryz.func139 Tryz.ntmps139 rfl (by simp) fun Γ hn hpan => ?_
   repeat' (first
  | (refine zaf rfl ?_; simp [hne, hf0, hf3, del, Nat.add_assoc])
  | (refine CallP.ok1 (hh1 _ (by first | omega | (simp; done) | (simp; omega) | fail)) (by first | (simp [hne, hf0, hf3, del, Nat.add_assoc, zaa, getK, zab, zac]; done) | fail) (by rfl) (by first | assumption | (simp; done) | fail) (by rfl) (by simp) ?_; (try simp [hne, hf0, hf3, del, Nat.add_assoc]))
  | (refine CallP.ok1 (ha _ (by first | omega | (simp; done) | (simp; omega) | fail)) (by first | (simp [hne, hf0, hf3, del, Nat.add_assoc, zaa, getK, zab, zac]; done) | fail) (by rfl) (by first | assumption | (simp; done) | fail) (by rfl) (by simp) ?_; (try simp [hne, hf0, hf3, del, Nat.add_assoc]))
  | (refine CallP.zhq (hw1 _ (by first | omega | (simp; done) | (simp; omega) | fail)) (by first | (simp [hne, hf0, hf3, del, Nat.add_assoc, zaa, getK, zab, zac]; done) | fail) (by rfl) (by first | assumption | (simp; done) | fail) (by rfl) (by simp) ?_; rintro ob' ⟨q', rfl⟩; refine ⟨_, Wk.refl _, ?_⟩)
  | (refine zbX (by first | rfl | fail) ?_; simp [hne, hf0, hf3, del, Nat.add_assoc, frzN, frz1, zaR, zaQ, St.frz, St.frzS, frzS, fv, zbQ, zb2, zb3, zaS, zaz, zan, del, frz, zcd])
  | fail)
   (refine hpan _ _ (PanG.k ([(i, pOb l q')]) (nx) (by simp [hn, hi, hne, zab, zac, zaa, getK] <;> omega) ?_); try simp)
   exact PPost.zcf (by simp [PR.bind, *])
  | ok v1 q1 =>
   simp only [hr1] at hw1;obtain ⟨g1a, g1b⟩ := zcD hl _ hr1 g0b;have hb := fun nx' (h : nx <= nx') => hE q1 0 i nx' (by omega) g1b (by omega) (by omega) (by omega);cases hr2 : zfu l f q1 0 with
   | stop pos e =>
    simp only [hr2] at hb;refine RetX.runW Tryz.func139 Tryz.ntmps139 rfl (by simp) fun Γ hn hpan => ?_
    repeat' (first
  | (refine zaf rfl ?_; simp [hne, hf0, hf3, del, Nat.add_assoc])
  | (refine CallP.ok1 (hh1 _ (by first | omega | (simp; done) | (simp; omega) | fail)) (by first | (simp [hne, hf0, hf3, del, Nat.add_assoc, zaa, getK, zab, zac]; done) | fail) (by rfl) (by first | assumption | (simp; done) | fail) (by rfl) (by simp) ?_; (try simp [hne, hf0, hf3, del, Nat.add_assoc]))
  | (refine CallP.ok1 (ha _ (by first | omega | (simp; done) | (simp; omega) | fail)) (by first | (simp [hne, hf0, hf3, del, Nat.add_assoc, zaa, getK, zab, zac]; done) | fail) (by rfl) (by first | assumption | (simp; done) | fail) (by rfl) (by simp) ?_; (try simp [hne, hf0, hf3, del, Nat.add_assoc]))
  | (refine CallP.ok1 (hw1 _ (by first | omega | (simp; done) | (simp; omega) | fail)) (by first | (simp [hne, hf0, hf3, del, Nat.add_assoc, zaa, getK, zab, zac]; done) | fail) (by rfl) (by first | assumption | (simp; done) | fail) (by rfl) (by simp) ?_; (try simp [hne, hf0, hf3, del, Nat.add_assoc]))
  | (refine CallP.zhq (hb _ (by first | omega | (simp; done) | (simp; omega) | fail)) (by first | (simp [hne, hf0, hf3, del, Nat.add_assoc, zaa, getK, zab, zac]; done) | fail) (by rfl) (by first | assumption | (simp; done) | fail) (by rfl) (by simp) ?_; rintro ob' ⟨q', rfl⟩; refine ⟨_, Wk.refl _, ?_⟩)
  | (refine zbX (by first | rfl | fail) ?_; simp [hne, hf0, hf3, del, Nat.add_assoc, frzN, frz1, zaR, zaQ, St.frz, St.frzS, frzS, fv, zbQ, zb2, zb3, zaS, zaz, zan, del, frz, zcd])
  | fail)
    (refine hpan _ _ (PanG.k ([(i, pOb l q')]) (nx) (by simp [hn, hi, hne, zab, zac, zaa, getK] <;> omega) ?_); try simp)
    exact PPost.zcf (by simp [PR.bind, *])
   | ok v2 q2 =>
    have hb := fun nx' h => zeN (hb nx' h) hr2;obtain ⟨g2a, g2b⟩ := (zdH hl f).1 _ _ _ _ hr2 g1b;have hw2 := fun nx' (h : nx <= nx') => znl hl [101, 108, 115, 101] (q := q2) (i := i) (nx := nx') (by omega) g2b;cases hr3 : zdQ l q2 [[101, 108, 115, 101]] with
    | stop pos e =>
     simp only [hr3] at hw2;refine RetX.runW Tryz.func139 Tryz.ntmps139 rfl (by simp) fun Γ hn hpan => ?_
     repeat' (first
  | (refine zaf rfl ?_; simp [hne, hf0, hf3, del, Nat.add_assoc])
  | (refine CallP.ok1 (hh1 _ (by first | omega | (simp; done) | (simp; omega) | fail)) (by first | (simp [hne, hf0, hf3, del, Nat.add_assoc, zaa, getK, zab, zac]; done) | fail) (by rfl) (by first | assumption | (simp; done) | fail) (by rfl) (by simp) ?_; (try simp [hne, hf0, hf3, del, Nat.add_assoc]))
  | (refine CallP.ok1 (ha _ (by first | omega | (simp; done) | (simp; omega) | fail)) (by first | (simp [hne, hf0, hf3, del, Nat.add_assoc, zaa, getK, zab, zac]; done) | fail) (by rfl) (by first | assumption | (simp; done) | fail) (by rfl) (by simp) ?_; (try simp [hne, hf0, hf3, del, Nat.add_assoc]))
  | (refine CallP.ok1 (hw1 _ (by first | omega | (simp; done) | (simp; omega) | fail)) (by first | (simp [hne, hf0, hf3, del, Nat.add_assoc, zaa, getK, zab, zac]; done) | fail) (by rfl) (by first | assumption | (simp; done) | fail) (by rfl) (by simp) ?_; (try simp [hne, hf0, hf3, del, Nat.add_assoc]))
  | (refine CallP.ok1 (hb _ (by first | omega | (simp; done) | (simp; omega) | fail)) (by first | (simp [hne, hf0, hf3, del, Nat.add_assoc, zaa, getK, zab, zac]; done) | fail) (by rfl) (by first | assumption | (simp; done) | fail) (by rfl) (by simp) ?_; (try simp [hne, hf0, hf3, del, Nat.add_assoc]))
  | (refine CallP.zhq (hw2 _ (by first | omega | (simp; done) | (simp; omega) | fail)) (by first | (simp [hne, hf0, hf3, del, Nat.add_assoc, zaa, getK, zab, zac]; done) | fail) (by rfl) (by first | assumption | (simp; done) | fail) (by rfl) (by simp) ?_; rintro ob' ⟨q', rfl⟩; refine ⟨_, Wk.refl _, ?_⟩)
  | (refine zbX (by first | rfl | fail) ?_; simp [hne, hf0, hf3, del, Nat.add_assoc, frzN, frz1, zaR, zaQ, St.frz, St.frzS, frzS, fv, zbQ, zb2, zb3, zaS, zaz, zan, del, frz, zcd])
  | fail)
     (refine hpan _ _ (PanG.k ([(i, pOb l q')]) (nx) (by simp [hn, hi, hne, zab, zac, zaa, getK] <;> omega) ?_); try simp)
     exact PPost.zcf (by simp [PR.bind, *])
    | ok v3 q3 =>
     simp only [hr3] at hw2;obtain ⟨g3a, g3b⟩ := zcD hl _ hr3 g2b;have hc := fun nx' (h : nx <= nx') => hE q3 0 i nx' (by omega) g3b (by omega) (by omega) (by omega);cases hr4 : zfu l f q3 0 with
     | stop pos e =>
      simp only [hr4] at hc;refine RetX.runW Tryz.func139 Tryz.ntmps139 rfl (by simp) fun Γ hn hpan => ?_
      repeat' (first
  | (refine zho (fun nx' h' => hc nx' (by simp at h'; omega)) (by first | (simp [hne, hf0, hf3, del, Nat.add_assoc, zaa, getK, zab, zac, zad, zai]; done) | fail) (by rfl) (by first | assumption | simp) (by rfl) (by simp) ?_ ?_; rintro env' ob' n' hn' ⟨q', rfl⟩; refine ⟨_, Wk.refl _, ?_⟩)
  | (refine zgt rfl (by simp) ?_; simp)
  | (refine zaf rfl ?_; simp [hne, hf0, hf3, del, Nat.add_assoc])
  | (refine zhp (hC _ (zdI [i] nx (by simp <;> omega) (by simp <;> omega) (by apply Exists.intro; apply And.intro; (focus (repeat' (first | exact KF.nil | exact KL.nil | apply KF.cons | apply KL.cons 0 rfl | apply KL.cons 1 rfl | apply KL.cons 2 rfl | apply KL.cons 3 rfl | apply KL.cons 4 rfl | apply KL.cons 5 rfl | apply KL.cons 6 rfl | apply KL.cons 7 rfl | apply KL.cons 8 rfl | apply KL.cons 9 rfl))); kernel_rfl))) rfl; done)
  | (refine zdX rfl (by kernel_rfl) (by first | (simp [hn]; done) | (simp [hn]; omega) | fail) fun C k hC hk => ?_; simp [hne, hf0, hf3, del, Nat.add_assoc])
  | (refine CallP.ok1 (hh1 _ (by first | omega | (simp; done) | (simp; omega) | fail)) (by first | (simp [hne, hf0, hf3, del, Nat.add_assoc, zaa, getK, zab, zac]; done) | fail) (by rfl) (by first | assumption | (simp; done) | fail) (by rfl) (by simp) ?_; (try simp [hne, hf0, hf3, del, Nat.add_assoc]))
  | (refine CallP.ok1 (ha _ (by first | omega | (simp; done) | (simp; omega) | fail)) (by first | (simp [hne, hf0, hf3, del, Nat.add_assoc, zaa, getK, zab, zac]; done) | fail) (by rfl) (by first | assumption | (simp; done) | fail) (by rfl) (by simp) ?_; (try simp [hne, hf0, hf3, del, Nat.add_assoc]))
  | (refine CallP.ok1 (hw1 _ (by first | omega | (simp; done) | (simp; omega) | fail)) (by first | (simp [hne, hf0, hf3, del, Nat.add_assoc, zaa, getK, zab, zac]; done) | fail) (by rfl) (by first | assumption | (simp; done) | fail) (by rfl) (by simp) ?_; (try simp [hne, hf0, hf3, del, Nat.add_assoc]))
  | (refine CallP.ok1 (hb _ (by first | omega | (simp; done) | (simp; omega) | fail)) (by first | (simp [hne, hf0, hf3, del, Nat.add_assoc, zaa, getK, zab, zac]; done) | fail) (by rfl) (by first | assumption | (simp; done) | fail) (by rfl) (by simp) ?_; (try simp [hne, hf0, hf3, del, Nat.add_assoc]))
  | (refine CallP.ok1 (hw2 _ (by first | omega | (simp; done) | (simp; omega) | fail)) (by first | (simp [hne, hf0, hf3, del, Nat.add_assoc, zaa, getK, zab, zac]; done) | fail) (by rfl) (by first | assumption | (simp; done) | fail) (by rfl) (by simp) ?_; (try simp [hne, hf0, hf3, del, Nat.add_assoc]))
  | (refine zbX (by first | rfl | fail) ?_; simp [hne, hf0, hf3, del, Nat.add_assoc, frzN, frz1, zaR, zaQ, St.frz, St.frzS, frzS, fv, zbQ, zb2, zb3, zaS, zaz, zan, del, frz, zcd])
  | fail)
      (refine hpan _ _ (PanG.k ([(i, pOb l q')]) (nx) (by simp [hn, hi, hne, zab, zac, zaa, getK] <;> omega) ?_); try simp)
      exact PPost.zcf (by simp [PR.bind, *])
     | ok v4 q4 =>
      have hc := fun nx' h => zeN (hc nx' h) hr4;obtain ⟨g4a, g4b⟩ := (zdH hl f).1 _ _ _ _ hr4 g3b;refine RetX.runW Tryz.func139 Tryz.ntmps139 rfl (by simp) fun Γ hn hpan => ?_
      repeat' (first
  | (refine zkf (fun nx' h' => hc nx' (by simp at h'; omega)) (by first | (simp [hne, hf0, hf3, del, Nat.add_assoc, zaa, getK, zab, zac, zad, zai]; done) | fail) (by rfl) (by first | assumption | simp) (by rfl) (by simp [D.under, Ob.under]) (by simp) ?_; (try simp [hne, hf0, hf3, del, Nat.add_assoc]))
  | (refine zaf rfl ?_; simp [hne, hf0, hf3, del, Nat.add_assoc])
  | (refine ⟨hC _ (zdI [i] nx (by simp <;> omega) (by simp <;> omega) (by apply Exists.intro; apply And.intro; (focus (repeat' (first | exact KF.nil | exact KL.nil | apply KF.cons | apply KL.cons 0 rfl | apply KL.cons 1 rfl | apply KL.cons 2 rfl | apply KL.cons 3 rfl | apply KL.cons 4 rfl | apply KL.cons 5 rfl | apply KL.cons 6 rfl | apply KL.cons 7 rfl | apply KL.cons 8 rfl | apply KL.cons 9 rfl))); kernel_rfl)), hk _ (zdb 8 _ _ _ ?_)⟩; clear hC hk C k; simp [hne, hf0, hf3, del, Nat.add_assoc])
  | (refine zdX rfl (by kernel_rfl) (by first | (simp [hn]; done) | (simp [hn]; omega) | fail) fun C k hC hk => ?_; simp [hne, hf0, hf3, del, Nat.add_assoc])
  | (refine zb9 rfl ?_; simp [hne, hf0, hf3, del, Nat.add_assoc])
  | (refine CallP.ok1 (hh1 _ (by first | omega | (simp; done) | (simp; omega) | fail)) (by first | (simp [hne, hf0, hf3, del, Nat.add_assoc, zaa, getK, zab, zac]; done) | fail) (by rfl) (by first | assumption | (simp; done) | fail) (by rfl) (by simp) ?_; (try simp [hne, hf0, hf3, del, Nat.add_assoc]))
  | (refine CallP.ok1 (ha _ (by first | omega | (simp; done) | (simp; omega) | fail)) (by first | (simp [hne, hf0, hf3, del, Nat.add_assoc, zaa, getK, zab, zac]; done) | fail) (by rfl) (by first | assumption | (simp; done) | fail) (by rfl) (by simp) ?_; (try simp [hne, hf0, hf3, del, Nat.add_assoc]))
  | (refine CallP.ok1 (hw1 _ (by first | omega | (simp; done) | (simp; omega) | fail)) (by first | (simp [hne, hf0, hf3, del, Nat.add_assoc, zaa, getK, zab, zac]; done) | fail) (by rfl) (by first | assumption | (simp; done) | fail) (by rfl) (by simp) ?_; (try simp [hne, hf0, hf3, del, Nat.add_assoc]))
  | (refine CallP.ok1 (hb _ (by first | omega | (simp; done) | (simp; omega) | fail)) (by first | (simp [hne, hf0, hf3, del, Nat.add_assoc, zaa, getK, zab, zac]; done) | fail) (by rfl) (by first | assumption | (simp; done) | fail) (by rfl) (by simp) ?_; (try simp [hne, hf0, hf3, del, Nat.add_assoc]))
  | (refine CallP.ok1 (hw2 _ (by first | omega | (simp; done) | (simp; omega) | fail)) (by first | (simp [hne, hf0, hf3, del, Nat.add_assoc, zaa, getK, zab, zac]; done) | fail) (by rfl) (by first | assumption | (simp; done) | fail) (by rfl) (by simp) ?_; (try simp [hne, hf0, hf3, del, Nat.add_assoc]))
  | (refine zbX (by first | rfl | fail) ?_; simp [hne, hf0, hf3, del, Nat.add_assoc, frzN, frz1, zaR, zaQ, St.frz, St.frzS, frzS, fv, zbQ, zb2, zb3, zaS, zaz, zan, del, frz, zcd])
  | fail)
      (refine EndW.frzN 1 ?_; simp [del, hne, Nat.add_assoc])
      refine EndW.norm ?_;simp [St.norm, za6, zbU, zbY, zbZ, hne, Nat.add_assoc]
      (refine EndW.z ([(i, pOb l q4)]) (N := nx) Tryz.results139 (by simp [hne, hi] <;> omega) ?_; simp [hne, hi])
      exact PPost.zeS (by simp [PR.bind, *]; rfl) (by simp [Exp.row_eq, Exp.op, Exp.n, Exp.unit, Exp.s, Exp.args]) rfl
theorem zlQ {l : List Tok} (hl : TokOK l) {f p : Nat} {form : Int} (hE : zg8 l f) (hp : p < l.length) (hf : 4 * (l.length - p) + 1 <= f)
  (hf0 : form = 0) (hf3 : form <= 3) (h1 : isB l p [105, 102] = false) (h2 : isB l p [110, 111, 116] = true) {i nx : Nat} (hi : i < nx) :
  RetX Tryz.prog 139 [.ptr i 0, zqi form] [(i, pOb l p)] nx (PPost l i nx zkO (zcc l (f + 1) p form)) := by
 have hne := zbo hi;have hll := hl.len;rw [zcc];have hh1 := fun nx' (h : nx <= nx') => zcB l p [105, 102] i nx' (by omega) hp hl.len;rw [h1] at hh1;simp only [if_true, Bool.false_eq_true, if_false] at hh1;have hp2 := zcM hl h2;have hh2 := fun nx' (h : nx <= nx') => zcB l p [110, 111, 116] i nx' (by omega) hp hl.len;rw [h2] at hh2;simp only [if_true, Bool.false_eq_true, if_false] at hh2;rw [if_neg (by simp [*]), if_pos ⟨hf3, h2⟩];have ha := fun nx' (h : nx <= nx') => hE (p + 1) 3 i nx' (by omega) hp2 (by omega) (by omega) (by omega);cases hr0 : zfu l f (p + 1) 3 with
 | stop pos e =>
  simp only [hr0] at ha;refine RetX.runW Tryz.func139 Tryz.ntmps139 rfl (by simp) fun Γ hn hpan => ?_
  repeat' (first
  | (refine zaf rfl ?_; simp [hne, hf0, hf3, del, Nat.add_assoc])
  | (refine CallP.ok1 (hh1 _ (by first | omega | (simp; done) | (simp; omega) | fail)) (by first | (simp [hne, hf0, hf3, del, Nat.add_assoc, zaa, getK, zab, zac]; done) | fail) (by rfl) (by first | assumption | (simp; done) | fail) (by rfl) (by simp) ?_; (try simp [hne, hf0, hf3, del, Nat.add_assoc]))
  | (refine CallP.ok1 (hh2 _ (by first | omega | (simp; done) | (simp; omega) | fail)) (by first | (simp [hne, hf0, hf3, del, Nat.add_assoc, zaa, getK, zab, zac]; done) | fail) (by rfl) (by first | assumption | (simp; done) | fail) (by rfl) (by simp) ?_; (try simp [hne, hf0, hf3, del, Nat.add_assoc]))
  | (refine CallP.zhq (ha _ (by first | omega | (simp; done) | (simp; omega) | fail)) (by first | (simp [hne, hf0, hf3, del, Nat.add_assoc, zaa, getK, zab, zac]; done) | fail) (by rfl) (by first | assumption | (simp; done) | fail) (by rfl) (by simp) ?_; rintro ob' ⟨q', rfl⟩; refine ⟨_, Wk.refl _, ?_⟩)
  | fail)
  (refine hpan _ _ (PanG.k ([(i, pOb l q')]) (nx) (by simp [hn, hi, hne, zab, zac, zaa, getK] <;> omega) ?_); try simp)
  exact PPost.zcf (by simp [PR.bind, *])
 | ok v0 q0 =>
  have ha := fun nx' h => zeN (ha nx' h) hr0;refine RetX.runW Tryz.func139 Tryz.ntmps139 rfl (by simp) fun Γ hn hpan => ?_
  repeat' (first
  | (refine zaf rfl ?_; simp [hne, hf0, hf3, del, Nat.add_assoc])
  | (refine CallP.ok1 (hh1 _ (by first | omega | (simp; done) | (simp; omega) | fail)) (by first | (simp [hne, hf0, hf3, del, Nat.add_assoc, zaa, getK, zab, zac]; done) | fail) (by rfl) (by first | assumption | (simp; done) | fail) (by rfl) (by simp) ?_; (try simp [hne, hf0, hf3, del, Nat.add_assoc]))
  | (refine CallP.ok1 (hh2 _ (by first | omega | (simp; done) | (simp; omega) | fail)) (by first | (simp [hne, hf0, hf3, del, Nat.add_assoc, zaa, getK, zab, zac]; done) | fail) (by rfl) (by first | assumption | (simp; done) | fail) (by rfl) (by simp) ?_; (try simp [hne, hf0, hf3, del, Nat.add_assoc]))
  | (refine CallP.ok1 (ha _ (by first | omega | (simp; done) | (simp; omega) | fail)) (by first | (simp [hne, hf0, hf3, del, Nat.add_assoc, zaa, getK, zab, zac]; done) | fail) (by rfl) (by first | assumption | (simp; done) | fail) (by rfl) (by simp) ?_; (try simp [hne, hf0, hf3, del, Nat.add_assoc]))
  | fail)
  (refine EndW.frzN 1 ?_; simp [del, hne, Nat.add_assoc])
  refine EndW.norm ?_;simp [St.norm, za6, zbU, zbY, zbZ, hne, Nat.add_assoc]
  (refine EndW.z ([(i, pOb l q0)]) (N := nx) Tryz.results139 (by simp [hne, hi] <;> omega) ?_; simp [hne, hi])
  exact PPost.zeS (by simp [PR.bind, *]; rfl) (by simp [Exp.row_eq, Exp.op, Exp.n, Exp.unit, Exp.s, Exp.args]) rfl
theorem zlP {l : List Tok} (hl : TokOK l) {f p : Nat} {form : Int} (hE : zg8 l f) (hp : p < l.length) (hf : 4 * (l.length - p) + 1 <= f)
  (hf0 : ¬ form = 0) (hf3 : form <= 3) (h2 : isB l p [110, 111, 116] = true) {i nx : Nat} (hi : i < nx) :
  RetX Tryz.prog 139 [.ptr i 0, zqi form] [(i, pOb l p)] nx (PPost l i nx zkO (zcc l (f + 1) p form)) := by
 have hne := zbo hi;have hll := hl.len;rw [zcc];have hp2 := zcM hl h2;have hh2 := fun nx' (h : nx <= nx') => zcB l p [110, 111, 116] i nx' (by omega) hp hl.len;rw [h2] at hh2;simp only [if_true, Bool.false_eq_true, if_false] at hh2;rw [if_neg (by simp [*]), if_pos ⟨hf3, h2⟩];have ha := fun nx' (h : nx <= nx') => hE (p + 1) 3 i nx' (by omega) hp2 (by omega) (by omega) (by omega);cases hr0 : zfu l f (p + 1) 3 with
 | stop pos e =>
  simp only [hr0] at ha;refine RetX.runW Tryz.func139 Tryz.ntmps139 rfl (by simp) fun Γ hn hpan => ?_
  repeat' (first
  | (refine zaf rfl ?_; simp [hne, hf0, hf3, del, Nat.add_assoc])
  | (refine CallP.ok1 (hh2 _ (by first | omega | (simp; done) | (simp; omega) | fail)) (by first | (simp [hne, hf0, hf3, del, Nat.add_assoc, zaa, getK, zab, zac]; done) | fail) (by rfl) (by first | assumption | (simp; done) | fail) (by rfl) (by simp) ?_; (try simp [hne, hf0, hf3, del, Nat.add_assoc]))
  | (refine CallP.zhq (ha _ (by first | omega | (simp; done) | (simp; omega) | fail)) (by first | (simp [hne, hf0, hf3, del, Nat.add_assoc, zaa, getK, zab, zac]; done) | fail) (by rfl) (by first | assumption | (simp; done) | fail) (by rfl) (by simp) ?_; rintro ob' ⟨q', rfl⟩; refine ⟨_, Wk.refl _, ?_⟩)
  | fail)
  (refine hpan _ _ (PanG.k ([(i, pOb l q')]) (nx) (by simp [hn, hi, hne, zab, zac, zaa, getK] <;> omega) ?_); try simp)
  exact PPost.zcf (by simp [PR.bind, *])
 | ok v0 q0 =>
  have ha := fun nx' h => zeN (ha nx' h) hr0;refine RetX.runW Tryz.func139 Tryz.ntmps139 rfl (by simp) fun Γ hn hpan => ?_
  repeat' (first
  | (refine zaf rfl ?_; simp [hne, hf0, hf3, del, Nat.add_assoc])
  | (refine CallP.ok1 (hh2 _ (by first | omega | (simp; done) | (simp; omega) | fail)) (by first | (simp [hne, hf0, hf3, del, Nat.add_assoc, zaa, getK, zab, zac]; done) | fail) (by rfl) (by first | assumption | (simp; done) | fail) (by rfl) (by simp) ?_; (try simp [hne, hf0, hf3, del, Nat.add_assoc]))
  | (refine CallP.ok1 (ha _ (by first | omega | (simp; done) | (simp; omega) | fail)) (by first | (simp [hne, hf0, hf3, del, Nat.add_assoc, zaa, getK, zab, zac]; done) | fail) (by rfl) (by first | assumption | (simp; done) | fail) (by rfl) (by simp) ?_; (try simp [hne, hf0, hf3, del, Nat.add_assoc]))
  | fail)
  (refine EndW.frzN 1 ?_; simp [del, hne, Nat.add_assoc])
  refine EndW.norm ?_;simp [St.norm, za6, zbU, zbY, zbZ, hne, Nat.add_assoc]
  (refine EndW.z ([(i, pOb l q0)]) (N := nx) Tryz.results139 (by simp [hne, hi] <;> omega) ?_; simp [hne, hi])
  exact PPost.zeS (by simp [PR.bind, *]; rfl) (by simp [Exp.row_eq, Exp.op, Exp.n, Exp.unit, Exp.s, Exp.args]) rfl
theorem zkI {l : List Tok} (hl : TokOK l) {f p : Nat} {form : Int} (hP : zjj l f) (hp : p < l.length) (hf : 4 * (l.length - p) + 1 <= f)
  (hf0 : form = 0) (hf3 : form <= 3) (h1 : isB l p [105, 102] = false) (h2 : isB l p [110, 111, 116] = false) {i nx : Nat} (hi : i < nx) :
  RetX Tryz.prog 139 [.ptr i 0, zqi form] [(i, pOb l p)] nx (PPost l i nx zkO (zcc l (f + 1) p form)) := by
 have hne := zbo hi;have hll := hl.len;rw [zcc];have hh1 := fun nx' (h : nx <= nx') => zcB l p [105, 102] i nx' (by omega) hp hl.len;rw [h1] at hh1;simp only [if_true, Bool.false_eq_true, if_false] at hh1;have hh2 := fun nx' (h : nx <= nx') => zcB l p [110, 111, 116] i nx' (by omega) hp hl.len;rw [h2] at hh2;simp only [if_true, Bool.false_eq_true, if_false] at hh2;rw [if_neg (by simp [*]), if_neg (by simp [*])];have ha := fun nx' (h : nx <= nx') => hP p i nx' (by omega) hp (by omega);cases hr0 : zbj l f p with
 | stop pos e =>
  simp only [hr0] at ha;refine RetX.runW Tryz.func139 Tryz.ntmps139 rfl (by simp) fun Γ hn hpan => ?_
  repeat' (first
  | (refine zaf rfl ?_; simp [hne, hf0, hf3, del, Nat.add_assoc])
  | (refine CallP.ok1 (hh1 _ (by first | omega | (simp; done) | (simp; omega) | fail)) (by first | (simp [hne, hf0, hf3, del, Nat.add_assoc, zaa, getK, zab, zac]; done) | fail) (by rfl) (by first | assumption | (simp; done) | fail) (by rfl) (by simp) ?_; (try simp [hne, hf0, hf3, del, Nat.add_assoc]))
  | (refine CallP.ok1 (hh2 _ (by first | omega | (simp; done) | (simp; omega) | fail)) (by first | (simp [hne, hf0, hf3, del, Nat.add_assoc, zaa, getK, zab, zac]; done) | fail) (by rfl) (by first | assumption | (simp; done) | fail) (by rfl) (by simp) ?_; (try simp [hne, hf0, hf3, del, Nat.add_assoc]))
  | (refine CallP.zhq (ha _ (by first | omega | (simp; done) | (simp; omega) | fail)) (by first | (simp [hne, hf0, hf3, del, Nat.add_assoc, zaa, getK, zab, zac]; done) | fail) (by rfl) (by first | assumption | (simp; done) | fail) (by rfl) (by simp) ?_; rintro ob' ⟨q', rfl⟩; refine ⟨_, Wk.refl _, ?_⟩)
  | fail)
  (refine hpan _ _ (PanG.k ([(i, pOb l q')]) (nx) (by simp [hn, hi, hne, zab, zac, zaa, getK] <;> omega) ?_); try simp)
  exact PPost.zcf (by simp [PR.bind, *])
 | ok v0 q0 =>
  have ha := fun nx' h => zeN (ha nx' h) hr0;refine RetX.runW Tryz.func139 Tryz.ntmps139 rfl (by simp) fun Γ hn hpan => ?_
  repeat' (first
  | (refine zaf rfl ?_; simp [hne, hf0, hf3, del, Nat.add_assoc])
  | (refine CallP.ok1 (hh1 _ (by first | omega | (simp; done) | (simp; omega) | fail)) (by first | (simp [hne, hf0, hf3, del, Nat.add_assoc, zaa, getK, zab, zac]; done) | fail) (by rfl) (by first | assumption | (simp; done) | fail) (by rfl) (by simp) ?_; (try simp [hne, hf0, hf3, del, Nat.add_assoc]))
  | (refine CallP.ok1 (hh2 _ (by first | omega | (simp; done) | (simp; omega) | fail)) (by first | (simp [hne, hf0, hf3, del, Nat.add_assoc, zaa, getK, zab, zac]; done) | fail) (by rfl) (by first | assumption | (simp; done) | fail) (by rfl) (by simp) ?_; (try simp [hne, hf0, hf3, del, Nat.add_assoc]))
  | (refine CallP.ok1 (ha _ (by first | omega | (simp; done) | (simp; omega) | fail)) (by first | (simp [hne, hf0, hf3, del, Nat.add_assoc, zaa, getK, zab, zac]; done) | fail) (by rfl) (by first | assumption | (simp; done) | fail) (by rfl) (by simp) ?_; (try simp [hne, hf0, hf3, del, Nat.add_assoc]))
  | fail)
  refine EndW.norm ?_;simp [St.norm, za6, zbU, zbY, zbZ, hne, Nat.add_assoc]
  (refine EndW.z ([(i, pOb l q0)]) (N := nx) Tryz.results139 (by simp [hne, hi] <;> omega) ?_; simp [hne, hi])
  exact PPost.zeS (by simp [PR.bind, *]; rfl) (by simp [Exp.row_eq, Exp.op, Exp.n, Exp.unit, Exp.s, Exp.args]) rfl
theorem zkH {l : List Tok} (hl : TokOK l) {f p : Nat} {form : Int} (hP : zjj l f) (hp : p < l.length) (hf : 4 * (l.length - p) + 1 <= f)
  (hf0 : ¬ form = 0) (hf3 : form <= 3) (h2 : isB l p [110, 111, 116] = false) {i nx : Nat} (hi : i < nx) :
  RetX Tryz.prog 139 [.ptr i 0, zqi form] [(i, pOb l p)] nx (PPost l i nx zkO (zcc l (f + 1) p form)) := by
 have hne := zbo hi;have hll := hl.len;rw [zcc];have hh2 := fun nx' (h : nx <= nx') => zcB l p [110, 111, 116] i nx' (by omega) hp hl.len;rw [h2] at hh2;simp only [if_true, Bool.false_eq_true, if_false] at hh2;rw [if_neg (by simp [*]), if_neg (by simp [*])];have ha := fun nx' (h : nx <= nx') => hP p i nx' (by omega) hp (by omega);cases hr0 : zbj l f p with
 | stop pos e =>
  simp only [hr0] at ha;refine RetX.runW Tryz.func139 Tryz.ntmps139 rfl (by simp) fun Γ hn hpan => ?_
  repeat' (first
  | (refine zaf rfl ?_; simp [hne, hf0, hf3, del, Nat.add_assoc])
  | (refine CallP.ok1 (hh2 _ (by first | omega | (simp; done) | (simp; omega) | fail)) (by first | (simp [hne, hf0, hf3, del, Nat.add_assoc, zaa, getK, zab, zac]; done) | fail) (by rfl) (by first | assumption | (simp; done) | fail) (by rfl) (by simp) ?_; (try simp [hne, hf0, hf3, del, Nat.add_assoc]))
  | (refine CallP.zhq (ha _ (by first | omega | (simp; done) | (simp; omega) | fail)) (by first | (simp [hne, hf0, hf3, del, Nat.add_assoc, zaa, getK, zab, zac]; done) | fail) (by rfl) (by first | assumption | (simp; done) | fail) (by rfl) (by simp) ?_; rintro ob' ⟨q', rfl⟩; refine ⟨_, Wk.refl _, ?_⟩)
  | fail)
  (refine hpan _ _ (PanG.k ([(i, pOb l q')]) (nx) (by simp [hn, hi, hne, zab, zac, zaa, getK] <;> omega) ?_); try simp)
  exact PPost.zcf (by simp [PR.bind, *])
 | ok v0 q0 =>
  have ha := fun nx' h => zeN (ha nx' h) hr0;refine RetX.runW Tryz.func139 Tryz.ntmps139 rfl (by simp) fun Γ hn hpan => ?_
  repeat' (first
  | (refine zaf rfl ?_; simp [hne, hf0, hf3, del, Nat.add_assoc])
  | (refine CallP.ok1 (hh2 _ (by first | omega | (simp; done) | (simp; omega) | fail)) (by first | (simp [hne, hf0, hf3, del, Nat.add_assoc, zaa, getK, zab, zac]; done) | fail) (by rfl) (by first | assumption | (simp; done) | fail) (by rfl) (by simp) ?_; (try simp [hne, hf0, hf3, del, Nat.add_assoc]))
  | (refine CallP.ok1 (ha _ (by first | omega | (simp; done) | (simp; omega) | fail)) (by first | (simp [hne, hf0, hf3, del, Nat.add_assoc, zaa, getK, zab, zac]; done) | fail) (by rfl) (by first | assumption | (simp; done) | fail) (by rfl) (by simp) ?_; (try simp [hne, hf0, hf3, del, Nat.add_assoc]))
  | fail)
  refine EndW.norm ?_;simp [St.norm, za6, zbU, zbY, zbZ, hne, Nat.add_assoc]
  (refine EndW.z ([(i, pOb l q0)]) (N := nx) Tryz.results139 (by simp [hne, hi] <;> omega) ?_; simp [hne, hi])
  exact PPost.zeS (by simp [PR.bind, *]; rfl) (by simp [Exp.row_eq, Exp.op, Exp.n, Exp.unit, Exp.s, Exp.args]) rfl
theorem zkG {l : List Tok} (hl : TokOK l) {f p : Nat} {form : Int} (hP : zjj l f) (hp : p < l.length) (hf : 4 * (l.length - p) + 1 <= f)
  (hf0 : ¬ form = 0) (hf3 : ¬ form <= 3) {i nx : Nat} (hi : i < nx) :
  RetX Tryz.prog 139 [.ptr i 0, zqi form] [(i, pOb l p)] nx (PPost l i nx zkO (zcc l (f + 1) p form)) := by
 have hne := zbo hi;have hll := hl.len;rw [zcc];rw [if_neg (by simp [*]), if_neg (by simp [*])];have ha := fun nx' (h : nx <= nx') => hP p i nx' (by omega) hp (by omega);cases hr0 : zbj l f p with
 | stop pos e =>
  simp only [hr0] at ha;refine RetX.runW Tryz.func139 Tryz.ntmps139 rfl (by simp) fun Γ hn hpan => ?_
  repeat' (first
  | (refine zaf rfl ?_; simp [hne, hf0, hf3, del, Nat.add_assoc])
  | (refine CallP.zhq (ha _ (by first | omega | (simp; done) | (simp; omega) | fail)) (by first | (simp [hne, hf0, hf3, del, Nat.add_assoc, zaa, getK, zab, zac]; done) | fail) (by rfl) (by first | assumption | (simp; done) | fail) (by rfl) (by simp) ?_; rintro ob' ⟨q', rfl⟩; refine ⟨_, Wk.refl _, ?_⟩)
  | fail)
  (refine hpan _ _ (PanG.k ([(i, pOb l q')]) (nx) (by simp [hn, hi, hne, zab, zac, zaa, getK] <;> omega) ?_); try simp)
  exact PPost.zcf (by simp [PR.bind, *])
 | ok v0 q0 =>
  have ha := fun nx' h => zeN (ha nx' h) hr0;refine RetX.runW Tryz.func139 Tryz.ntmps139 rfl (by simp) fun Γ hn hpan => ?_
  repeat' (first
  | (refine zaf rfl ?_; simp [hne, hf0, hf3, del, Nat.add_assoc])
  | (refine CallP.ok1 (ha _ (by first | omega | (simp; done) | (simp; omega) | fail)) (by first | (simp [hne, hf0, hf3, del, Nat.add_assoc, zaa, getK, zab, zac]; done) | fail) (by rfl) (by first | assumption | (simp; done) | fail) (by rfl) (by simp) ?_; (try simp [hne, hf0, hf3, del, Nat.add_assoc]))
  | fail)
  refine EndW.norm ?_;simp [St.norm, za6, zbU, zbY, zbZ, hne, Nat.add_assoc]
  (refine EndW.z ([(i, pOb l q0)]) (N := nx) Tryz.results139 (by simp [hne, hi] <;> omega) ?_; simp [hne, hi])
  exact PPost.zeS (by simp [PR.bind, *]; rfl) (by simp [Exp.row_eq, Exp.op, Exp.n, Exp.unit, Exp.s, Exp.args]) rfl
theorem zlO {l : List Tok} (hl : TokOK l) {f : Nat} (hE : zg8 l f) (hP : zjj l f) : ztt l (f + 1) := by
 intro p form i nx hi hp hf hm0 hm7;have hf' : 4 * (l.length - p) + 1 <= f := by omega
 by_cases hf0 : form = 0
 ·have hf3 : form <= 3 := by omega
  cases h1 : isB l p [105, 102] with
  | true => exact zoT hl hE hp hf' hf0 h1 hi
  | false =>
   cases h2 : isB l p [110, 111, 116] with
   | true => exact zlQ hl hE hp hf' hf0 hf3 h1 h2 hi
   | false => exact zkI hl hP hp hf' hf0 hf3 h1 h2 hi
 ·by_cases hf3 : form <= 3
  ·cases h2 : isB l p [110, 111, 116] with
   | true => exact zlP hl hE hp hf' hf0 hf3 h2 hi
   | false => exact zkH hl hP hp hf' hf0 hf3 h2 hi
  ·exact zkG hl hP hp hf' hf0 hf3 hi
theorem zsS (A B : Code) : Fun Tryz.prog 54 [.u (Vm.inss A), .u (Vm.inss B)] (· = .u (.bool (decide (A = B)))) := by
 simp only [Vm.inss];by_cases hl : A.length = B.length
 ·have hl' : (A.length : Int) = B.length := by omega
  refine Fun.run Tryz.func54 Tryz.ntmps54 Tryz.results54 rfl (by simp) fun Γ hn => ?_; simp only [entry, List.zipIdx_cons, List.zipIdx_nil, List.map_cons, List.map_nil, Nat.zero_add];refine zie (x := 0) rfl fun hll => ?_;simp at hll
  repeat' (first
  | (refine zaf rfl ?_; simp [hl, hl'])
  | fail)
  refine zdz (α := { i : Nat // i <= A.length /\ A.take i = B.take i }) [0, 1, 11, 12] (fun i => [(13, .u (.int .i64 i.1))]) (fun i => []) 0 (fun i => A.length - i.1) ⟨0, by omega, rfl⟩ ?_ ?_
  ·exact (Wk.zem (by simp [hn, hl] <;> grind))
  rintro ⟨i, hi, hb⟩;simp;rcases hx : A[i]? with _ | a
  ·have hge : A.length <= i := by simpa using hx
   obtain rfl : i = A.length := by omega
   rw [List.take_of_length_le (Nat.le_refl _), List.take_of_length_le (by omega)] at hb;subst hb
   repeat' (first
  | (refine zaf rfl ?_; simp [hx, hl])
  | fail)
   (refine Pst.of ?_; simp)
  ·have hlt : i < A.length := (List.getElem?_eq_some_iff.1 hx).1;have hlt2 : i < B.length := by omega
   obtain ⟨b, hy⟩ : ∃ b, B[i]? = some b := ⟨_, List.getElem?_eq_getElem hlt2⟩;have hi2 : (i : Int) < B.length := by omega
   by_cases hab : a = b
   ·have hsn : A.take (i + 1) = B.take (i + 1) := by
     rw [List.take_succ_eq_append_getElem hlt, List.take_succ_eq_append_getElem hlt2, hb, (List.getElem?_eq_some_iff.1 hx).2, (List.getElem?_eq_some_iff.1 hy).2, hab]
    subst hab;have hax : A[i]'hlt = a := (List.getElem?_eq_some_iff.1 hx).2;have hbx : B[i]'hlt2 = a := (List.getElem?_eq_some_iff.1 hy).2
    repeat' (first
  | (refine zaf rfl ?_; simp [hx, hy, hi2, hax, hbx])
  | (refine And.intro (by omega) ?_)
  | (refine ⟨hC _ (by kernel_rfl), hk _ (zdb 8 _ _ _ ?_)⟩; clear hC hk C k; simp [hx, hy, hi2, hax, hbx])
  | (refine zdX rfl (by kernel_rfl) (by first | (simp [hn]; done) | (simp [hn]; omega) | fail) fun C k hC hk => ?_; simp [hx, hy, hi2, hax, hbx])
  | fail)
    refine LoopW.next ⟨i + 1, by omega, hsn⟩ (by simp; omega) ?_
    exact (Wk.zem (by simp [hn, hl] <;> grind))
   ·have hne : A ≠ B := fun e => by subst e; rw [hx] at hy; cases hy; exact hab rfl
    have hax : A[i]'hlt = a := (List.getElem?_eq_some_iff.1 hx).2;have hbx : B[i]'hlt2 = b := (List.getElem?_eq_some_iff.1 hy).2;rw [decide_eq_false hne];have hfa : ¬ (a.op = b.op /\ a.a = b.a /\ a.s = b.s) := fun ⟨h1, h2, h3⟩ => hab (by cases a; cases b; simp_all)
    repeat' (first
  | (refine Cnd.of (fun hc => ?_) (fun hc => ?_) <;> (try (exfalso; omega)) <;> (try simp [hx, hy, hi2, hax, hbx]))
  | (refine zaf rfl ?_; simp [hx, hy, hi2, hax, hbx])
  | (refine And.intro (by omega) ?_)
  | (refine ⟨hC _ (by kernel_rfl), hk _ (zdb 8 _ _ _ ?_)⟩; clear hC hk C k; simp [hx, hy, hi2, hax, hbx])
  | (refine zdX rfl (by kernel_rfl) (by first | (simp [hn]; done) | (simp [hn]; omega) | fail) fun C k hC hk => ?_; simp [hx, hy, hi2, hax, hbx])
  | fail)
    (refine Pst.of ?_; simp)
    exact absurd (by assumption) hfa
 ·have hl' : ¬ (A.length : Int) = B.length := by omega
  have hne : ¬ A = B := fun e => hl (by rw [e]);refine Fun.run Tryz.func54 Tryz.ntmps54 Tryz.results54 rfl (by simp) fun Γ hn => ?_
  repeat' (first
  | (refine zaf rfl ?_; simp [hl, hl'])
  | fail)
  (refine Pst.of ?_; simp)
  simp [hne]
theorem zpH (A B : Code) : Fun Tryz.prog 21 [.u (Vm.inss A), .u (Vm.inss B)] (· = .u (.bool (decide (A = B)))) := by
 have h := zsS A B;refine Fun.run Tryz.func21 Tryz.ntmps21 Tryz.results21 rfl (by simp) fun Γ hn => ?_
 repeat' (first
  | (refine zaf rfl ?_; simp)
  | (refine CallP.f2 rfl (h) (by first | simp <;> rfl | fail) ?_; simp)
  | fail)
 (refine Pst.of ?_; simp)
end Go.Proofs.YtkdhmbhbbciedaaGreatDoor
namespace Go.Proofs.YtkdhmbhbbciedaaGreatDoor
open Go Go.VL Go.Shelf Go.RowKit
def zkB (L : Code) (i : Nat) : List (Nat × Ob) := [(0, .box [.vec (i + 4) i]), (i + 4, .vec 44 3 (zdF (L.take i)))]
theorem zsV (t : W8) : ∃ (w r : W8) (b : Bool), zsW 32 t = .tup [.u (.str w), .u (.str r), .u (.bool b)] /\ zl3 t = (if zjJ wordsL w 0 = 1 then ⟨1, 0, r⟩ else ⟨zjJ wordsL w 0, zlq r, []⟩) /\ r.length <= t.length := by
 cases hc : zg1 32 t with
 | none => exact ⟨t, [], false, by simp [zsW, hc], by simp [zl3, hc], by simp⟩
 | some p => exact ⟨p.1, p.2, true, by simp [zsW, hc], by simp [zl3, hc], Nat.le_of_lt (zsT (p := p.1) hc)⟩
end Go.Proofs.YtkdhmbhbbciedaaGreatDoor
namespace Go.Proofs.YtkdhmbhbbciedaaGreatDoor
open Go Go.VL
theorem zlM {l : List Tok} (hl : TokOK l) {f p : Nat} (hE : zg8 l f) (hf : 4 * (l.length - p) <= f) {t : Tok} (ht : l[p]? = some t) (hk : ¬ t.kind = 2) (h1 : isB l p [116, 114, 117, 101] = false) (h2 : isB l p [102, 97, 108, 115, 101] = false)
  (h3 : isB l p [109, 105, 110] = true) (h4 : isB l p [109, 97, 120] = false) {i nx : Nat} (hi : i < nx) :
  RetX Tryz.prog 170 [.ptr i 0] [(i, pOb l p)] nx (PPost l i nx zpD (zbj l (f + 1) p)) := ziM hl hE hf ht hk h1 h2 (.inr ⟨h3, h4⟩) hi
end Go.Proofs.YtkdhmbhbbciedaaGreatDoor
namespace Go.Proofs.YtkdhmbhbbciedaaGreatDoor
open Go Go.VL
attribute [local simp] za2 zcH zbP evPure opd uOf zaq St.put St.at getK binD binI binS binB nilD aggD ze4 zfg lookD lookR zbM rangeS Go.VL.nextD Go.VL.nextS zbR zfi zfh zeD zb0 mkV zaX zaE zaD zaC zcG zaA zaP za5 mapEff zdm zeo Key.kk shiftI arith unD convD zda loadD cellsAt fieldAddrD fieldD indexAddrD indexSlD arrAddr indexD sliceD cutD lenD minmaxD nilCheckD buildD fillD zbv zcI zec setAll zcA zd1 zbK zeT zbJ St.add zak zbd rowsOf zcU zcb zad zac zaa zaW zcy zaH entry zah zaj valD zbW zcu zeU zcN zcO zbC zbu zag zaM za4 delAll effD St.effS zb6 zaF zat zb7 zaG zav zbq zau zam zbr zb5 za1 zbm zaO zbl zai mkD zbi zbb zbf zag zbT D.ids Op.operands Call.operands zbc makeIfD makeFuncD typeAssertD zff zcX zcY zfb zbN IntKind.bits zcx List.take_of_length_le List.range_succ zcm zbF zcn zch zba zbw zby zci zbA zaU zbz zbx zfO zbE zck zaK zaw zcl zaL zay zbD zax zap zcq zcr zfN zab frzN frz1 zaR zaQ St.frz St.frzS frzS fv zbQ zb2 zb3 zaS zaz zan frz zcd zbU zbY zbZ za6 St.norm St.lp St.only zaY wkE wkO wkU Ob.under D.under zal zar zco zbG zcp h4s zdT zas za7 List.zipIdx_cons List.zipIdx_nil List.map_cons List.map_nil Nat.zero_add
attribute [local irreducible] V G H HD HD2 za3 Eff CallP CallV EndOK Fun Ret FinOK LoopI LoopW EndW HR vs2 RN Cnd H4
theorem zpc (s : List UInt8) : Fun Tryz.prog 138 [.u (.str s)] (· = ziX (zpd s)) := by
 unfold zpd;by_cases hlong : 2000 < s.length
 ·have hlong2 : 2000 < (s.length : Int) := by omega
  rw [if_pos hlong];refine Fun.runW Tryz.func138 Tryz.ntmps138 rfl (by simp) fun Γ hn => ?_
  repeat' (first
  | (refine zaf rfl ?_; simp [hlong, hlong2])
  | fail)
  refine EndW.norm (EndW.here ?_)
  (refine EndOK.val (.inr rfl) ?_; simp [Tryz.results138])
  simp [ziX]
 rw [if_neg hlong];have hlong2 : ¬ 2000 < (s.length : Int) := by omega
 obtain ⟨R, hR⟩ : ∃ R, R = zpf (s.length + 1) s 0 := ⟨_, rfl⟩;rw [<- hR];refine Fun.runW Tryz.func138 Tryz.ntmps138 rfl (by simp) fun Γ hn => ?_
 repeat' (first
  | (refine zaf rfl ?_; simp [hlong, hlong2])
  | fail)
 refine zov _ (Wk.own 5 148 4 (by decide) rfl) ?_;simp [St.own];refine zdz (α := { x : List Tok × Nat × Nat // x.2.1 <= s.length /\ s.length < x.2.1 + x.2.2 /\ x.1.length <= x.2.1 /\ R = znx x.1 (zpf x.2.2 s x.2.1) }) [0] (fun x => [(5, .vec 0 x.1.1.length), (6, .u (.int .i64 x.1.2.1))]) (fun x => [(0, .vec 148 4 (zkm x.1.1))]) 1 (fun x => x.1.2.2) ⟨([], 0, s.length + 1), by simp, by simp, by simp, by rw [zoS, hR]⟩ ?_ ?_
 ·exact (Wk.zem (by simp [hn, zkm] <;> grind))
 rintro ⟨⟨acc, p, f⟩, h1, h2, h3, h4⟩;simp only at h1 h2 h3 h4;simp;obtain ⟨f', rfl⟩ : ∃ f', f = f' + 1 := ⟨f - 1, by omega⟩;rw [zpf] at h4;have hsp := zf5 (s.drop p) (by rw [List.length_drop]; omega) 166 zcW (fun c _ => zp0 c) (by simp);have hle := zep zcW (s.drop p);rw [List.length_drop] at hle;obtain ⟨b, hb⟩ : ∃ b, b = zdn zcW (s.drop p) := ⟨_, rfl⟩;rw [<- hb] at hsp hle h4;have hp1 : (p : Int) <= s.length := by omega
 have hpb : (p : Int) + b <= s.length := by omega
 rcases hd : s.drop (p + b) with _ | ⟨c, r⟩
 ·have hdl : (s.drop (p + b)).length = 0 := by rw [hd]; rfl
  rw [List.length_drop] at hdl;have hpe : p + b = s.length := by omega
  have hpe2 : (p : Int) + b = s.length := by omega
  rw [hd] at h4;simp only at h4;have hap : zkm acc ++ [[D.u (.int .i64 0), D.u (.str []), D.u (.int .i64 0), D.u (.int .i64 (s.length : Int))]] = zkm (acc ++ [⟨0, [], 0, s.length⟩]) := by simp [zkm]
  have hlr : zot 4 (zkm acc) := fun r hr => by obtain ⟨t, _, rfl⟩ := List.mem_map.1 hr; rfl
  rw [hpe] at h4
  repeat' (first
  | (refine zaf rfl ?_; simp [h1, hp1, hpe2, zd9, hap, hlr])
  | (refine And.intro (by omega) ?_)
  | (refine CallP.f2 rfl (hsp) (by first | simp [h1, hp1, hpe2, zd9, hap, hlr] <;> rfl | fail) ?_; simp [h1, hp1, hpe2, zd9, hap, hlr])
  | fail)
  (refine EndW.frzN 3 ?_; simp [del, zmF, zd9, List.length_append])
  refine EndW.norm (EndW.here ?_)
  (refine EndOK.val (.inr rfl) ?_; simp [Tryz.results138, zmF, zd9, List.length_append])
  rw [h4];simp [znx, ziX]
 ·have hdl : (s.drop (p + b)).length = r.length + 1 := by rw [hd]; rfl
  rw [List.length_drop] at hdl;have hpe : ¬ p + b = s.length := by omega
  have hpe2 : ¬ (p : Int) + b = s.length := by omega
  have hnx := zqJ (s.drop (p + b)) (by rw [hd]; simp) (by rw [List.length_drop]; omega);unfold nextD at hnx;rw [hd] at h4;simp only at h4;rw [hd] at hnx;have hpb2 : ((p : Int) + b).toNat = p + b := by omega
  have hpb3 : p + b <= s.length := by omega
  cases hno : zil (c :: r) with
  | error e =>
   rw [hno] at h4 hnx;have he : e ≠ 0 := by
    unfold zil at hno;simp only at hno;split at hno
    ·split at hno <;> cases hno;omega
    ·split at hno
     ·split at hno <;> cases hno;omega
     ·split at hno <;> cases hno;omega
   repeat' (first
  | (refine zaf rfl ?_; simp [h1, hp1, hpe, hpe2, hd, he, hpb, hpb2, hpb3])
  | (refine And.intro (by omega) ?_)
  | ((first | refine CallP.f2 rfl (hsp) (by first | simp [h1, hp1, hpe, hpe2, hd, he, hpb, hpb2, hpb3] <;> rfl | fail) ?_ | refine CallP.f2 rfl (hnx) (by first | simp [h1, hp1, hpe, hpe2, hd, he, hpb, hpb2, hpb3] <;> rfl | fail) ?_ | fail); simp [h1, hp1, hpe, hpe2, hd, he, hpb, hpb2, hpb3])
  | fail)
   refine EndW.norm (EndW.here ?_)
   (refine EndOK.val (.inr rfl) ?_; simp [Tryz.results138])
   rw [h4];simp [znx, ziX]
  | ok t =>
   rw [hno] at h4 hnx;obtain ⟨ht1, ht2⟩ := zgE hno;simp only [List.length_cons] at ht2;have hap : zkm acc ++ [[D.u (.int .i64 t.kind), D.u (.str t.text), D.u (.int .i64 t.n), D.u (.int .i64 ((p : Int) + b))]] = zkm (acc ++ [{ t with pos := ((p + b : Nat) : Int) }]) := by simp [zkm]
   have hlr : zot 4 (zkm acc) := fun r hr => by obtain ⟨t, _, rfl⟩ := List.mem_map.1 hr; rfl
   repeat' (first
  | (refine zaf rfl ?_; simp [h1, hp1, hpe, hpe2, hd, hpb, hpb2, hpb3, zd9, hap, hlr])
  | (refine And.intro (by omega) ?_)
  | ((first | refine CallP.f2 rfl (hsp) (by first | simp [h1, hp1, hpe, hpe2, hd, hpb, hpb2, hpb3, zd9, hap, hlr] <;> rfl | fail) ?_ | refine CallP.f2 rfl (hnx) (by first | simp [h1, hp1, hpe, hpe2, hd, hpb, hpb2, hpb3, zd9, hap, hlr] <;> rfl | fail) ?_ | fail); simp [h1, hp1, hpe, hpe2, hd, hpb, hpb2, hpb3, zd9, hap, hlr])
  | fail)
   refine LoopW.next ⟨(acc ++ [{ t with pos := ((p + b : Nat) : Int) }], p + b + t.text.length, f'), by simp; omega, by simp; omega, by simp; omega, ?_⟩ (by simp) ?_
   ·rw [h4];simp only;cases zpf f' s (p + b + t.text.length) <;> simp [znx]
   ·skip
    exact (Wk.ren ((fun i => if i = 0 then 3 else i)) rfl (by first | (simp [hn]; done) | (intro i hi; rw [hn] at hi; constructor <;> (try simp) <;> (try (intro _)) <;> omega)) (by simp [zgu, St.lp, zaY, zaa, getK, zac, zad, D.under, D.le, D.ren, zhE, zgy] <;> (try (intros; simp_all; done)) <;> (try omega)) (by simp [wkR, St.lp, zaa, getK, zac, zad, obR, leU, zbn, zaN, Ob.under, D.under, D.le, D.ren, zhE, zgy] <;> (try (intros; simp_all; done)) <;> (try omega)) (by simp [zhE, zgy]))
theorem zm8 (lets : List Let) (y z : U) (n : Nat) (s : List UInt8) (hn' : n <= lets.length) (hn2 : n <= 1000) : Fun Tryz.prog 66 [.u (.row [zaB lets, y, z] 0), .u (.int .i64 n), .u (.str s)] (· = .u (.int .i64 (ixO (zfM lets n s)))) := by
 generalize hR : zfM lets n s = R;simp only [zaB];refine Fun.run Tryz.func66 Tryz.ntmps66 Tryz.results66 rfl (by simp) fun Γ hn => ?_
 repeat' (first
  | (refine zaf rfl ?_; simp)
  | (refine And.intro (by omega) ?_)
  | fail)
 refine zdh (α := { i : Nat // i <= n /\ zfM lets i s = R }) [0, 2] (fun i => [(7, .u (.int .i64 ((i.1 : Int) - 1)))]) (fun i => i.1) ⟨n, Nat.le_refl _, hR⟩ ?_ ?_
 ·exact (Wk.zem (by simp [hn] <;> grind))
 rintro ⟨i, hi, hinv⟩;simp;cases i with
 | zero =>
  have hinv2 := hinv;rw [zfM] at hinv2;subst hinv2
  repeat' (first
  | (refine zaf rfl ?_; simp)
  | fail)
  (refine Pst.of ?_; simp)
  rfl
 | succ j =>
  have hj : j < lets.length := by omega
  have hl : lets[j]? = some lets[j] := List.getElem?_eq_getElem hj;have hsub : ((j + 1 : Nat) : Int) - 1 = (j : Int) := by omega
  have hsub2 : (j : Int) + 1 - 1 = (j : Int) := by omega
  generalize lets[j] = l at hl;have hinv2 := hinv;rw [zfM, hl] at hinv2;simp only at hinv2;by_cases hnm : l.name = s
  ·rw [if_pos hnm] at hinv2;subst hinv2
   repeat' (first
  | (refine zaf rfl ?_; simp [hsub, hsub2, hl, hnm])
  | fail)
   (refine Pst.of ?_; simp)
   rfl
  ·rw [if_neg hnm] at hinv2
   repeat' (first
  | (refine zaf rfl ?_; simp [hsub, hsub2, hl, hnm])
  | (refine And.intro (by omega) ?_)
  | fail)
   refine LoopW.next ⟨j, by omega, hinv2⟩ (by simp) ?_
   exact (Wk.zem (by simp [hn] <;> grind))
theorem zdA (lets : List Let) (shs : List Bool) (z : U) (n : Nat) (hn' : n <= lets.length) (hn1 : n <= shs.length) (hn2 : n <= 1000) : ∀ (d : Nat) (e : Exp), za0 d e = true -> Fun Tryz.prog 35 [.u (.row [zaB lets, zaI shs, z] 0), .u (.int .i64 n), zcC e] (· = .u (.bool (zcv (nmS lets shs n) e)))
 | 0, e, h => by simp [za0] at h
 | d + 1, e, h => by
  obtain ⟨h1, h2, h3, h4⟩ := zdj h;rw [zkt];by_cases h0 : e.op = 0
  ·rw [if_pos h0];refine Fun.run Tryz.func35 Tryz.ntmps35 Tryz.results35 rfl (by simp) fun Γ hn => ?_; simp only [entry, List.zipIdx_cons, List.zipIdx_nil, List.map_cons, List.map_nil, Nat.zero_add];simp only [zcC]
   repeat' (first
  | (refine zaf rfl ?_; simp [h0])
  | fail)
   (refine Pst.of ?_; simp)
  rw [if_neg h0];by_cases hnm : e.op = 1
  ·rw [if_pos hnm];have hlet := zm8 lets (zaI shs) z n e.s hn' hn2;cases hi : zfM lets n e.s with
   | none =>
    rw [hi] at hlet;simp only [ixO, zaI, zaB] at hlet;refine Fun.run Tryz.func35 Tryz.ntmps35 Tryz.results35 rfl (by simp) fun Γ hn => ?_; simp only [entry, List.zipIdx_cons, List.zipIdx_nil, List.map_cons, List.map_nil, Nat.zero_add];simp only [zcC, zaI, zaB]
    repeat' (first
  | (refine zaf rfl ?_; simp [h0, hnm])
  | (refine CallP.f2 rfl (hlet) (by first | simp [h0, hnm] <;> rfl | fail) ?_; simp [h0, hnm])
  | fail)
    (refine Pst.of ?_; simp)
    simp [nmS, hi]
   | some i =>
    rw [hi] at hlet;simp only [ixO, zaI, zaB] at hlet;obtain ⟨q1, _⟩ := zgG hi;have q2 : i < shs.length := by omega
    have q3 : shs[i]? = some shs[i] := List.getElem?_eq_getElem q2;have q4 : shs.getD i false = shs[i] := by rw [List.getD_eq_getElem?_getD, q3]; rfl
    have q5 : (i : Int) < shs.length := by omega
    have q6 : ¬ (i : Int) < 0 := by omega
    refine Fun.run Tryz.func35 Tryz.ntmps35 Tryz.results35 rfl (by simp) fun Γ hn => ?_; simp only [entry, List.zipIdx_cons, List.zipIdx_nil, List.map_cons, List.map_nil, Nat.zero_add];simp only [zcC, zaI, zaB]
    repeat' (first
  | (refine zaf rfl ?_; simp [h0, hnm, q2, q6])
  | (refine CallP.f2 rfl (hlet) (by first | simp [h0, hnm, q2, q6] <;> rfl | fail) ?_; simp [h0, hnm, q2, q6])
  | fail)
    (refine Pst.of ?_; simp)
    simp [nmS, hi, q2]
  rw [if_neg hnm];have hr := h4 h0 hnm;by_cases hA : e.op = 2 \/ e.op = 3 \/ e.op = 6 \/ e.op = 7
  ·rw [if_pos hA];have hl : e.args.length = 2 := by
    rcases hA with ha | ha | ha | ha <;> rw [ha] at h1 <;> simp [zbt] at h1 <;> omega
   obtain ⟨a, b, hab⟩ : ∃ a b, e.args = [a, b] := by
    match hq : e.args, hl with
    | [a, b], _ => exact ⟨a, b, rfl⟩
   have h5 := zdA lets shs z n hn' hn1 hn2 d a (hr a (by simp [hab]));simp only [zcC, zaI, zaB] at h5;rw [hab, zdr];rcases hA with ha | ha | ha | ha
   all_goals
    refine Fun.run Tryz.func35 Tryz.ntmps35 Tryz.results35 rfl (by simp) fun Γ hn => ?_; simp only [entry, List.zipIdx_cons, List.zipIdx_nil, List.map_cons, List.map_nil, Nat.zero_add];simp only [zcC, zaI, zaB]
    repeat' (first
  | (refine zaf rfl ?_; simp [ha, hab, a.row_eq, b.row_eq])
  | (refine CallP.f2 rfl (h5) (by first | simp [ha, hab, a.row_eq, b.row_eq] <;> rfl | fail) ?_; simp [ha, hab, a.row_eq, b.row_eq])
  | fail)
    (refine Pst.of ?_; simp)
  rw [if_neg hA];by_cases hB : e.op = 4
  ·rw [if_pos hB];have hl : e.args.length = 2 := by rw [hB] at h1; simp [zbt] at h1; omega
   obtain ⟨a, b, hab⟩ : ∃ a b, e.args = [a, b] := by
    match hq : e.args, hl with
    | [a, b], _ => exact ⟨a, b, rfl⟩
   have h5 := zdA lets shs z n hn' hn1 hn2 d a (hr a (by simp [hab]));have h6 := zdA lets shs z n hn' hn1 hn2 d b (hr b (by simp [hab]));simp only [zcC, zaI, zaB] at h5 h6;rw [hab, zdr, zdr, zdr];generalize zcv (nmS lets shs n) a = x1 at h5 ⊢;generalize zcv (nmS lets shs n) b = x2 at h6 ⊢;refine Fun.run Tryz.func35 Tryz.ntmps35 Tryz.results35 rfl (by simp) fun Γ hn => ?_; simp only [entry, List.zipIdx_cons, List.zipIdx_nil, List.map_cons, List.map_nil, Nat.zero_add];simp only [zcC, zaI, zaB]
   repeat' (first
  | (refine Cnd.of (fun hc => ?_) (fun hc => ?_) <;> (try (exfalso; omega)) <;> (try simp [hB, hab, a.row_eq, b.row_eq]))
  | (refine zaf rfl ?_; simp [hB, hab, a.row_eq, b.row_eq])
  | ((first | refine CallP.f2 rfl (h5) (by first | simp [hB, hab, a.row_eq, b.row_eq] <;> rfl | fail) ?_ | refine CallP.f2 rfl (h6) (by first | simp [hB, hab, a.row_eq, b.row_eq] <;> rfl | fail) ?_ | fail); simp [hB, hab, a.row_eq, b.row_eq])
  | fail)
   all_goals
    (refine Pst.of ?_; simp)
   all_goals (simp_all; done)
  rw [if_neg hB];by_cases hC' : e.op = 13
  ·rw [if_pos hC'];have hl : e.args.length = 3 := by rw [hC'] at h1; simp [zbt] at h1; omega
   obtain ⟨a, b, c, hab⟩ : ∃ a b c, e.args = [a, b, c] := by
    match hq : e.args, hl with
    | [a, b, c], _ => exact ⟨a, b, c, rfl⟩
   have h5 := zdA lets shs z n hn' hn1 hn2 d b (hr b (by simp [hab]));simp only [zcC, zaI, zaB] at h5;rw [hab, zdr, zdr];refine Fun.run Tryz.func35 Tryz.ntmps35 Tryz.results35 rfl (by simp) fun Γ hn => ?_; simp only [entry, List.zipIdx_cons, List.zipIdx_nil, List.map_cons, List.map_nil, Nat.zero_add];simp only [zcC, zaI, zaB]
   repeat' (first
  | (refine zaf rfl ?_; simp [hC', hab, a.row_eq, b.row_eq, c.row_eq])
  | (refine CallP.f2 rfl (h5) (by first | simp [hC', hab, a.row_eq, b.row_eq, c.row_eq] <;> rfl | fail) ?_; simp [hC', hab, a.row_eq, b.row_eq, c.row_eq])
  | fail)
   (refine Pst.of ?_; simp)
  rw [if_neg hC'];have hD : ¬ e.op = 2 /\ ¬ e.op = 3 /\ ¬ e.op = 6 /\ ¬ e.op = 7 := by omega
  obtain ⟨g1, g2, g3, g4⟩ := hD;refine Fun.run Tryz.func35 Tryz.ntmps35 Tryz.results35 rfl (by simp) fun Γ hn => ?_; simp only [entry, List.zipIdx_cons, List.zipIdx_nil, List.map_cons, List.map_nil, Nat.zero_add];simp only [zcC, zaI, zaB]
  repeat' (first
  | (refine zaf rfl ?_; simp [h0, hnm, g1, g2, g3, g4, hB, hC'])
  | fail)
  (refine Pst.of ?_; simp)
theorem zoU (lets : List Let) (shs : List Bool) (z : U) (n : Nat) (hn' : n <= lets.length) (hn1 : n <= shs.length) (hn2 : n <= 1000) (d : Nat) (e : Exp) (h : za0 (d + 1) e = true) (hop : 2 <= e.op /\ e.op <= 9 \/ e.op = 12) :
  Fun Tryz.prog 68 [.u (.row [zaB lets, zaI shs, z] 0), .u (.int .i64 n), zcC e] (· = .u (.int .i64 (zaT (zcv (nmS lets shs n)) e.op e.args))) := by
 obtain ⟨h1, h2, h3, h4⟩ := zdj h;have hr := h4 (by omega) (by omega);by_cases hB : e.op = 4
 ·have hl : e.args.length = 2 := by rw [hB] at h1; simp [zbt] at h1; omega
  obtain ⟨a, b, hab⟩ : ∃ a b, e.args = [a, b] := by
   match hq : e.args, hl with
   | [a, b], _ => exact ⟨a, b, rfl⟩
  have h5 := zdA lets shs z n hn' hn1 hn2 d a (hr a (by simp [hab]));have h6 := zdA lets shs z n hn' hn1 hn2 d b (hr b (by simp [hab]));simp only [zcC, zaI, zaB] at h5 h6;have hp : zaT (zcv (nmS lets shs n)) e.op e.args = if (zcv (nmS lets shs n) a || zcv (nmS lets shs n) b) = true then 6 else 4 := by simp [zaT, hB, hab]
  rw [hp];generalize zcv (nmS lets shs n) a = x1 at h5 ⊢;generalize zcv (nmS lets shs n) b = x2 at h6 ⊢;refine Fun.run Tryz.func68 Tryz.ntmps68 Tryz.results68 rfl (by simp) fun Γ hn => ?_; simp only [entry, List.zipIdx_cons, List.zipIdx_nil, List.map_cons, List.map_nil, Nat.zero_add];simp only [zcC, zaI, zaB]
  repeat' (first
  | (refine Cnd.of (fun hc => ?_) (fun hc => ?_) <;> (try (exfalso; omega)) <;> (try simp [hB, hab, a.row_eq, b.row_eq]))
  | (refine zaf rfl ?_; simp [hB, hab, a.row_eq, b.row_eq])
  | ((first | refine CallP.f2 rfl (h5) (by first | simp [hB, hab, a.row_eq, b.row_eq] <;> rfl | fail) ?_ | refine CallP.f2 rfl (h6) (by first | simp [hB, hab, a.row_eq, b.row_eq] <;> rfl | fail) ?_ | fail); simp [hB, hab, a.row_eq, b.row_eq])
  | fail)
  all_goals
   (refine Pst.of ?_; simp)
  all_goals (simp_all; done)
 ·rcases (show e.op = 2 \/ e.op = 3 \/ e.op = 5 \/ e.op = 6 \/ e.op = 7 \/ e.op = 8 \/ e.op = 9 \/ e.op = 12 by omega) with ho | ho | ho | ho | ho | ho | ho | ho
  all_goals
   have hp : ∃ r, zaT (zcv (nmS lets shs n)) e.op e.args = r /\ r = zaT (zcv (nmS lets shs n)) e.op [] := ⟨_, rfl, by simp [zaT, ho]⟩;obtain ⟨r, hp1, hp2⟩ := hp;rw [hp1];rw [ho] at hp2;simp only [zaT, if_true, if_false, if_pos, if_neg, Int.reduceEq] at hp2;subst hp2;refine Fun.run Tryz.func68 Tryz.ntmps68 Tryz.results68 rfl (by simp) fun Γ hn => ?_; simp only [entry, List.zipIdx_cons, List.zipIdx_nil, List.map_cons, List.map_nil, Nat.zero_add];simp only [zcC, zaI, zaB]
   repeat' (first
  | (refine zaf rfl ?_; simp [ho])
  | fail)
   (refine Pst.of ?_; simp)
theorem zrb (x y : U) (code : Code) : Fun Tryz.prog 37 [.u (.row [x, y, Vm.inss code] 0)] (· = .u (.bool (decide (2000 <= code.length)))) := by
 simp only [Vm.inss];refine Fun.run Tryz.func37 Tryz.ntmps37 Tryz.results37 rfl (by simp) fun Γ hn => ?_
 repeat' (first
  | (refine zaf rfl ?_; simp)
  | fail)
 all_goals
  (refine Pst.of ?_; simp)
 all_goals first | omega | (simp; omega)
theorem zob (op : Int) : Fun Tryz.prog 48 [.u (.int .i64 op)] (· = .tup [.u (.int .i64 (zct op)), .u (.int .i64 (zbk op))]) := by
 refine Fun.run Tryz.func48 Tryz.ntmps48 Tryz.results48 rfl (by simp) fun Γ hn => ?_
 repeat' (first
  | (refine Cnd.of (fun hc => ?_) (fun hc => ?_) <;> (try (exfalso; omega)) <;> (try simp))
  | (refine zaf rfl ?_; simp)
  | fail)
 all_goals
  (refine Pst.of ?_; simp)
 all_goals (unfold zct zbk; simp_all)
theorem zn2 (l : Code) (i : Nat) (x : Ins) (hx : l[i]? = some x) (hl : l.length <= 1000000) : Fun Tryz.prog 47 [.u (Vm.inss l), .u (.int .i64 i)] (· = .u (.bool (zdx x i l.length))) := by
 have hi := (List.getElem?_eq_some_iff.1 hx).1;have hnam := zjD x.s;unfold zdx;generalize zf8 x.s = nm at hnam ⊢;obtain ⟨op, a, s⟩ := x;simp only [Vm.inss] at hnam ⊢;refine Fun.run Tryz.func47 Tryz.ntmps47 Tryz.results47 rfl (by simp) fun Γ hn => ?_
 repeat' (first
  | (refine Cnd.of (fun hc => ?_) (fun hc => ?_) <;> (try (exfalso; omega)) <;> (try simp [hx, Vm.Ins.row]))
  | (refine zaf rfl ?_; simp [hx, Vm.Ins.row])
  | (refine CallP.f2 rfl (hnam) (by first | simp [hx, Vm.Ins.row] <;> rfl | fail) ?_; simp [hx, Vm.Ins.row])
  | fail)
 all_goals
  (refine Pst.of ?_; simp)
 all_goals grind
theorem zeO (l : Code) (hll : l.length <= 1000000) : Fun Tryz.prog 17 [.u (Vm.inss l)] (· = .u (.bool (zb8 l))) := by
 have hl1 : ((l.length : Int) + 1).toNat = l.length + 1 := by omega
 simp only [Vm.inss];refine Fun.run Tryz.func17 Tryz.ntmps17 Tryz.results17 rfl (by simp) fun Γ hn => ?_; simp only [entry, List.zipIdx_cons, List.zipIdx_nil, List.map_cons, List.map_nil, Nat.zero_add];by_cases h0 : l.length = 0
 ·have h0' : l = [] := by simpa using h0
  subst h0'
  repeat' (first
  | (refine zaf rfl ?_; simp)
  | fail)
  (refine Pst.of ?_; simp)
  simp [zb8]
 have h0' : ¬ l = [] := by simpa using h0
 by_cases h2 : 2000 < l.length
 ·have h2' : (2000 : Int) < l.length := by omega
  repeat' (first
  | (refine zaf rfl ?_; simp [h0', h2, h2'])
  | fail)
  (refine Pst.of ?_; simp)
  unfold zb8;rw [decide_eq_false (show ¬ l.length <= 2000 by omega)];simp
 have h2' : ¬ (2000 : Int) < l.length := by omega
 repeat' (first
  | (refine zaf rfl ?_; simp [h0', h2, h2', hl1])
  | (refine And.intro (by omega) ?_)
  | fail)
 refine zdz (α := { i : Nat // i <= l.length /\ ∀ j x, j < i -> l[j]? = some x -> zdx x j l.length = true }) [0, 3, 26] (fun i => [(27, .u (.int .i64 i.1))]) (fun i => [(0, .vec 3 1 (zi0 (hi1 l.length i.1)))]) 1 (fun i => l.length - i.1) ⟨0, by omega, by omega⟩ ?_ ?_
 ·exact (Wk.zem (by simp [hn, zq9, zq5, zdR] <;> grind))
 rintro ⟨i, hi, hf⟩;simp;rcases hx : l[i]? with _ | x
 ·have hge : l.length <= i := by simpa using hx
  obtain rfl : i = l.length := by omega
  have hfm : zgh l = true := zn1 fun j x hj => hf j x (List.getElem?_eq_some_iff.1 hj).1 hj
  repeat' (first
  | (refine zaf rfl ?_; simp [hx])
  | fail)
  refine zdz (α := HiAt l) [0, 3, 39, 40] (fun s => [(41, .u (.int .i64 s.i))]) (fun s => [(0, .vec 3 1 (zi0 s.hi))]) 1 (fun s => l.length - s.i) ⟨0, _, by omega, rfl, by simp, fun z hz => by
   rcases List.mem_cons.1 hz with rfl | hz
   ·omega
   ·rw [List.eq_of_mem_replicate hz]; omega⟩ ?_ ?_
  ·exact (Wk.zem (by simp [hn, zsK, zdR] <;> grind))
  rintro ⟨i, hi, hle, go, len, lo⟩;simp;rcases hy : l[i]? with _ | y
  ·have hge : l.length <= i := by simpa using hy
   obtain rfl : i = l.length := by omega
   obtain ⟨w, hw⟩ : ∃ w, hi[l.length]? = some w := ⟨_, List.getElem?_eq_getElem (by omega)⟩;have hR : zb8 l = decide (w < 0) := by
    have : hi.getD l.length (-1) = w := by simp [List.getD, hw]
    unfold zb8;rw [go, hfm, decide_eq_true (show 0 < l.length by omega), decide_eq_true (show l.length <= 2000 by omega)];simp only [this, Bool.true_and]
   rw [hR]
   repeat' (first
  | (refine zaf rfl ?_; simp [hy, zbp, zbe, hw])
  | (refine And.intro ?_ (by omega))
  | fail)
   (refine Pst.of ?_; simp)
  have hlt : i < l.length := (List.getElem?_eq_some_iff.1 hy).1;have h5 := zob y.op;obtain ⟨v, hv⟩ : ∃ v, hi[i]? = some v := ⟨_, List.getElem?_eq_getElem (by omega)⟩;have hvb := lo v (List.mem_of_getElem? hv);have hst := zqC go hy hv;obtain ⟨n1, n2⟩ := zqL y.op;obtain ⟨m1, m2⟩ := znP y.op;by_cases hv0 : v < 0
  ·rw [if_pos hv0] at hst
   repeat' (first
  | (refine Cnd.of (fun hc => ?_) (fun hc => ?_) <;> (try (exfalso; omega)) <;> (try simp [hy, zbp, zbe, hv, hv0]))
  | (refine zaf rfl ?_; simp [hy, zbp, zbe, hv, hv0])
  | (refine And.intro (by omega) ?_)
  | (refine And.intro ?_ (by omega))
  | (refine CallP.f2 rfl (h5) (by first | simp [hy, zbp, zbe, hv, hv0] <;> rfl | fail) ?_; simp [hy, zbp, zbe, hv, hv0])
  | fail)
   refine LoopW.next ⟨i + 1, hi, by omega, hst, len, fun z hz => by have := lo z hz; omega⟩ (by simp; omega) ?_
   exact (Wk.zem (by simp [hn, zdR] <;> grind))
  rw [if_neg hv0] at hst;by_cases hbad : v < zct y.op \/ (y.op = 14 /\ v ≠ 1)
  ·rw [if_pos hbad] at hst;rw [ziJ hst hlt];rcases hbad with hb1 | ⟨hb1, hb2⟩
   ·repeat' (first
  | (refine Cnd.of (fun hc => ?_) (fun hc => ?_) <;> (try (exfalso; omega)) <;> (try simp [hy, zbp, zbe, hv, hv0, hb1]))
  | (refine zaf rfl ?_; simp [hy, zbp, zbe, hv, hv0, hb1])
  | (refine And.intro (by omega) ?_)
  | (refine And.intro ?_ (by omega))
  | (refine CallP.f2 rfl (h5) (by first | simp [hy, zbp, zbe, hv, hv0, hb1] <;> rfl | fail) ?_; simp [hy, zbp, zbe, hv, hv0, hb1])
  | fail)
    (refine Pst.of ?_; simp)
   ·repeat' (first
  | (refine Cnd.of (fun hc => ?_) (fun hc => ?_) <;> (try (exfalso; omega)) <;> (try simp [hy, zbp, zbe, hv, hv0, hb2, ((propext (iff_true_intro hb1)) : (y.op = 14) = True)]))
  | (refine zaf rfl ?_; simp [hy, zbp, zbe, hv, hv0, hb2, ((propext (iff_true_intro hb1)) : (y.op = 14) = True)])
  | (refine And.intro (by omega) ?_)
  | (refine And.intro ?_ (by omega))
  | (refine CallP.f2 rfl (h5) (by first | simp [hy, zbp, zbe, hv, hv0, hb2, ((propext (iff_true_intro hb1)) : (y.op = 14) = True)] <;> rfl | fail) ?_; simp [hy, zbp, zbe, hv, hv0, hb2, ((propext (iff_true_intro hb1)) : (y.op = 14) = True)])
  | fail)
    all_goals
     (refine Pst.of ?_; simp)
  rw [if_neg hbad] at hst;have hb1 : ¬ v < zct y.op := fun h => hbad (.inl h);by_cases h14 : y.op = 14
  ·have hv1 : v = 1 := Classical.byContradiction fun h => hbad (.inr ⟨h14, h⟩);have hn14 : zdJ y i = [] := by simp [zdJ, h14]
   rw [hn14] at hst;simp only [zg6] at hst;subst hv1
   repeat' (first
  | (refine Cnd.of (fun hc => ?_) (fun hc => ?_) <;> (try (exfalso; omega)) <;> (try simp [hy, zbp, zbe, hv, hb1, ((propext (iff_true_intro h14)) : (y.op = 14) = True)]))
  | (refine zul ?_)
  | (refine zaf rfl ?_; simp [hy, zbp, zbe, hv, hb1, ((propext (iff_true_intro h14)) : (y.op = 14) = True)])
  | (refine And.intro (by omega) ?_)
  | (refine And.intro ?_ (by omega))
  | (refine CallP.f2 rfl (h5) (by first | simp [hy, zbp, zbe, hv, hb1, ((propext (iff_true_intro h14)) : (y.op = 14) = True)] <;> rfl | fail) ?_; simp [hy, zbp, zbe, hv, hb1, ((propext (iff_true_intro h14)) : (y.op = 14) = True)])
  | fail)
   refine LoopW.next ⟨i + 1, hi, by omega, hst, len, fun z hz => by have := lo z hz; omega⟩ (by simp; omega) ?_
   exact (Wk.zem (by simp [hn, zdR] <;> grind))
  have hfo := zfG hfm hy;obtain ⟨ks, hks, hcase⟩ : ∃ ks : List Nat, zdJ y i = ks /\ (((y.op = 12) = True /\ ((12 : Int) = 13) = False /\ ks = [y.a.toNat] /\ ((y.a.toNat : Nat) : Int) = y.a) \/ ((y.op = 12) = False /\ (y.op = 13) = True /\ ks = [i + 1, y.a.toNat] /\ ((y.a.toNat : Nat) : Int) = y.a) \/
    ((y.op = 12) = False /\ (y.op = 13) = False /\ ks = [i + 1] /\ ((i + 1 : Nat) : Int) = i + 1)) := by
   refine ⟨_, rfl, ?_⟩;unfold zdJ;unfold zdx at hfo;by_cases h12 : y.op = 12
   ·simp [h12] at hfo ⊢; omega
   by_cases h13 : y.op = 13
   ·simp [h13] at hfo ⊢; omega
   ·simp [h12, h13, h14]
  rw [hks] at hst;have hk1 : ∀ k ∈ ks, i < k /\ k <= l.length := hks ▸ zsB hfm hy;have hvi : v <= i := hvb.2;rcases hcase with ⟨hA, hB, hE, hat⟩ | ⟨hA, hB, hE, hat⟩ | ⟨hA, hB, hE, hat⟩
  all_goals
   have hL := congrArg List.length hE;simp at hL
   repeat' (first
  | (refine Cnd.of (fun hc => ?_) (fun hc => ?_) <;> (try (exfalso; omega)) <;> (try simp [hy, zbp, zbe, hv, hv0, hb1, (eq_false h14 : (y.op = 14) = False), hA, hB]))
  | (refine zaf rfl ?_; simp [hy, zbp, zbe, hv, hv0, hb1, (eq_false h14 : (y.op = 14) = False), hA, hB])
  | (refine And.intro (by omega) ?_)
  | (refine And.intro ?_ (by omega))
  | (refine CallP.f2 rfl (h5) (by first | simp [hy, zbp, zbe, hv, hv0, hb1, (eq_false h14 : (y.op = 14) = False), hA, hB] <;> rfl | fail) ?_; simp [hy, zbp, zbe, hv, hv0, hb1, (eq_false h14 : (y.op = 14) = False), hA, hB])
  | fail)
   refine zdz (α := NxAt ks (v - zct y.op + zbk y.op) hi i) [0, 3, 5, 7, 8, 39, 40, 41, 96, 97] (fun s => [(98, .u (.int .i64 s.j))])
    (fun s => [(0, .vec 3 1 (zi0 s.hj)), (2, .vec 3 1 (zi0 (ks.map fun k : Nat => (k : Int))))]) 3 (fun s => ks.length - s.j) ⟨0, hi, by omega, by simp, rfl, rfl, fun z hz => by have := lo z hz; omega⟩ ?_ ?_
   ·exact (Wk.zem (by simp [hn, hE, zi0, hat] <;> grind))
   rintro ⟨j, hj, hjle, hgo, hlen, hat2, hjlo⟩;simp;have hvj : hj[i]? = some v := hat2.trans hv;rcases hz : ks[j]? with _ | k
   ·have hge : ks.length <= j := by simpa using hz
    rw [hgo, List.drop_of_length_le hge] at hst;simp only [zg6] at hst
    repeat' (first
  | (refine Cnd.of (fun hc => ?_) (fun hc => ?_) <;> (try (exfalso; omega)) <;> (try simp [hz, zbp, zbe]))
  | (refine zaf rfl ?_; simp [hz, zbp, zbe])
  | (refine And.intro (by omega) ?_)
  | fail)
    refine LoopW.next ⟨i + 1, hj, by omega, hst, by omega, fun z hz => by have := hjlo z hz; omega⟩ (by simp; omega) ?_
    exact (Wk.zem (by simp [hn, zdR] <;> grind))
   ·have hjl := (List.getElem?_eq_some_iff.1 hz).1;obtain ⟨k1, k2⟩ := hk1 k (List.mem_of_getElem? hz);obtain ⟨w, hw⟩ : ∃ w, hj[k]? = some w := ⟨_, List.getElem?_eq_getElem (by omega)⟩;have hwb := hjlo w (List.mem_of_getElem? hw);have hsH : ztG hj k (v - zct y.op + zbk y.op) = if 0 <= w /\ w ≠ v - zct y.op + zbk y.op then none else some (hj.set k (v - zct y.op + zbk y.op)) := by
     unfold ztG;simp [List.getD, hw]
    rw [znt hz, hsH] at hgo;by_cases hbd : 0 <= w /\ w ≠ v - zct y.op + zbk y.op
    ·rw [if_pos hbd] at hgo;rw [hgo] at hst;rw [ziJ hst hlt];obtain ⟨hbd1, hbd2⟩ := hbd
     repeat' (first
  | (refine Cnd.of (fun hc => ?_) (fun hc => ?_) <;> (try (exfalso; omega)) <;> (try simp [hz, zbp, zbe, hvj, hw, hbd1, hbd2]))
  | (refine zaf rfl ?_; simp [hz, zbp, zbe, hvj, hw, hbd1, hbd2])
  | (refine And.intro (by omega) ?_)
  | (refine And.intro ?_ (by omega))
  | fail)
     (refine Pst.of ?_; simp)
    ·rw [if_neg hbd] at hgo
     repeat' (first
  | (refine Cnd.of (fun hc => ?_) (fun hc => ?_) <;> (try (exfalso; omega)) <;> (try simp [hz, zbp, zbe, hvj, hw, zga]))
  | (refine zaf rfl ?_; simp [hz, zbp, zbe, hvj, hw, zga])
  | (refine And.intro (by omega) ?_)
  | (refine And.intro ?_ (by omega))
  | fail)
     all_goals
      refine LoopW.next ⟨j + 1, hj.set k (v - zct y.op + zbk y.op), by omega, hgo, by simp [hlen], by rw [List.getElem?_set_ne (by omega)]; exact hat2, fun z hz => ?_⟩ (by simp; omega) ?_
      ·rcases List.mem_or_eq_of_mem_set hz with hz | hz
       ·exact hjlo z hz
       ·omega
      exact (Wk.zem (by simp [hn, zdR] <;> grind))
 ·have hlt : i < l.length := (List.getElem?_eq_some_iff.1 hx).1;have h4 := zn2 l i x hx (by omega);have ht : ((i : Int) + 1).toNat = i + 1 := by omega
  simp only [Vm.inss] at h4;by_cases hfx : zdx x i l.length = true
  ·rw [hfx] at h4
   repeat' (first
  | (refine zaf rfl ?_; simp [hlt, ht, zhV, zbe, zga, zl5 hi, zl4 hlt])
  | (refine And.intro (by omega) ?_)
  | (refine CallP.f2 rfl (h4) (by first | simp [hlt, ht, zhV, zbe, zga, zl5 hi, zl4 hlt] <;> rfl | fail) ?_; simp [hlt, ht, zhV, zbe, zga, zl5 hi, zl4 hlt])
  | fail)
   refine LoopW.next ⟨i + 1, by omega, fun j y hj hy => ?_⟩ (by simp; omega) ?_
   ·rcases Nat.lt_succ_iff_lt_or_eq.1 hj with h1 | h1
    ·exact hf j y h1 hy
    ·subst h1; rw [hx] at hy; cases hy; exact hfx
   exact (Wk.zem (by simp [hn, zdR] <;> grind))
  ·rw [Bool.not_eq_true] at hfx;rw [hfx] at h4
   repeat' (first
  | (refine zaf rfl ?_; simp [hlt])
  | (refine CallP.f2 rfl (h4) (by first | simp [hlt] <;> rfl | fail) ?_; simp [hlt])
  | fail)
   (refine Pst.of ?_; simp)
   have : zgh l = false := by
    rw [<- Bool.not_eq_true];intro h;rw [zfG h hx] at hfx;cases hfx
   simp [zb8, this]
abbrev zuz (o : Opr) : D := .u (.agg [.str o.text, .int .i64 o.op, .int .i64 o.form])
abbrev zoY (l : List Opr) : U := .sl (l.map fun o => [.str o.text, .int .i64 o.op, .int .i64 o.form])
theorem zjA : Fun Tryz.prog 141 [] (· = .u (zoY oprs)) := by
 unfold zoY oprs;refine Fun.runW Tryz.func141 Tryz.ntmps141 rfl (by simp) fun Γ hn => ?_
 repeat' (first
  | (refine zaf rfl ?_; simp [zaj, zah])
  | fail)
 (refine EndW.frzN 1 ?_; simp [del])
 refine EndW.here ?_
 (refine EndOK.val (.inr rfl) ?_; simp [Tryz.results141])
theorem zre (l : List Tok) (q : Nat) (o : Opr) (hq : q < l.length) (hl : l.length <= 1000000) : Fun Tryz.prog 142 (zuz o :: [U.row [zr6 l q] 0].map .u) (· = .u (.bool (isB l q o.text))) := by
 have h1 := zgX l q o.text hq hl;simp only [List.map_cons, List.map_nil, zuz];refine Fun.run Tryz.func142 Tryz.ntmps142 Tryz.results142 rfl (by simp) fun Γ hn => ?_
 repeat' (first
  | (refine zaf rfl ?_; simp)
  | (refine CallP.f2 rfl (h1) (by first | simp <;> rfl | fail) ?_; simp)
  | fail)
 (refine Pst.of ?_; simp)
theorem znV (l : List (Opr)) (f : FuncId) (caps : List U) (p : Opr -> Bool) (hf : ∀ n ∈ l, Fun Tryz.prog f (zuz n :: caps.map .u) (· = .u (.bool (p n)))) (hcl : zae Tryz.prog f = true)
  (hca : ∀ o, zcu o (caps.map .u) = some (caps.map .u, [])) : Fun Tryz.prog 140 [.u (zoY l), .fnc (.func f) (caps.map .u)] (· = .u (.int .i64 (zi3 p l 0))) := by
 refine Fun.run Tryz.func140 Tryz.ntmps140 Tryz.results140 rfl (by simp) fun Γ hn => ?_; simp only [entry, List.zipIdx_cons, List.zipIdx_nil, List.map_cons, List.map_nil, Nat.zero_add];simp only [zoY];refine zie (x := 0) rfl fun hl => ?_;simp at hl
 repeat' (first
  | (refine zaf rfl ?_; simp)
  | fail)
 refine zdh (α := { i : Nat // i <= l.length /\ ∀ c ∈ l.take i, p c = false }) [0, 1, 7] (fun i => [(8, .u (.int .i64 i.1))]) (fun i => l.length - i.1) ⟨0, by omega, by simp⟩ ?_ ?_
 ·exact (Wk.env rfl rfl rfl (by simp [wkE, St.lp, zaY, zaa, getK] <;> (try (intros; simp_all; done)) <;> (try (intros; omega)) <;> (try grind)))
 rintro ⟨i, hi, hb⟩;simp;rcases hx : l[i]? with _ | n
 ·have hge : l.length <= i := by simpa using hx
  repeat' (first
  | (refine Cnd.of (fun hc => ?_) (fun hc => ?_) <;> (try (exfalso; omega)) <;> (try simp [hx]))
  | (refine zaf rfl ?_; simp [hx])
  | fail)
  (refine Pst.of ?_; simp)
  rw [List.take_of_length_le hge] at hb;exact (zgc hb).symm
 ·have hlt : i < l.length := (List.getElem?_eq_some_iff.1 hx).1;have h1 := hf n (List.mem_of_getElem? hx);simp only [zuz] at h1;cases hp : p n
  ·rw [hp] at h1
   repeat' (first
  | (refine Cnd.of (fun hc => ?_) (fun hc => ?_) <;> (try (exfalso; omega)) <;> (try simp [hx, hca]))
  | (refine zaf rfl ?_; simp [hx, hca])
  | (refine And.intro (by omega) ?_)
  | (refine CallP.f2 rfl (h1) (by first | simp [hx, hca] <;> rfl | fail) ?_; simp [hx, hca])
  | fail)
   refine LoopW.next ⟨i + 1, by omega, zca hx hb hp⟩ (by simp; omega) ?_
   exact (Wk.env rfl rfl rfl (by simp [wkE, St.lp, zaY, zaa, getK] <;> (try (intros; simp_all; done)) <;> (try (intros; omega)) <;> (try grind)))
  ·rw [hp] at h1
   repeat' (first
  | (refine Cnd.of (fun hc => ?_) (fun hc => ?_) <;> (try (exfalso; omega)) <;> (try simp [hx, hca]))
  | (refine zaf rfl ?_; simp [hx, hca])
  | (refine And.intro (by omega) ?_)
  | (refine CallP.f2 rfl (h1) (by first | simp [hx, hca] <;> rfl | fail) ?_; simp [hx, hca])
  | fail)
   (refine Pst.of ?_; simp)
   rw [zjK hb hx hp];omega
theorem zh1 {p : Opr -> Bool} : ∀ (L : List Opr) (k : Int), (L.find? p = none -> zi3 p L k = -1) /\ ∀ x, L.find? p = some x -> ∃ j : Nat, L[j]? = some x /\ zi3 p L k = k + j
 | [], k => ⟨fun _ => rfl, fun x h => by simp at h⟩
 | a :: L, k => by
  by_cases h : p a = true
  ·refine ⟨fun h1 => by simp [h] at h1, fun x h1 => ?_⟩;rw [List.find?_cons, h] at h1;cases h1;exact ⟨0, rfl, by rw [zi3, if_pos h]; simp⟩
  ·have h' : p a = false := by simpa using h
   obtain ⟨h1, h2⟩ := zh1 L (k + 1);refine ⟨fun h3 => ?_, fun x h3 => ?_⟩
   ·rw [List.find?_cons, h'] at h3;rw [zi3, if_neg h];exact h1 h3
   ·rw [List.find?_cons, h'] at h3;obtain ⟨j, h4, h5⟩ := h2 x h3;exact ⟨j + 1, h4, by rw [zi3, if_neg h, h5]; omega⟩
theorem znU (l : List Tok) (q : Nat) (hq : q < l.length) (hl : l.length <= 1000000) : Fun Tryz.prog 140 [.u (zoY oprs), .fnc (.func 142) [.u (.row [zr6 l q] 0)]]
  (· = .u (.int .i64 (zi3 (fun o => isB l q o.text) oprs 0))) :=
 znV oprs 142 [U.row [zr6 l q] 0] (fun o => isB l q o.text) (fun o _ => zre l q o hq hl) rfl (fun o => rfl)
end Go.Proofs.YtkdhmbhbbciedaaGreatDoor
namespace Go.Proofs.YtkdhmbhbbciedaaGreatDoor
open Go Go.VL
attribute [local simp] HS za2 zcH zbP evPure opd uOf zaq St.put St.at getK binD binI binS binB nilD aggD ze4 zfg lookD lookR zbM rangeS Go.VL.nextD Go.VL.nextS zbR zfi zfh zeD zb0 mkV zaX zaE zaD zaC zcG zaA zaP za5 mapEff zdm zeo Key.kk shiftI arith unD convD zda loadD cellsAt fieldAddrD fieldD indexAddrD indexSlD arrAddr indexD sliceD cutD lenD minmaxD nilCheckD buildD fillD zbv zcI zec setAll zcA zd1 zbK zeT zbJ St.add zak zbd rowsOf zcU zcb zad zac zaa zaW zcy zaH entry zah zaj valD zbW zcu zeU zcN zcO zbC zbu zag zaM za4 delAll effD St.effS zb6 zaF zat zb7 zaG zav zbq zau zam zbr zb5 za1 zbm zaO zbl zai mkD zbi zbb zbf zag zbT D.ids Op.operands Call.operands zbc makeIfD makeFuncD typeAssertD zff zcX zcY zfb zbN IntKind.bits zcx List.take_of_length_le List.range_succ zcm zbF zcn zch zba zbw zby zci zbA zaU zbz zbx zfO zbE zck zaK zaw zcl zaL zay zbD zax zap zcq zcr zfN zab frzN frz1 zaR zaQ St.frz St.frzS frzS fv zbQ zb2 zb3 zaS zaz zan frz zcd zbU zbY zbZ za6 St.norm St.lp St.only zaY wkE wkO wkU Ob.under D.under zal zar zco zbG zcp h4s zdT zas za7 List.zipIdx_cons List.zipIdx_nil List.map_cons List.map_nil Nat.zero_add
attribute [local irreducible] V G H HD HD2 HD4 zgw RetX za3 Eff CallP CallV EndOK Fun Ret FinOK LoopI LoopW EndW HR vs2 RN Cnd H4
theorem zhj (lets : List Let) (shs : List Bool) (m n : Nat) (e : Exp) (c : Code) (q nx : Nat) (hm : m < nx) (hq : q < nx) (hmq : m ≠ q) (hl : 2000 < c.length) : RetX Tryz.prog 36 [.ptr m 0, .u (.int .i64 n), zcC e] [(m, cOb lets shs q c), (q, kOb c)] nx
  fun r o n' => r = .val (.tup []) /\ o = [(m, cOb lets shs nx c), (nx, kOb c)] /\ n' = nx + 1 := by
 have hne := nef hm;have hne2 := nef hq;have hm1 : m < nx + 1 := by omega
 have hp := zbB c;simp only [zcC];refine RetX.runW Tryz.func36 Tryz.ntmps36 rfl (by simp) fun Γ hn hpan => ?_
 repeat' (first
  | (refine Cnd.of (fun hc => ?_) (fun hc => ?_) <;> (try (exfalso; omega)) <;> (try simp [hne, hne2, hmq, Ne.symm hmq, Nat.add_assoc, del, hl, cOb]))
  | (refine zaf rfl ?_; simp [hne, hne2, hmq, Ne.symm hmq, Nat.add_assoc, del, hl, cOb])
  | fail)
 refine EndW.wk { n := _, env := [], obs := [(m, cOb lets shs nx c), (nx, kOb c)], next := nx + 1 } (Wk.ren ((fun i => if i = nx then q else i)) rfl (by first | (simp [hn]; done) | (intro i hi; rw [hn] at hi; constructor <;> (try simp) <;> (try (intro _)) <;> omega)) (by simp [zgu, St.lp, zaY, zaa, getK, zac, zad, D.under, D.le, D.ren, hne, hne2, hmq, Ne.symm hmq, hm1, hp, cOb, kOb, zaB] <;> (try (intros; simp_all; done)) <;> (try omega)) (by simp [wkR, St.lp, zaa, getK, zac, zad, obR, leU, zbn, zaN, Ob.under, D.under, D.le, D.ren, hne, hne2, hmq, Ne.symm hmq, hm1, hp, cOb, kOb, zaB] <;> (try (intros; simp_all; done)) <;> (try omega)) (by simp [hne, hne2, hmq, Ne.symm hmq, hm1, hp, cOb, kOb, zaB])) ?_
 (refine EndW.h Tryz.results36 ?_; simp)
theorem zsP {lets shs m n e} (h0 : e.op = 0) : ExpX lets shs m n e (fun c => if 2000 < c.length then c else zb4 c ⟨0, e.n, []⟩) := by
 intro c q nx hm hq hmq hl;have hne := nef hm;have hne2 := nef hq;have hm1 : m < nx + 1 := by omega
 simp only;by_cases hg : 2000 < c.length
 ·rw [if_pos hg]; exact zhj lets shs m n e c q nx hm hq hmq hg
 rw [if_neg hg];have hp := zbB (zb4 c ⟨0, e.n, []⟩);have a1 := zf6 lets shs c ⟨0, e.n, []⟩ m q (nx + 1) (by omega) (by omega) hmq (by omega);generalize zb4 c ⟨0, e.n, []⟩ = c1 at *;simp only [zcC];refine RetX.runW Tryz.func36 Tryz.ntmps36 rfl (by simp) fun Γ hn hpan => ?_
 repeat' (first
  | (refine Cnd.of (fun hc => ?_) (fun hc => ?_) <;> (try (exfalso; omega)) <;> (try simp [hne, hne2, hmq, Ne.symm hmq, Nat.add_assoc, del, hg, h0, cOb]))
  | (refine zaf rfl ?_; simp [hne, hne2, hmq, Ne.symm hmq, Nat.add_assoc, del, hg, h0, cOb])
  | (refine CallP.okL (a1) (by first | (simp [hne, hne2, hmq, Ne.symm hmq, Nat.add_assoc, del, hg, h0, cOb, zaa, getK, zab, zac, zad, zai, del]; done) | fail) (by rfl) (by first | assumption | (simp; done) | fail) (by rfl) (by simp) ?_; (try simp [hne, hne2, hmq, Ne.symm hmq, Nat.add_assoc, del, hg, h0, cOb, zdP, del]))
  | fail)
 refine EndW.wk { n := _, env := [], obs := [(m, cOb lets shs nx c1), (nx, kOb c1)], next := nx + 1 } (Wk.ren ((fun i => if i = nx then nx + 1 else i)) rfl (by first | (simp [hn]; done) | (intro i hi; rw [hn] at hi; constructor <;> (try simp) <;> (try (intro _)) <;> omega)) (by simp [zgu, St.lp, zaY, zaa, getK, zac, zad, D.under, D.le, D.ren, hne, hne2, hmq, Ne.symm hmq, hm1, hp, cOb, kOb, zaB] <;> (try (intros; simp_all; done)) <;> (try omega)) (by simp [wkR, St.lp, zaa, getK, zac, zad, obR, leU, zbn, zaN, Ob.under, D.under, D.le, D.ren, hne, hne2, hmq, Ne.symm hmq, hm1, hp, cOb, kOb, zaB] <;> (try (intros; simp_all; done)) <;> (try omega)) (by simp [hne, hne2, hmq, Ne.symm hmq, hm1, hp, cOb, kOb, zaB])) ?_
 (refine EndW.h Tryz.results36 ?_; simp)
theorem zrd (lets : List Let) (shs : List Bool) (m n : Nat) (e : Exp) (h0 : e.op = 1) (hn' : n <= lets.length) (hn2 : n <= 1000) (hB : ∀ i l, i < n -> lets[i]? = some l -> ∃ F, ExpX lets shs m i l.body F /\ F = zev (nmC lets (shF lets) i) (shF lets i) l.body) :
  ExpX lets shs m n e (fun c => if 2000 < c.length then c else nmC lets (shF lets) n e.s c) := by
 intro c q nx hm hq hmq hl;have hne := nef hm;have hne2 := nef hq;have hm1 : m < nx + 1 := by omega
 simp only;by_cases hg : 2000 < c.length
 ·rw [if_pos hg]; exact zhj lets shs m n e c q nx hm hq hmq hg
 rw [if_neg hg];have hlet := zm8 lets (zaI shs) (Vm.inss c) n e.s hn' hn2;have e1 := zeR c;have e2 := zhX c;have e3 := ze1 c;rw [zmL e.s hn'];cases hi : zfM lets n e.s with
 | none =>
  simp only;rw [hi] at hlet;have hp := zbB (zb4 c ⟨1, 0, e.s⟩);have a1 := zf6 lets shs c ⟨1, 0, e.s⟩ m q (nx + 1) (by omega) (by omega) hmq (by omega);generalize zb4 c ⟨1, 0, e.s⟩ = c1 at *;simp only [ixO, zaI, zaB, Vm.inss] at hlet a1 ⊢;simp only [zcC];refine RetX.runW Tryz.func36 Tryz.ntmps36 rfl (by simp) fun Γ hn hpan => ?_
  repeat' (first
  | (refine Cnd.of (fun hc => ?_) (fun hc => ?_) <;> (try (exfalso; omega)) <;> (try simp [hne, hne2, hmq, Ne.symm hmq, Nat.add_assoc, del, hg, h0, cOb, kOb, zaI, zaB, e1, e2, e3]))
  | (refine zaf rfl ?_; simp [hne, hne2, hmq, Ne.symm hmq, Nat.add_assoc, del, hg, h0, cOb, kOb, zaI, zaB, e1, e2, e3])
  | (refine CallP.f2 rfl (hlet) (by first | simp [hne, hne2, hmq, Ne.symm hmq, Nat.add_assoc, del, hg, h0, cOb, kOb, zaI, zaB, e1, e2, e3] <;> rfl | fail) ?_; simp [hne, hne2, hmq, Ne.symm hmq, Nat.add_assoc, del, hg, h0, cOb, kOb, zaI, zaB, e1, e2, e3])
  | (refine CallP.okL (a1) (by first | (simp [hne, hne2, hmq, Ne.symm hmq, Nat.add_assoc, del, hg, h0, cOb, kOb, zaI, zaB, e1, e2, e3, zaa, getK, zab, zac, zad, zai, del]; done) | fail) (by rfl) (by first | assumption | (simp; done) | fail) (by rfl) (by simp) ?_; (try simp [hne, hne2, hmq, Ne.symm hmq, Nat.add_assoc, del, hg, h0, cOb, kOb, zaI, zaB, e1, e2, e3, zdP, del]))
  | fail)
  refine EndW.wk { n := _, env := [], obs := [(m, cOb lets shs nx c1), (nx, kOb c1)], next := nx + 1 } (Wk.ren ((fun i => if i = nx then nx + 1 else i)) rfl (by first | (simp [hn]; done) | (intro i hi; rw [hn] at hi; constructor <;> (try simp) <;> (try (intro _)) <;> omega)) (by simp [zgu, St.lp, zaY, zaa, getK, zac, zad, D.under, D.le, D.ren, hne, hne2, hmq, Ne.symm hmq, hm1, hp, cOb, kOb, zaB, zaI] <;> (try (intros; simp_all; done)) <;> (try omega)) (by simp [wkR, St.lp, zaa, getK, zac, zad, obR, leU, zbn, zaN, Ob.under, D.under, D.le, D.ren, hne, hne2, hmq, Ne.symm hmq, hm1, hp, cOb, kOb, zaB, zaI] <;> (try (intros; simp_all; done)) <;> (try omega)) (by simp [hne, hne2, hmq, Ne.symm hmq, hm1, hp, cOb, kOb, zaB, zaI])) ?_
  (refine EndW.h Tryz.results36 ?_; simp)
  all_goals simp [zaB, zaI]
 | some i =>
  obtain ⟨w1, l, w2, w3⟩ := zgG hi;obtain ⟨F, hF, hFe⟩ := hB i l w1 w2;simp only [w2];rw [<- hFe];rw [hi] at hlet;have hp := zbB (F c);have a1 := hF c q (nx + 1) (by omega) (by omega) hmq (by omega);generalize F c = c1 at *;have hi0 : ¬ (i : Int) < 0 := by omega
  have hil : i < lets.length := by omega
  simp only [ixO, zaI, zaB, Vm.inss] at hlet;simp only [zcC, zaB, zaI] at a1 ⊢;refine RetX.runW Tryz.func36 Tryz.ntmps36 rfl (by simp) fun Γ hn hpan => ?_
  repeat' (first
  | (refine Cnd.of (fun hc => ?_) (fun hc => ?_) <;> (try (exfalso; omega)) <;> (try simp [hne, hne2, hmq, Ne.symm hmq, Nat.add_assoc, del, hg, h0, cOb, kOb, zaI, zaB, e1, e2, e3, w2, hi0]))
  | (refine zaf rfl ?_; simp [hne, hne2, hmq, Ne.symm hmq, Nat.add_assoc, del, hg, h0, cOb, kOb, zaI, zaB, e1, e2, e3, w2, hi0])
  | (refine CallP.f2 rfl (hlet) (by first | simp [hne, hne2, hmq, Ne.symm hmq, Nat.add_assoc, del, hg, h0, cOb, kOb, zaI, zaB, e1, e2, e3, w2, hi0] <;> rfl | fail) ?_; simp [hne, hne2, hmq, Ne.symm hmq, Nat.add_assoc, del, hg, h0, cOb, kOb, zaI, zaB, e1, e2, e3, w2, hi0])
  | (refine CallP.okL (a1) (by first | (simp [hne, hne2, hmq, Ne.symm hmq, Nat.add_assoc, del, hg, h0, cOb, kOb, zaI, zaB, e1, e2, e3, w2, hi0, zaa, getK, zab, zac, zad, zai, del]; done) | fail) (by rfl) (by first | assumption | (simp; done) | fail) (by rfl) (by simp) ?_; (try simp [hne, hne2, hmq, Ne.symm hmq, Nat.add_assoc, del, hg, h0, cOb, kOb, zaI, zaB, e1, e2, e3, w2, hi0, zdP, del]))
  | fail)
  refine EndW.wk { n := _, env := [], obs := [(m, cOb lets shs nx c1), (nx, kOb c1)], next := nx + 1 } (Wk.ren ((fun i => if i = nx then nx + 1 else i)) rfl (by first | (simp [hn]; done) | (intro i hi; rw [hn] at hi; constructor <;> (try simp) <;> (try (intro _)) <;> omega)) (by simp [zgu, St.lp, zaY, zaa, getK, zac, zad, D.under, D.le, D.ren, hne, hne2, hmq, Ne.symm hmq, hm1, hp, cOb, kOb, zaB, zaI] <;> (try (intros; simp_all; done)) <;> (try omega)) (by simp [wkR, St.lp, zaa, getK, zac, zad, obR, leU, zbn, zaN, Ob.under, D.under, D.le, D.ren, hne, hne2, hmq, Ne.symm hmq, hm1, hp, cOb, kOb, zaB, zaI] <;> (try (intros; simp_all; done)) <;> (try omega)) (by simp [hne, hne2, hmq, Ne.symm hmq, hm1, hp, cOb, kOb, zaB, zaI])) ?_
  (refine EndW.h Tryz.results36 ?_; simp)
  all_goals simp [zaB, zaI]
theorem zgL {lets shs m n e F} (h0 : e.op = 10 \/ e.op = 11 \/ e.op = 13) (hF : zuD lets shs m n e F) : ExpX lets shs m n e (fun c => if 2000 < c.length then c else F c) := by
 intro c q nx hm hq hmq hl;have hne := nef hm;have hne2 := nef hq;have hm1 : m < nx + 1 := by omega
 simp only;by_cases hg : 2000 < c.length
 ·rw [if_pos hg]; exact zhj lets shs m n e c q nx hm hq hmq hg
 rw [if_neg hg];have hp := zbB (F c);have a1 := hF c q (nx + 1) (by omega) (by omega) hmq (by omega);generalize F c = c1 at *;simp only [zcC] at a1 ⊢;rcases h0 with h0 | h0 | h0
 all_goals
  rw [h0] at a1;refine RetX.runW Tryz.func36 Tryz.ntmps36 rfl (by simp) fun Γ hn hpan => ?_
  repeat' (first
  | (refine Cnd.of (fun hc => ?_) (fun hc => ?_) <;> (try (exfalso; omega)) <;> (try simp [hne, hne2, hmq, Ne.symm hmq, Nat.add_assoc, del, hg, h0, cOb]))
  | (refine zaf rfl ?_; simp [hne, hne2, hmq, Ne.symm hmq, Nat.add_assoc, del, hg, h0, cOb])
  | (refine CallP.okL (a1) (by first | (simp [hne, hne2, hmq, Ne.symm hmq, Nat.add_assoc, del, hg, h0, cOb, zaa, getK, zab, zac, zad, zai, del]; done) | fail) (by rfl) (by first | assumption | (simp; done) | fail) (by rfl) (by simp) ?_; (try simp [hne, hne2, hmq, Ne.symm hmq, Nat.add_assoc, del, hg, h0, cOb, zdP, del]))
  | fail)
  refine EndW.wk { n := _, env := [], obs := [(m, cOb lets shs nx c1), (nx, kOb c1)], next := nx + 1 } (Wk.ren ((fun i => if i = nx then nx + 1 else i)) rfl (by first | (simp [hn]; done) | (intro i hi; rw [hn] at hi; constructor <;> (try simp) <;> (try (intro _)) <;> omega)) (by simp [zgu, St.lp, zaY, zaa, getK, zac, zad, D.under, D.le, D.ren, hne, hne2, hmq, Ne.symm hmq, hm1, hp, cOb, kOb, zaB] <;> (try (intros; simp_all; done)) <;> (try omega)) (by simp [wkR, St.lp, zaa, getK, zac, zad, obR, leU, zbn, zaN, Ob.under, D.under, D.le, D.ren, hne, hne2, hmq, Ne.symm hmq, hm1, hp, cOb, kOb, zaB] <;> (try (intros; simp_all; done)) <;> (try omega)) (by simp [hne, hne2, hmq, Ne.symm hmq, hm1, hp, cOb, kOb, zaB])) ?_
  (refine EndW.h Tryz.results36 ?_; simp)
theorem zk6 {nm sh} {x : Exp} : ∀ {l : List Exp} {i : Nat} (c : Code), l[i]? = some x -> zfF nm sh (l.take (i + 1)) c = zev nm sh x (zfF nm sh (l.take i) c)
 | [], _, _, h => by simp at h
 | a :: l, 0, c, h => by simp at h; subst h; simp [zfF]
 | a :: l, i + 1, c, h => by
  rw [List.take_succ_cons, List.take_succ_cons, zfF, zfF];exact zk6 (l := l) _ (by simpa using h)
theorem zpC (lets : List Let) (m n d : Nat) (e : Exp) (ho : 2 <= e.op /\ e.op <= 9 \/ e.op = 12) (hn' : n <= lets.length) (hn2 : n <= 1000) (hr : ∀ l ∈ lets, za0 12 l.body = true) (hll : lets.length <= 20) (he : za0 (d + 1) e = true) (hd : d <= 11)
  (hE : ∀ x ∈ e.args, ExpX lets (zdE lets lets.length) m n x (zev (nmC lets (shF lets) n) (shF lets n) x)) :
  ExpX lets (zdE lets lets.length) m n e (fun c => if 2000 < c.length then c else zb4 (zfF (nmC lets (shF lets) n) (shF lets n) e.args c) ⟨zaT (shF lets n) e.op e.args, 0, []⟩) := by
 intro c q nx hm hq hmq hl;have hne := nef hm;have hne2 := nef hq;have hm1 : m < nx + 1 := by omega
 simp only;by_cases hg : 2000 < c.length
 ·rw [if_pos hg]; exact zhj lets _ m n e c q nx hm hq hmq hg
 rw [if_neg hg];have hlen3 : e.args.length <= 3 := by
  have h1 := (zdj he).1;unfold zbt at h1
  repeat' split at h1
  all_goals omega
 have hpl := fun z => zoU lets (zdE lets lets.length) z n hn' (by rw [zfx (Nat.le_refl _)]; exact hn') hn2 d e he ho;rw [znB hr hll hn' (Nat.le_refl _) he hd (by omega) (by omega)] at hpl;have hcap : ∀ i, (zfF (nmC lets (shF lets) n) (shF lets n) (e.args.take i) c).length <= 2001 := fun i => zjQ (zhM n) _ c hl;have hall : zfF (nmC lets (shF lets) n) (shF lets n) (e.args.take e.args.length) c = zfF (nmC lets (shF lets) n) (shF lets n) e.args c := by rw [List.take_length]
 have hz : zfF (nmC lets (shF lets) n) (shF lets n) (e.args.take 0) c = c := by rw [List.take_zero, zfF]
 have hsn : ∀ i x, e.args[i]? = some x -> zfF (nmC lets (shF lets) n) (shF lets n) (e.args.take (i + 1)) c = zev (nmC lets (shF lets) n) (shF lets n) x (zfF (nmC lets (shF lets) n) (shF lets n) (e.args.take i) c) := fun i x h => zk6 c h;rw [<- hall];generalize zaT (shF lets n) e.op e.args = po at *;generalize hCi : (fun i => zfF (nmC lets (shF lets) n) (shF lets n) (e.args.take i) c) = Ci at *;have hCi' : ∀ i, zfF (nmC lets (shF lets) n) (shF lets n) (e.args.take i) c = Ci i := fun i => by rw [<- hCi]
 simp only [hCi'] at hcap hsn hz ⊢;generalize zdE lets lets.length = shs at *;have hp := zbB (zb4 (Ci e.args.length) ⟨po, 0, []⟩);have hmb : m < nx + 1 + 1 := by omega
 have hop0 : ¬ e.op = 0 /\ ¬ e.op = 1 /\ ¬ e.op = 10 /\ ¬ e.op = 11 /\ ¬ e.op = 13 := by omega
 obtain ⟨o1, o2, o3, o4, o5⟩ := hop0;simp only [zcC, zaB, zaI] at hpl ⊢;refine RetX.runW Tryz.func36 Tryz.ntmps36 rfl (by simp) fun Γ hn hpan => ?_
 repeat' (first
  | (refine Cnd.of (fun hc => ?_) (fun hc => ?_) <;> (try (exfalso; omega)) <;> (try simp [hne, hne2, hmq, Ne.symm hmq, Nat.add_assoc, del, hg, cOb, o1, o2, o3, o4, o5]))
  | (refine zaf rfl ?_; simp [hne, hne2, hmq, Ne.symm hmq, Nat.add_assoc, del, hg, cOb, o1, o2, o3, o4, o5])
  | fail)
 refine zdz (α := { i : Nat // i <= e.args.length }) [0, 1, 5, 18, 19] (fun i => [(20, .u (.int .i64 i.1))])
  (fun i => [(nx, .box [.u (.int .i64 e.op), .u (.int .i64 e.n), .u (.int .i64 e.unit), .u (.str e.s), .u (.sl (e.args.map Exp.row))]), (m, cOb lets shs (nx + 1) (Ci i.1)), (nx + 1, kOb (Ci i.1))]) (nx + 2) (fun i => e.args.length - i.1) ⟨0, by omega⟩ ?_ ?_
 ·have hp0 := zbB (Ci 0);rw [hz] at hp0;simp only [hz];exact (Wk.ren ((fun i => if i = nx + 1 then q else i)) rfl (by first | (simp [hn]; done) | (intro i hi; rw [hn] at hi; constructor <;> (try simp) <;> (try (intro _)) <;> omega)) (by simp [zgu, St.lp, zaY, zaa, getK, zac, zad, D.under, D.le, D.ren, hne, hne2, hmq, Ne.symm hmq, hmb, hp0, cOb, kOb, zaB, zaI] <;> (try (intros; simp_all; done)) <;> (try omega)) (by simp [wkR, St.lp, zaa, getK, zac, zad, obR, leU, zbn, zaN, Ob.under, D.under, D.le, D.ren, hne, hne2, hmq, Ne.symm hmq, hmb, hp0, cOb, kOb, zaB, zaI] <;> (try (intros; simp_all; done)) <;> (try omega)) (by simp [hne, hne2, hmq, Ne.symm hmq, hmb, hp0, cOb, kOb, zaB, zaI]))
 rintro ⟨i, hi⟩;simp;by_cases hil : i < e.args.length
 ·have hx : e.args[i]? = some e.args[i] := List.getElem?_eq_getElem hil;have hmem := List.mem_of_getElem? hx;have hs1 := hsn i _ hx;have a1 := hE _ hmem (Ci i) (nx + 1) (nx + 3) (by omega) (by omega) (by omega) (hcap i);rw [<- hs1] at a1;have hp1 := zbB (Ci (i + 1));generalize e.args[i] = x at *;have hxr := x.row_eq;simp only [zcC] at a1
  repeat' (first
  | (refine Cnd.of (fun hc => ?_) (fun hc => ?_) <;> (try (exfalso; omega)) <;> (try simp [hne, hne2, hmq, Ne.symm hmq, Nat.add_assoc, del, cOb, hx, hxr]))
  | (refine zaf rfl ?_; simp [hne, hne2, hmq, Ne.symm hmq, Nat.add_assoc, del, cOb, hx, hxr])
  | (refine And.intro (by omega) ?_)
  | (refine CallP.okL (a1) (by first | (simp [hne, hne2, hmq, Ne.symm hmq, Nat.add_assoc, del, cOb, hx, hxr, zaa, getK, zab, zac, zad, zai, del]; done) | fail) (by rfl) (by first | assumption | (simp; done) | fail) (by rfl) (by simp) ?_; (try simp [hne, hne2, hmq, Ne.symm hmq, Nat.add_assoc, del, cOb, hx, hxr, zdP, del]))
  | fail)
  refine LoopW.next ⟨i + 1, by omega⟩ (by simp; omega) ?_
  exact (Wk.ren ((fun i => if i = nx + 1 then nx + 3 else i)) rfl (by first | (simp [hn]; done) | (intro i hi; rw [hn] at hi; constructor <;> (try simp) <;> (try (intro _)) <;> omega)) (by simp [zgu, St.lp, zaY, zaa, getK, zac, zad, D.under, D.le, D.ren, hne, hne2, hmq, Ne.symm hmq, hmb, hp1, cOb, kOb, zaB, zaI] <;> (try (intros; simp_all; done)) <;> (try omega)) (by simp [wkR, St.lp, zaa, getK, zac, zad, obR, leU, zbn, zaN, Ob.under, D.under, D.le, D.ren, hne, hne2, hmq, Ne.symm hmq, hmb, hp1, cOb, kOb, zaB, zaI] <;> (try (intros; simp_all; done)) <;> (try omega)) (by simp [hne, hne2, hmq, Ne.symm hmq, hmb, hp1, cOb, kOb, zaB, zaI]))
 obtain rfl : i = e.args.length := by omega
 have e1 := zeR (Ci e.args.length);have e2 := zhX (Ci e.args.length);have e3 := ze1 (Ci e.args.length);have h5 := hpl (Vm.inss (Ci e.args.length));have a2 := zf6 lets shs (Ci e.args.length) ⟨po, 0, []⟩ m (nx + 1) (nx + 2) (by omega) (by omega) (by omega) (by have := hcap e.args.length; omega);generalize zb4 (Ci e.args.length) ⟨po, 0, []⟩ = c2 at *;generalize Ci e.args.length = c1 at *;simp only [Vm.inss, zaB, zaI] at h5 a2
 repeat' (first
  | (refine zaf rfl ?_; simp [hne, hne2, hmq, Ne.symm hmq, Nat.add_assoc, del, cOb, kOb, zaB, zaI, e1, e2, e3])
  | (refine CallP.f2 rfl (h5) (by first | simp [hne, hne2, hmq, Ne.symm hmq, Nat.add_assoc, del, cOb, kOb, zaB, zaI, e1, e2, e3] <;> rfl | fail) ?_; simp [hne, hne2, hmq, Ne.symm hmq, Nat.add_assoc, del, cOb, kOb, zaB, zaI, e1, e2, e3])
  | (refine CallP.okL (a2) (by first | (simp [hne, hne2, hmq, Ne.symm hmq, Nat.add_assoc, del, cOb, kOb, zaB, zaI, e1, e2, e3, zaa, getK, zab, zac, zad, zai, del]; done) | fail) (by rfl) (by first | assumption | (simp; done) | fail) (by rfl) (by simp) ?_; (try simp [hne, hne2, hmq, Ne.symm hmq, Nat.add_assoc, del, cOb, kOb, zaB, zaI, e1, e2, e3, zdP, del]))
  | fail)
 refine EndW.wk { n := _, env := [], obs := [(m, cOb lets shs nx c2), (nx, kOb c2)], next := nx + 1 } (Wk.ren ((fun i => if i = nx then nx + 2 else i)) rfl (by first | (simp [hn]; done) | (intro i hi; rw [hn] at hi; constructor <;> (try simp) <;> (try (intro _)) <;> omega)) (by simp [zgu, St.lp, zaY, zaa, getK, zac, zad, D.under, D.le, D.ren, hne, hne2, hmq, Ne.symm hmq, hm1, hp, cOb, kOb, zaB, zaI] <;> (try (intros; simp_all; done)) <;> (try omega)) (by simp [wkR, St.lp, zaa, getK, zac, zad, obR, leU, zbn, zaN, Ob.under, D.under, D.le, D.ren, hne, hne2, hmq, Ne.symm hmq, hm1, hp, cOb, kOb, zaB, zaI] <;> (try (intros; simp_all; done)) <;> (try omega)) (by simp [hne, hne2, hmq, Ne.symm hmq, hm1, hp, cOb, kOb, zaB, zaI])) ?_
 (refine EndW.h Tryz.results36 ?_; simp)
 all_goals simp [zaB, zaI]
theorem zkF {l : List Tok} (hl : TokOK l) {f p : Nat} {t : Tok} (ht : l[p]? = some t) (hk : ¬ t.kind = 2) (h1 : isB l p [116, 114, 117, 101] = false) (h2 : isB l p [102, 97, 108, 115, 101] = false)
  (h3 : isB l p [109, 105, 110] = false) (h4 : isB l p [109, 97, 120] = false) (h5 : isB l p [40] = false) {i nx : Nat} (hi : i < nx) :
  RetX Tryz.prog 170 [.ptr i 0] [(i, pOb l p)] nx (PPost l i nx zpD (zbj l (f + 1) p)) := by
 have hne := zbo hi;have hp := (List.getElem?_eq_some_iff.1 ht).1;have hnx := zdG l p t ht hl.len;have hll := hl.len;rw [zbj, ht];have hh1 := fun nx' (h : nx <= nx') => zcB l p [116, 114, 117, 101] i nx' (by omega) hp hl.len;have hh2 := fun nx' (h : nx <= nx') => zcB l p [102, 97, 108, 115, 101] i nx' (by omega) hp hl.len;have hm1 := zgX l p [109, 105, 110] hp hl.len;have hm2 := zgX l p [109, 97, 120] hp hl.len;have hh3 := fun nx' (h : nx <= nx') => zcB l p [40] i nx' (by omega) hp hl.len;have hnm := zjD t.text;have hc1 := fun nx' (h : nx <= nx') => zhm l p 12 i nx' (by omega);have hc2 := fun nx' (h : nx <= nx') => zgn l p t 12 i nx' (by omega) ht hl.len;simp only [hk, h1, h2, h3, h4, h5, if_false, if_true, Bool.false_eq_true, or_self] at hh1 hh2 hm1 hm2 hh3 ⊢;by_cases hw : t.kind = 1
 ·cases hb : zf8 t.text with
  | true =>
   simp only [hb, hw, and_self, if_true] at hnm ⊢;refine RetX.runW Tryz.func170 Tryz.ntmps170 rfl (by simp) fun Γ hn hpan => ?_
   repeat' (first
  | (refine zaf rfl ?_; simp [hne, hk, hw, del, Nat.add_assoc])
  | (refine And.intro (by omega) ?_)
  | ((first | refine CallP.f2 rfl (hnx) (by first | simp [hne, hk, hw, del, Nat.add_assoc] <;> rfl | fail) ?_ | refine CallP.f2 rfl (hm1) (by first | simp [hne, hk, hw, del, Nat.add_assoc] <;> rfl | fail) ?_ | refine CallP.f2 rfl (hm2) (by first | simp [hne, hk, hw, del, Nat.add_assoc] <;> rfl | fail) ?_ | refine CallP.f2 rfl (hnm) (by first | simp [hne, hk, hw, del, Nat.add_assoc] <;> rfl | fail) ?_ | fail); simp [hne, hk, hw, del, Nat.add_assoc])
  | (refine CallP.ok1 (hh1 _ (by first | omega | (simp; done) | (simp; omega) | fail)) (by first | (simp [hne, hk, hw, del, Nat.add_assoc, zaa, getK, zab, zac]; done) | fail) (by rfl) (by first | assumption | (simp; done) | fail) (by rfl) (by simp) ?_; (try simp [hne, hk, hw, del, Nat.add_assoc]))
  | (refine CallP.ok1 (hh2 _ (by first | omega | (simp; done) | (simp; omega) | fail)) (by first | (simp [hne, hk, hw, del, Nat.add_assoc, zaa, getK, zab, zac]; done) | fail) (by rfl) (by first | assumption | (simp; done) | fail) (by rfl) (by simp) ?_; (try simp [hne, hk, hw, del, Nat.add_assoc]))
  | (refine CallP.ok1 (hh3 _ (by first | omega | (simp; done) | (simp; omega) | fail)) (by first | (simp [hne, hk, hw, del, Nat.add_assoc, zaa, getK, zab, zac]; done) | fail) (by rfl) (by first | assumption | (simp; done) | fail) (by rfl) (by simp) ?_; (try simp [hne, hk, hw, del, Nat.add_assoc]))
  | (refine CallP.ok1 (hc1 _ (by first | omega | (simp; done) | (simp; omega) | fail)) (by first | (simp [hne, hk, hw, del, Nat.add_assoc, zaa, getK, zab, zac]; done) | fail) (by rfl) (by first | assumption | (simp; done) | fail) (by rfl) (by simp) ?_; (try simp [hne, hk, hw, del, Nat.add_assoc]))
  | fail)
   refine EndW.norm ?_;simp [St.norm, za6, zbU, zbY, zbZ, hne]
   (refine EndW.z ([(i, pOb l (p + 1))]) (N := nx) Tryz.results170 (by simp [hne, hi] <;> omega) ?_; simp [hne, hi])
   exact PPost.zeS rfl (by simp [Exp.row]) rfl
  | false =>
   simp only [hb, hw, Bool.false_eq_true, and_false, if_false] at hnm ⊢;refine RetX.runW Tryz.func170 Tryz.ntmps170 rfl (by simp) fun Γ hn hpan => ?_
   repeat' (first
  | (refine zaf rfl ?_; simp [hne, hk, hw, del, Nat.add_assoc])
  | ((first | refine CallP.f2 rfl (hnx) (by first | simp [hne, hk, hw, del, Nat.add_assoc] <;> rfl | fail) ?_ | refine CallP.f2 rfl (hm1) (by first | simp [hne, hk, hw, del, Nat.add_assoc] <;> rfl | fail) ?_ | refine CallP.f2 rfl (hm2) (by first | simp [hne, hk, hw, del, Nat.add_assoc] <;> rfl | fail) ?_ | refine CallP.f2 rfl (hnm) (by first | simp [hne, hk, hw, del, Nat.add_assoc] <;> rfl | fail) ?_ | fail); simp [hne, hk, hw, del, Nat.add_assoc])
  | (refine CallP.ok1 (hh1 _ (by first | omega | (simp; done) | (simp; omega) | fail)) (by first | (simp [hne, hk, hw, del, Nat.add_assoc, zaa, getK, zab, zac]; done) | fail) (by rfl) (by first | assumption | (simp; done) | fail) (by rfl) (by simp) ?_; (try simp [hne, hk, hw, del, Nat.add_assoc]))
  | (refine CallP.ok1 (hh2 _ (by first | omega | (simp; done) | (simp; omega) | fail)) (by first | (simp [hne, hk, hw, del, Nat.add_assoc, zaa, getK, zab, zac]; done) | fail) (by rfl) (by first | assumption | (simp; done) | fail) (by rfl) (by simp) ?_; (try simp [hne, hk, hw, del, Nat.add_assoc]))
  | (refine CallP.ok1 (hh3 _ (by first | omega | (simp; done) | (simp; omega) | fail)) (by first | (simp [hne, hk, hw, del, Nat.add_assoc, zaa, getK, zab, zac]; done) | fail) (by rfl) (by first | assumption | (simp; done) | fail) (by rfl) (by simp) ?_; (try simp [hne, hk, hw, del, Nat.add_assoc]))
  | (refine CallP.zhq (hc2 _ (by first | omega | (simp; done) | (simp; omega) | fail)) (by first | (simp [hne, hk, hw, del, Nat.add_assoc, zaa, getK, zab, zac]; done) | fail) (by rfl) (by first | assumption | (simp; done) | fail) (by rfl) (by simp) ?_; rintro ob' ⟨q', rfl⟩; refine ⟨_, Wk.refl _, ?_⟩)
  | fail)
   (refine hpan _ _ (PanG.k ([(i, pOb l q')]) (nx) (by simp [hn, hi, hne, zab, zac, zaa, getK] <;> omega) ?_); try simp)
   exact PPost.zcf rfl
 ·simp only [hw, false_and, if_false];refine RetX.runW Tryz.func170 Tryz.ntmps170 rfl (by simp) fun Γ hn hpan => ?_
  repeat' (first
  | (refine zaf rfl ?_; simp [hne, hk, hw, del, Nat.add_assoc])
  | ((first | refine CallP.f2 rfl (hnx) (by first | simp [hne, hk, hw, del, Nat.add_assoc] <;> rfl | fail) ?_ | refine CallP.f2 rfl (hm1) (by first | simp [hne, hk, hw, del, Nat.add_assoc] <;> rfl | fail) ?_ | refine CallP.f2 rfl (hm2) (by first | simp [hne, hk, hw, del, Nat.add_assoc] <;> rfl | fail) ?_ | refine CallP.f2 rfl (hnm) (by first | simp [hne, hk, hw, del, Nat.add_assoc] <;> rfl | fail) ?_ | fail); simp [hne, hk, hw, del, Nat.add_assoc])
  | (refine CallP.ok1 (hh1 _ (by first | omega | (simp; done) | (simp; omega) | fail)) (by first | (simp [hne, hk, hw, del, Nat.add_assoc, zaa, getK, zab, zac]; done) | fail) (by rfl) (by first | assumption | (simp; done) | fail) (by rfl) (by simp) ?_; (try simp [hne, hk, hw, del, Nat.add_assoc]))
  | (refine CallP.ok1 (hh2 _ (by first | omega | (simp; done) | (simp; omega) | fail)) (by first | (simp [hne, hk, hw, del, Nat.add_assoc, zaa, getK, zab, zac]; done) | fail) (by rfl) (by first | assumption | (simp; done) | fail) (by rfl) (by simp) ?_; (try simp [hne, hk, hw, del, Nat.add_assoc]))
  | (refine CallP.ok1 (hh3 _ (by first | omega | (simp; done) | (simp; omega) | fail)) (by first | (simp [hne, hk, hw, del, Nat.add_assoc, zaa, getK, zab, zac]; done) | fail) (by rfl) (by first | assumption | (simp; done) | fail) (by rfl) (by simp) ?_; (try simp [hne, hk, hw, del, Nat.add_assoc]))
  | (refine CallP.zhq (hc2 _ (by first | omega | (simp; done) | (simp; omega) | fail)) (by first | (simp [hne, hk, hw, del, Nat.add_assoc, zaa, getK, zab, zac]; done) | fail) (by rfl) (by first | assumption | (simp; done) | fail) (by rfl) (by simp) ?_; rintro ob' ⟨q', rfl⟩; refine ⟨_, Wk.refl _, ?_⟩)
  | fail)
  (refine hpan _ _ (PanG.k ([(i, pOb l q')]) (nx) (by simp [hn, hi, hne, zab, zac, zaa, getK] <;> omega) ?_); try simp)
  exact PPost.zcf rfl
theorem zmV {l : List Tok} {p : Nat} {w : List UInt8} {t : Tok} (ht : l[p]? = some t) (h : isB l p w = true) : t.text = w := by
 unfold isB at h;rw [ht] at h;simp only [Bool.and_eq_true, decide_eq_true_eq] at h;exact h.2
theorem zkE {l : List Tok} (hl : TokOK l) {f : Nat} (hE : zg8 l f) : zjj l (f + 1) := by
 intro p i nx hi hp hf;obtain ⟨t, ht⟩ : ∃ t, l[p]? = some t := ⟨_, List.getElem?_eq_getElem hp⟩;by_cases hk : t.kind = 2
 ·exact zlL hl ht hk hi
 cases h1 : isB l p [116, 114, 117, 101] with
 | true => exact zkD hl ht hk h1 hi
 | false =>
 cases h2 : isB l p [102, 97, 108, 115, 101] with
 | true => exact zjv hl ht hk h1 h2 hi
 | false =>
 cases h3 : isB l p [109, 105, 110] with
 | true =>
  cases h4 : isB l p [109, 97, 120] with
  | true => exact absurd ((zmV ht h3).symm.trans (zmV ht h4)) (by decide)
  | false => exact zlM hl hE (by omega) ht hk h1 h2 h3 h4 hi
 | false =>
 cases h4 : isB l p [109, 97, 120] with
 | true => exact zlN hl hE (by omega) ht hk h1 h2 h3 h4 hi
 | false =>
 cases h5 : isB l p [40] with
 | true => exact zju hl hE (by omega) ht hk h1 h2 h3 h4 h5 hi
 | false => exact zkF hl ht hk h1 h2 h3 h4 h5 hi
end Go.Proofs.YtkdhmbhbbciedaaGreatDoor
