import Derived.Test.YtkdhmbhbbciedaaGreatDoorT6
set_option linter.all false
set_option maxRecDepth 100000
set_option maxHeartbeats 8000000
namespace Go.Proofs.YtkdhmbhbbciedaaGreatDoor
open Go Go.VL Go.Shelf Go.RowKit
attribute [local simp] HS zba zcP zb4 evPure opd uOf zat St.put St.at getK binD binI binS binB nilD aggD ze5 zfC lookD lookR zbZ rangeS Go.VL.nextD Go.VL.nextS zb1 zfI zfF ze0 zci mkV zbb zcX zaW za9 mapEff zdX zeK Key.kk shiftI arith unD convD zdg loadD cellsAt fieldAddrD fieldD indexAddrD indexSlD arrAddr indexD sliceD cutD lenD minmaxD nilCheckD buildD fillD zbu zcQ zek setAll zcI zed zbU ze3 zbR St.add zaq zbe rowsOf zcY zco zad zac zaa za5 zcH zaS entry za6 zbc valD zb7 zcG ze4 zcV zcW zbz zbv zag zaM za8 delAll effD St.effS zck zaJ zaw zcl zaK zay zbr zax zas zbs zch za7 zbq zaU zbp zai mkD zb3 zbg zbk zag zb6 D.ids Op.operands Call.operands zbj makeIfD makeFuncD typeAssertD zfB zc2 zc4 zfn zb0 IntKind.bits zb5 zam List.take_of_length_le List.range_succ
attribute [local irreducible] V G H HD HD2 HD4 zg5 RetX zaX Eff CallP CallV EndOK Fun Ret FinOK LoopI LoopW EndW
theorem zne : zml Tryz.prog 86 9 = some u8T := by kernel_rfl
theorem znm (l s : W8) (i j nx : Nat) (hi : i < nx) (hj : j < nx) (hij : i ≠ j) (hlen : l.length + s.length <= 140737488355328) :
  RetX Tryz.prog 49 [.ptr i 0, .u (.str s)] [(i, .box [.ptr i 0, .vec j l.length]), (j, .vec u8T 1 (zdK l))] nx
   (fun r o n => r = .val (.tup [.u (.int .i64 s.length), .u (.oth .nilIface)]) /\ o = [(i, .box [.ptr i 0, .vec nx (l.length + s.length)]), (nx, .vec u8T 1 (zdK (l ++ s)))] /\ n = nx + 1) := by
 have hne := zbm hi;have hne2 := zbm hj;have hcp := fun nx' (h : nx <= nx') => zp4 i nx' (by omega) (.vec j l.length);have hbi := zne;have hca : zae Tryz.prog 83 = true := by kernel_rfl
 have hbl := zox l;rw [show zdK (l ++ s) = rowsD (zeD l ++ zeD s) by rw [zdK, zoy]]
 (refine RetX.of_bodyW Tryz.func49 rfl (by simp) fun Γ hn hpan => ?_); simp only [entry, List.zipIdx_cons, List.zipIdx_nil, List.map_cons, List.map_nil, Nat.zero_add, Tryz.ntmps49]
 repeat' (first
  | (refine zlC ?_; simp [zgk, hne, hne2, hij, Ne.symm hij, del, hbi, hbl, hlen])
  | (refine zdc ?_; simp [hne, hne2, hij, Ne.symm hij, del, hbi, hbl, hlen])
  | (refine zej ?_; simp [hne, hne2, hij, Ne.symm hij, del, hbi, hbl, hlen])
  | (refine zdb ?_; simp [hne, hne2, hij, Ne.symm hij, del, hbi, hbl, hlen])
  | (refine zfK ?_; simp only [zaX])
  | (refine CallP.ok1 (hcp _ (by first | omega | (simp; done) | (simp; omega) | fail)) (by first | (simp [hne, hne2, hij, Ne.symm hij, del, hbi, hbl, hlen, zaa, getK, zab, zac]; done) | fail) (by rfl) (by first | assumption | (simp; done) | fail) (by rfl) (by simp) ?_; (try simp [hne, hne2, hij, Ne.symm hij, del, hbi, hbl, hlen]))
  | fail)
 (refine EndW.here ?_; (first | (refine EndOK.fin (.inr rfl) ?_) | (refine EndOK.fin (.inl rfl) ?_)); simp [zdt, zao, Tryz.results49, hne, hne2, hi, hj, hij, Ne.symm hij]; refine FinOK.cut [(i, .box [.ptr i 0, .vec nx (l.length + s.length)]), (nx, .vec u8T 1 (rowsD (zeD l) ++ rowsD (zeD s)))] (nx + 1) (by simp [zaa, getK, zab, zac, Ob.under, D.under, zak, zap, hne, hne2, hi, hj, hij, Ne.symm hij] <;> omega) (by simp [D.under]) (by simp [hn]) ?_; try simp)
theorem zoH (s : W8) (i nx : Nat) (hi : i < nx) (hlen : s.length <= 140737488355328) :
  RetX Tryz.prog 49 [.ptr i 0, .u (.str s)] [(i, .nw bT)] nx
   (fun r o n => r = .val (.tup [.u (.int .i64 s.length), .u (.oth .nilIface)]) /\ o = [(i, .box [.ptr i 0, .vec (nx + 1) s.length]), (nx + 1, .vec u8T 1 (zdK s))] /\ n = nx + 2) := by
 have hne := zbm hi;have hcp := fun nx' (h : nx <= nx') => zrH i nx' (by omega);have hbi := zne;have hca : zae Tryz.prog 83 = true := by kernel_rfl
 (refine RetX.of_bodyW Tryz.func49 rfl (by simp) fun Γ hn hpan => ?_); simp only [entry, List.zipIdx_cons, List.zipIdx_nil, List.map_cons, List.map_nil, Nat.zero_add, Tryz.ntmps49]
 repeat' (first
  | (refine zlC ?_; simp [zgk, hne, del, hbi, hlen])
  | (refine zdc ?_; simp [hne, del, hbi, hlen])
  | (refine zej ?_; simp [hne, del, hbi, hlen])
  | (refine zdb ?_; simp [hne, del, hbi, hlen])
  | (refine zfK ?_; simp only [zaX])
  | (refine CallP.okL (hcp _ (by first | omega | (simp; done) | (simp; omega) | fail)) (by first | (simp [hne, del, hbi, hlen, zaa, getK, zab, zac, zad, zai, del]; done) | fail) (by rfl) (by first | assumption | (simp; done) | fail) (by rfl) (by simp) ?_; (try simp [hne, del, hbi, hlen, zcx, del]))
  | fail)
 (refine EndW.here ?_; (first | (refine EndOK.fin (.inr rfl) ?_) | (refine EndOK.fin (.inl rfl) ?_)); simp [zdt, zao, Tryz.results49, hne, hi]; refine FinOK.cut [(i, .box [.ptr i 0, .vec (nx + 1) s.length]), (nx + 1, .vec u8T 1 (zdK s))] (nx + 2) (by simp [zaa, getK, zab, zac, Ob.under, D.under, zak, zap, hne, hi] <;> omega) (by simp [D.under]) (by simp [hn]) ?_; try simp)
end Go.Proofs.YtkdhmbhbbciedaaGreatDoor
namespace Go.Proofs.YtkdhmbhbbciedaaGreatDoor
open Go Go.VL
attribute [local simp] HS zba zcP zb4 evPure opd uOf zat St.put St.at getK binD binI binS binB nilD aggD ze5 zfC lookD lookR zbZ rangeS Go.VL.nextD Go.VL.nextS zb1 zfI zfF ze0 zci mkV zbb zcX zaW za9 mapEff zdX zeK Key.kk shiftI arith unD convD zdg loadD cellsAt fieldAddrD fieldD indexAddrD indexSlD arrAddr indexD sliceD cutD lenD minmaxD nilCheckD buildD fillD zbu zcQ zek setAll zcI zed zbU ze3 zbR St.add zaq zbe rowsOf zcY zco zad zac zaa za5 zcH zaS entry za6 zbc valD zb7 zcG ze4 zcV zcW zbz zbv zag zaM za8 delAll effD St.effS zck zaJ zaw zcl zaK zay zbr zax zas zbs zch za7 zbq zaU zbp zai mkD zb3 zbg zbk zag zb6 D.ids Op.operands Call.operands zbj makeIfD makeFuncD typeAssertD zfB zc2 zc4 zfn zb0 IntKind.bits zb5 zam List.take_of_length_le List.range_succ
attribute [local irreducible] V G H HD HD2 HD4 zg5 RetX zaX Eff CallP CallV EndOK Fun Ret FinOK LoopI LoopW EndW
theorem zri (l : Code) (hll : l.length <= 1000000) (hr : zbO l = true) : RetX Tryz.prog 19 [.u (Vm.inss l)] [] 0 (fun r o n => r = .val (.u (.str (zcJ l)))) := by
 have hri := zec l hll;rw [hr] at hri;have hit := fun i x (h : l[i]? = some x) => zgy hr h;simp only [Vm.inss] at hri ⊢
 (refine RetX.of_bodyW Tryz.func19 rfl (by simp) fun Γ hn hpan => ?_); simp only [entry, List.zipIdx_cons, List.zipIdx_nil, List.map_cons, List.map_nil, Nat.zero_add, Tryz.ntmps19]
 repeat' (first
  | (refine zsk (by first | (simp; done) | fail) (by simp) ?_; simp)
  | (refine zdc ?_; simp)
  | (refine zej ?_; simp)
  | (refine zdb ?_; simp)
  | (refine zcZ ?_; simp)
  | (refine zhq ?_; simp)
  | (refine zd1 ?_; simp only [zaX])
  | (refine CallP.fun_ (hri) (by first | rfl | fail) (by first | assumption | (simp; done) | fail) (by first | (simp; done) | (simp; rfl) | fail) (by first | (simp; done) | fail) (fun d hd => ?_); subst hd; (try simp))
  | fail)
 refine zb8 (α := { i : Nat // i <= l.length }) [3, 9, 10] (fun i => [(11, .u (.int .i64 i.1))]) (fun i => zl3 (zcJ (l.take i.1)) i.1) 2 (fun i => l.length - i.1) ⟨0, by omega⟩ ?_ ?_
 ·simp only [zl3, if_pos];exact (Wk.cut rfl (by simp [hn, St.lp]) (by simp [wkO, St.lp, zaa, getK, Ob.under, D.under, zak, zap]) (by simp [wkU, St.lp, zaA, zaa, getK, D.under]) (by simp [wkE, St.lp, zaA, zaa, getK] <;> (try (intros; simp_all; done)) <;> (try (intros; omega)) <;> (try grind)))
 rintro ⟨i, hi⟩;simp [St.lp, St.only, zaA, zaa, getK];rcases hx : l[i]? with _ | x
 ·have hge : l.length <= i := by simpa using hx
  obtain rfl : i = l.length := by omega
  have hne : ¬ l.length = 0 := by
   simp only [zbO, Bool.and_eq_true, decide_eq_true_eq] at hr;omega
  have hll2 := zhi hr l.length (Nat.le_refl _);simp only [List.take_length] at hll2 ⊢;have hnz : zcJ l ≠ [] := fun e => by
   cases l with
   | nil => exact hne rfl
   | cons x r => simp [zcJ, ze1] at e
  have hst := fun nx (h : 2 <= nx) => znr 0 1 nx (by omega) (by omega) (by decide) (zcJ l) hnz;have hca : zae Tryz.prog 51 = true := by kernel_rfl
  simp only [zl3, if_neg hne];generalize zcJ l = T at *
  repeat' (first
  | (refine zdc ?_; simp [hx, hca])
  | (refine zej ?_; simp [hx, hca])
  | (refine zdb ?_; simp [hx, hca])
  | (refine zfK ?_; simp only [zaX])
  | (refine zi9 ?_; simp [zaX])
  | (refine CallP.okL (hst _ (by first | omega | (simp; done) | (simp; omega) | fail)) (by first | (simp [hx, hca, zaa, getK, zab, zac, zad, zai, del]; done) | fail) (by rfl) (by first | assumption | (simp; done) | fail) (by rfl) (by simp) ?_; (try simp [hx, hca, zcx, del]))
  | fail)
  (refine EndW.here ?_; (first | (refine EndOK.fin (.inr rfl) ?_) | (refine EndOK.fin (.inl rfl) ?_)); simp [zdt, zao, Tryz.results19]; refine FinOK.cut [] (2) (by simp [zaa, getK, zab, zac, Ob.under, D.under, zak, zap] <;> omega) (by simp [D.under]) (by simp [hn]) ?_; try simp)
 ·have hlt : i < l.length := (List.getElem?_eq_some_iff.1 hx).1;have hxe : l[i]'hlt = x := (List.getElem?_eq_some_iff.1 hx).2;obtain ⟨o0, o1, o2, o3, o4⟩ := hit i x hx;have hli := zrj x o0 o1 (by omega) (by omega) (by omega);have hca : zae Tryz.prog 49 = true := by kernel_rfl
  have hl1 := zhi hr i hi;have hl2 := zjA x (hit i x hx);have htk := zhT hx;by_cases h0 : i = 0
  ·subst h0;have hn0 : ¬ l = [] := fun e => by rw [e] at hx; cases hx
   have hwr := fun nx (h : 2 <= nx) => zoH (ze1 x) 0 nx (by omega) (by omega);simp only [zl3, if_pos]
   repeat' (first
  | (refine zdc ?_; simp [hx, hca, hxe, hn0])
  | (refine zej ?_; simp [hx, hca, hxe, hn0])
  | (refine zdb ?_; simp [hx, hca, hxe, hn0])
  | (refine zdV ?_; simp [hx, hca, hxe, hn0])
  | (refine zd1 ?_; simp only [zaX])
  | (intro hc <;> (try (exfalso; omega)))
  | (refine CallP.fun_ (hli) (by first | rfl | fail) (by first | assumption | (simp; done) | fail) (by first | (simp [hx, hca, hxe, hn0]; done) | (simp [hx, hca, hxe, hn0]; rfl) | fail) (by first | (simp; done) | fail) (fun d hd => ?_); subst hd; (try simp [hx, hca, hxe, hn0]))
  | (refine CallP.okL (hwr _ (by first | omega | (simp; done) | (simp; omega) | fail)) (by first | (simp [hx, hca, hxe, hn0, zaa, getK, zab, zac, zad, zai, del]; done) | fail) (by rfl) (by first | assumption | (simp; done) | fail) (by rfl) (by simp) ?_; (try simp [hx, hca, hxe, hn0, zcx, del]))
  | fail)
   refine LoopW.next ⟨1, by omega⟩ (by simp; omega) ?_
   have e1 : zcJ (l.take 1) = ze1 x := by rw [htk]; simp [zcJ]
   simp only [zl3, e1, if_neg (show ¬ (1 : Nat) = 0 by decide)];exact (Wk.ren ((fun x => if x = 1 then 4 else x)) rfl (by first | (simp [hn]; done) | (intro i hi; rw [hn] at hi; constructor <;> (try simp) <;> (try (intro _)) <;> omega)) (by simp [zee, St.lp, zaA, zaa, getK, zac, zad, D.under, D.le, D.ren] <;> (try (intros; simp_all; done)) <;> (try omega)) (by simp [wkR, St.lp, zaa, getK, zac, zad, obR, leU, zaN, zan, Ob.under, D.under, D.le, D.ren] <;> (try (intros; simp_all; done)) <;> (try omega)) (by simp))
  ·have hwr := fun nx (h : 2 <= nx) => znm (zcJ (l.take i)) (ze1 x) 0 1 nx (by omega) (by omega) (by decide) (by omega);simp only [zl3, if_neg h0]
   repeat' (first
  | (refine zdc ?_; simp [hx, hca, hxe])
  | (refine zej ?_; simp [hx, hca, hxe])
  | (refine ⟨by omega, ?_⟩)
  | (refine zdb ?_; simp [hx, hca, hxe])
  | (refine zdV ?_; simp [hx, hca, hxe])
  | (refine zd1 ?_; simp only [zaX])
  | (refine ⟨?_, by omega⟩)
  | (intro hc <;> (try (exfalso; omega)))
  | (refine CallP.fun_ (hli) (by first | rfl | fail) (by first | assumption | (simp; done) | fail) (by first | (simp [hx, hca, hxe]; done) | (simp [hx, hca, hxe]; rfl) | fail) (by first | (simp; done) | fail) (fun d hd => ?_); subst hd; (try simp [hx, hca, hxe]))
  | (refine CallP.okL (hwr _ (by first | omega | (simp; done) | (simp; omega) | fail)) (by first | (simp [hx, hca, hxe, zaa, getK, zab, zac, zad, zai, del]; done) | fail) (by rfl) (by first | assumption | (simp; done) | fail) (by rfl) (by simp) ?_; (try simp [hx, hca, hxe, zcx, del]))
  | fail)
   refine LoopW.next ⟨i + 1, by omega⟩ (by simp; omega) ?_
   simp only [zl3, htk, List.length_append, if_neg (show ¬ i + 1 = 0 by omega)];exact (Wk.ren ((fun x => if x = 1 then 3 else x)) rfl (by first | (simp [hn]; done) | (intro i hi; rw [hn] at hi; constructor <;> (try simp) <;> (try (intro _)) <;> omega)) (by simp [zee, St.lp, zaA, zaa, getK, zac, zad, D.under, D.le, D.ren] <;> (try (intros; simp_all; done)) <;> (try omega)) (by simp [wkR, St.lp, zaa, getK, zac, zad, obR, leU, zaN, zan, Ob.under, D.under, D.le, D.ren] <;> (try (intros; simp_all; done)) <;> (try omega)) (by simp))
def zdH (l : Code) : List UInt8 := if zbO l = true then zcJ l else []
theorem zjz (l : Code) (hll : l.length <= 1000000) : Fun Tryz.prog 19 [.u (Vm.inss l)] (· = .u (.str (zdH l))) := by
 cases hb : zbO l with
 | true =>
  unfold Fun;exact (zri l hll hb).ret (fun d o n h => by
   cases h;exact ⟨by simp [zaY], by simp [zdH, hb]⟩) (fun ch o n h => by cases h)
 | false =>
  have hri := zec l hll;rw [hb] at hri;have hp : zdH l = [] := by unfold zdH; rw [if_neg (by simp [hb])]
  rw [hp];simp only [Vm.inss] at hri ⊢
  (refine Fun.of_body Tryz.func19 rfl (by simp) fun Γ hn => ?_); simp only [entry, List.zipIdx_cons, List.zipIdx_nil, List.map_cons, List.map_nil, Nat.zero_add, Tryz.ntmps19]
  repeat' (first
  | (refine zdc ?_; simp)
  | (refine zej ?_; simp)
  | (refine zdb ?_; simp)
  | (refine zcZ ?_; simp)
  | (refine zfK ?_; simp only [zaX])
  | (refine CallP.fun_ (hri) (by first | rfl | fail) (by first | assumption | (simp; done) | fail) (by first | (simp; done) | (simp; rfl) | fail) (by first | (simp; done) | fail) (fun d hd => ?_); subst hd; (try simp))
  | fail)
  (refine EndOK.val (.inr rfl) ?_; simp [zdt, zao, zaY, Tryz.results19])
theorem zhD : ∀ (m : Nat), m <= 9223372036854775808 -> Fun Tryz.prog 85 [.u (.int .i64 (-(m : Int)))] (· = .u (.str (Lib.decDigits m))) := by
 intro m
 induction m using Nat.strongRecOn with
 | ind m ih =>
  intro hm;have e1 : Int.tmod (-(m : Int)) 10 = -((m % 10 : Nat) : Int) := by rw [Int.neg_tmod]; rfl
  have e2 : Int.tdiv (-(m : Int)) 10 = -((m / 10 : Nat) : Int) := by rw [Int.neg_tdiv]; rfl
  have hr : m % 10 < 10 := Nat.mod_lt _ (by decide);have e3 : (UInt8.ofNat (48 + m % 10)).toNat = 48 + m % 10 := by simp; omega
  have u74 : Tryz.prog.underlying 86 = some (.slice 5) := by kernel_rfl
  have u5 : Tryz.prog.underlying 5 = some (.int .u8) := by kernel_rfl
  have u9 : Tryz.prog.underlying 9 = some .string := by kernel_rfl
  have hlen := zho m hm;rw [Lib.decDigits];have hdd : m < 10 -> UInt8.ofNat (48 + m) = UInt8.ofNat (48 + m % 10) := fun h => by rw [Nat.mod_eq_of_lt h]
  generalize UInt8.ofNat (48 + m % 10) = c at *;by_cases h10 : m < 10
  ·have hgt : (-10 : Int) < -(m : Int) := by omega
   rw [dif_pos h10, hdd h10];clear hdd
   (refine Fun.of_bodyW Tryz.func85 rfl (by simp) fun Γ hn => ?_); simp only [entry, List.zipIdx_cons, List.zipIdx_nil, List.map_cons, List.map_nil, Nat.zero_add, Tryz.ntmps85]
   repeat' (first
  | (refine zqx (e := 5) [c] u74 u5 u9 (by first | rfl | fail) (by first | (simp [zaa, getK, zdv, e3]; done) | (simp [zaa, getK, zdv, e3]; omega) | fail) (by simp) (by simp [zat]) ?_; simp)
  | (refine zdc ?_; simp [e1, e2, hgt])
  | (refine zej ?_; simp [e1, e2, hgt])
  | (refine ⟨by omega, ?_⟩)
  | (refine zdb ?_; simp [e1, e2, hgt])
  | (refine zcZ ?_; simp [e1, e2, hgt])
  | (refine zfK ?_; simp only [zaX])
  | fail)
   refine EndW.here ?_
   (refine EndOK.val (.inr rfl) ?_; simp [zdt, zao, zaY, Tryz.results85])
  ·have hgt : ¬ (-10 : Int) < -(m : Int) := by omega
   have hl2 := zho (m / 10) (by omega);have hi := ih (m / 10) (by omega) (by omega);rw [dif_neg h10];generalize Lib.decDigits (m / 10) = T at *;clear hdd ih
   (refine Fun.of_bodyW Tryz.func85 rfl (by simp) fun Γ hn => ?_); simp only [entry, List.zipIdx_cons, List.zipIdx_nil, List.map_cons, List.map_nil, Nat.zero_add, Tryz.ntmps85]
   repeat' (first
  | (refine zqx (e := 5) [c] u74 u5 u9 (by first | rfl | fail) (by first | (simp [zaa, getK, zdv, e3]; done) | (simp [zaa, getK, zdv, e3]; omega) | fail) (by simp) (by simp [zat]) ?_; simp)
  | (refine zdc ?_; simp [e1, e2, hgt])
  | (refine zej ?_; simp [e1, e2, hgt])
  | (refine ⟨by omega, ?_⟩)
  | (refine zdb ?_; simp [e1, e2, hgt])
  | (refine zcZ ?_; simp [e1, e2, hgt])
  | (refine zfK ?_; simp only [zaX])
  | (refine zd1 ?_; simp only [zaX])
  | (refine CallP.fun_ (hi) (by first | rfl | fail) (by first | assumption | (simp; done) | fail) (by first | (simp [e1, e2, hgt]; done) | (simp [e1, e2, hgt]; rfl) | fail) (by first | (simp; done) | fail) (fun d hd => ?_); subst hd; (try simp [e1, e2, hgt]))
  | fail)
   refine EndW.here ?_
   (refine EndOK.val (.inr rfl) ?_; simp [zdt, zao, zaY, Tryz.results85])
theorem zhd (n : Int) (h0 : -9223372036854775808 <= n) (h1 : n <= 9223372036854775807) : Fun Tryz.prog 53 [.u (.int .i64 n)] (· = .u (.str (Lib.itoa n ++ [59]))) := by
 unfold Lib.itoa;by_cases hn : n < 0
 ·have hd := zhD n.natAbs (by omega);have hl := zho n.natAbs (by omega);rw [show (-((n.natAbs : Nat) : Int)) = n by omega] at hd;rw [if_pos hn];generalize Lib.decDigits n.natAbs = T at *
  (refine Fun.of_body Tryz.func53 rfl (by simp) fun Γ hn => ?_); simp only [entry, List.zipIdx_cons, List.zipIdx_nil, List.map_cons, List.map_nil, Nat.zero_add, Tryz.ntmps53]
  repeat' (first
  | (refine zdc ?_; simp [hn])
  | (refine zej ?_; simp [hn])
  | (refine ⟨by omega, ?_⟩)
  | (refine zdb ?_; simp [hn])
  | (refine zcZ ?_; simp [hn])
  | (refine zfK ?_; simp only [zaX])
  | (refine ⟨?_, by omega⟩)
  | (intro hc <;> (try (exfalso; omega)))
  | (refine CallP.fun_ (hd) (by first | rfl | fail) (by first | assumption | (simp; done) | fail) (by first | (simp [hn]; done) | (simp [hn]; rfl) | fail) (by first | (simp; done) | fail) (fun d hd => ?_); subst hd; (try simp [hn]))
  | fail)
  (refine EndOK.val (.inr rfl) ?_; simp [zdt, zao, zaY, Tryz.results53])
 ·have hd := zhD n.toNat (by omega);have hl := zho n.toNat (by omega);rw [show (-((n.toNat : Nat) : Int)) = -n by omega] at hd;rw [if_neg hn];generalize Lib.decDigits n.toNat = T at *
  (refine Fun.of_body Tryz.func53 rfl (by simp) fun Γ hn => ?_); simp only [entry, List.zipIdx_cons, List.zipIdx_nil, List.map_cons, List.map_nil, Nat.zero_add, Tryz.ntmps53]
  repeat' (first
  | (refine zdc ?_; simp [hn])
  | (refine zej ?_; simp [hn])
  | (refine ⟨by omega, ?_⟩)
  | (refine zdb ?_; simp [hn])
  | (refine zcZ ?_; simp [hn])
  | (refine zfK ?_; simp only [zaX])
  | (refine zd1 ?_; simp only [zaX])
  | (intro hc <;> (try (exfalso; omega)))
  | (refine CallP.fun_ (hd) (by first | rfl | fail) (by first | assumption | (simp; done) | fail) (by first | (simp [hn]; done) | (simp [hn]; rfl) | fail) (by first | (simp; done) | fail) (fun d hd => ?_); subst hd; (try simp [hn]))
  | fail)
  (refine EndOK.val (.inr rfl) ?_; simp [zdt, zao, zaY, Tryz.results53])
theorem zlr (s : W8) (f : Nat) (hs : s.length <= 21) (hf : f <= s.length) (h : if f = 0 then s.head? ≠ some 45 else s.head? = some 45 /\ f = 1) : Fun Tryz.prog 153 [.u (.str s)]
  (· = .tup [.u (.int .i64 (zfJ s).1), .u (.bool (zfJ s).2)]) := by
 have hbv : zfJ s = if (s.drop f).all zav = true then ((if f = 0 then w64 (-((s.drop f).foldl zb2 0)) else (s.drop f).foldl zb2 0), decide (Lib.itoa (if f = 0 then w64 (-((s.drop f).foldl zb2 0)) else (s.drop f).foldl zb2 0) ++ [59] = s ++ [59])) else (0, false) := by
  unfold zfJ;by_cases h0 : f = 0
  ·rw [if_pos h0] at h;rw [if_neg h, h0]
  ·rw [if_neg h0] at h;rw [if_pos h.1, h.2]
 rw [hbv];clear hbv;generalize hR : (if (s.drop f).all zav = true then ((if f = 0 then w64 (-((s.drop f).foldl zb2 0)) else (s.drop f).foldl zb2 0), decide (Lib.itoa (if f = 0 then w64 (-((s.drop f).foldl zb2 0)) else (s.drop f).foldl zb2 0) ++ [59] = s ++ [59])) else ((0 : Int), false)) = R;by_cases hnil : s = []
 ·have hf0 : f = 0 := by rw [hnil] at hf; simpa using hf
  have hl0 : ¬ 0 < s.length := by simp [hnil]
  (refine Fun.of_bodyW Tryz.func153 rfl (by simp) fun Γ hn => ?_); simp only [entry, List.zipIdx_cons, List.zipIdx_nil, List.map_cons, List.map_nil, Nat.zero_add, Tryz.ntmps153]
  repeat' (first
  | (refine zdc ?_; simp [hl0])
  | (refine zej ?_; simp [hl0])
  | (refine zdb ?_; simp [hl0])
  | (refine zcZ ?_; simp [hl0])
  | (refine zhq ?_; simp [hl0])
  | (refine zd1 ?_; simp only [zaX])
  | fail)
  clear hl0 hnil;refine zcs (α := { i : Nat // f <= i /\ i <= s.length /\ ((s.take i).drop f).all zav = true }) [0, 4] (fun i => [(5, .u (.int .i64 (((s.take i.1).drop f).foldl zb2 0))), (6, .u (.int .i64 i.1))]) (fun i => s.length - i.1) ⟨f, by omega, hf, by simp⟩ ?_ ?_
  ·have e0 : ((s.take f).drop f).foldl zb2 0 = 0 := by simp
   exact (Wk.cut rfl (by simp [hn, St.lp]) (by simp [wkO, St.lp, zaa, getK, Ob.under, D.under, zak, zap, e0, hf0]) (by simp [wkU, St.lp, zaA, zaa, getK, D.under, e0, hf0]) (by simp [wkE, St.lp, zaA, zaa, getK, e0, hf0] <;> (try (intros; simp_all; done)) <;> (try (intros; omega)) <;> (try grind)))
  rintro ⟨i, hfi, hi, hall⟩;simp [St.lp, St.only, zaA, zaa, getK];rcases hx : s[i]? with _ | c
  ·have hge : s.length <= i := by simpa using hx
   obtain rfl : i = s.length := by omega
   rw [List.take_length] at hall;rw [if_pos hall] at hR;have htl : (s.take s.length).drop f = s.drop f := by rw [List.take_length]
   rw [<- htl] at hR;have hbi := zmm ((s.take s.length).drop f) 0 (by omega);clear htl;generalize ((s.take s.length).drop f).foldl zb2 0 = n at *;have h0 : f = 0 := hf0;have h4 := zhd (w64 (-n)) (zf0 _).1 (zf0 _).2;have hil := Lib.itoa_length_le (w64 (-n)) (zf0 _).1 (zf0 _).2;rw [if_pos h0] at hR;generalize Lib.itoa (w64 (-n)) = T at *;subst hR
   repeat' (first
  | (refine zv1 rfl (by simp) ?_; simp)
  | (refine zdc ?_; simp [hx, h0])
  | (refine zej ?_; simp [hx, h0])
  | (refine ⟨by omega, ?_⟩)
  | (refine zdb ?_; simp [hx, h0])
  | (refine zcZ ?_; simp [hx, h0])
  | (refine zdV ?_; simp [hx, h0])
  | (refine zfK ?_; simp only [zaX])
  | (refine zi9 ?_; simp [zaX])
  | (refine CallP.fun_ (h4) (by first | rfl | fail) (by first | assumption | (simp; done) | fail) (by first | (simp [hx, h0]; done) | (simp [hx, h0]; rfl) | fail) (by first | (simp; done) | fail) (fun d hd => ?_); subst hd; (try simp [hx, h0]))
  | fail)
   refine EndW.norm (EndW.here ?_)
   (refine EndOK.val (.inr rfl) ?_; simp [zdt, zao, zaY, Tryz.results153, zaG, zaH, za1, za2, frz, zbN, frzS, fv, zbh, zbx, zbM, zaI, zar, zal, zbt, zbP, zbQ, zaV])
  ·have hlt : i < s.length := (List.getElem?_eq_some_iff.1 hx).1;have hsn := zgd hx hfi;by_cases hd : zav c = true
   ·have hd2 := hd;simp only [zav, Bool.and_eq_true, decide_eq_true_eq] at hd2;have e5 : ((c.toNat : Int) - 48) % 256 = (c.toNat : Int) - 48 := by omega
    have hgo : ((s.take (i + 1)).drop f).foldl zb2 0 = w64 (w64 (10 * ((s.take i).drop f).foldl zb2 0) - ((c.toNat : Int) - 48)) := by rw [hsn, List.foldl_append]; rfl
    generalize ((s.take i).drop f).foldl zb2 0 = n at *
    repeat' (first
  | (refine zv2 rfl rfl (by simp) ?_; simp)
  | (refine zv0 rfl rfl (by simp) ?_; simp)
  | (refine zdc ?_; simp [hx, e5])
  | (refine zej ?_; simp [hx, e5])
  | (refine ⟨by omega, ?_⟩)
  | (refine zdb ?_; simp [hx, e5])
  | (refine zcZ ?_; simp [hx, e5])
  | (refine zdV ?_; simp [hx, e5])
  | (refine zd1 ?_; simp only [zaX])
  | (refine ⟨?_, by omega⟩)
  | (intro hc <;> (try (exfalso; omega)))
  | fail)
    refine LoopW.next ⟨i + 1, by omega, by omega, by rw [hsn]; simp [hall, hd]⟩ (by simp; omega) ?_
    exact (Wk.cut rfl (by simp [hn, St.lp]) (by simp [wkO, St.lp, zaa, getK, Ob.under, D.under, zak, zap, hgo]) (by simp [wkU, St.lp, zaA, zaa, getK, D.under, hgo]) (by simp [wkE, St.lp, zaA, zaa, getK, hgo] <;> (try (intros; simp_all; done)) <;> (try (intros; omega)) <;> (try grind)))
   ·have hbad : ¬ (s.drop f).all zav = true := fun ha => by
     rw [List.all_eq_true] at ha;refine hd (ha c (List.mem_of_getElem? (i := i - f) ?_));rw [List.getElem?_drop, show f + (i - f) = i by omega, hx]
    rw [if_neg hbad] at hR;subst hR;have hd2 : c.toNat < 48 \/ 57 < c.toNat := by
     simp only [zav, Bool.and_eq_true, decide_eq_true_eq] at hd;omega
    generalize ((s.take i).drop f).foldl zb2 0 = n at *
    repeat' (first
  | (refine zdc ?_; simp [hx])
  | (refine zej ?_; simp [hx])
  | (refine ⟨by omega, ?_⟩)
  | (refine zdb ?_; simp [hx])
  | (refine zcZ ?_; simp [hx])
  | (refine zfK ?_; simp only [zaX])
  | (refine zd1 ?_; simp only [zaX])
  | (refine ⟨?_, by omega⟩)
  | (refine ⟨fun hc => ?_, fun hc => ?_⟩ <;> (try (exfalso; omega)))
  | (intro hc <;> (try (exfalso; omega)))
  | fail)
    all_goals
     refine EndW.norm (EndW.here ?_)
     (refine EndOK.val (.inr rfl) ?_; simp [zdt, zao, zaY, Tryz.results153, zaG, zaH, za1, za2, frz, zbN, frzS, fv, zbh, zbx, zbM, zaI, zar, zal, zbt, zbP, zbQ, zaV])
 ·obtain ⟨c, r, rfl⟩ := List.exists_cons_of_ne_nil hnil;clear hnil;by_cases hc45 : c = 45
  ·have hf0 : f = 1 := by
    by_cases h0 : f = 0
    ·rw [if_pos h0, hc45] at h; exact absurd rfl h
    ·rw [if_neg h0] at h; exact h.2
   subst hc45
   (refine Fun.of_bodyW Tryz.func153 rfl (by simp) fun Γ hn => ?_); simp only [entry, List.zipIdx_cons, List.zipIdx_nil, List.map_cons, List.map_nil, Nat.zero_add, Tryz.ntmps153]
   repeat' (first
  | (refine zdc ?_; simp)
  | (refine zej ?_; simp)
  | (refine zdb ?_; simp)
  | (refine zcZ ?_; simp)
  | (refine zhq ?_; simp)
  | (refine zdV ?_; simp)
  | fail)
   generalize hcs : 45 :: r = s at *;refine zcs (α := { i : Nat // f <= i /\ i <= s.length /\ ((s.take i).drop f).all zav = true }) [0, 4] (fun i => [(5, .u (.int .i64 (((s.take i.1).drop f).foldl zb2 0))), (6, .u (.int .i64 i.1))]) (fun i => s.length - i.1) ⟨f, by omega, hf, by simp⟩ ?_ ?_
   ·have e0 : ((s.take f).drop f).foldl zb2 0 = 0 := by simp
    exact (Wk.cut rfl (by simp [hn, St.lp]) (by simp [wkO, St.lp, zaa, getK, Ob.under, D.under, zak, zap, e0, hf0]) (by simp [wkU, St.lp, zaA, zaa, getK, D.under, e0, hf0]) (by simp [wkE, St.lp, zaA, zaa, getK, e0, hf0] <;> (try (intros; simp_all; done)) <;> (try (intros; omega)) <;> (try grind)))
   rintro ⟨i, hfi, hi, hall⟩;simp [St.lp, St.only, zaA, zaa, getK];rcases hx : s[i]? with _ | c
   ·have hge : s.length <= i := by simpa using hx
    obtain rfl : i = s.length := by omega
    rw [List.take_length] at hall;rw [if_pos hall] at hR;have htl : (s.take s.length).drop f = s.drop f := by rw [List.take_length]
    rw [<- htl] at hR;have hbi := zmm ((s.take s.length).drop f) 0 (by omega);clear htl;generalize ((s.take s.length).drop f).foldl zb2 0 = n at *;have h0 : ¬ f = 0 := by omega
    have h4 := zhd n hbi.1 hbi.2;have hil := Lib.itoa_length_le n hbi.1 hbi.2;rw [if_neg h0] at hR;generalize Lib.itoa n = T at *;subst hR
    repeat' (first
  | (refine zdc ?_; simp [hx, h0])
  | (refine zej ?_; simp [hx, h0])
  | (refine ⟨by omega, ?_⟩)
  | (refine zdb ?_; simp [hx, h0])
  | (refine zcZ ?_; simp [hx, h0])
  | (refine zfK ?_; simp only [zaX])
  | (refine zd1 ?_; simp only [zaX])
  | (refine zi9 ?_; simp [zaX])
  | (refine CallP.fun_ (h4) (by first | rfl | fail) (by first | assumption | (simp; done) | fail) (by first | (simp [hx, h0]; done) | (simp [hx, h0]; rfl) | fail) (by first | (simp; done) | fail) (fun d hd => ?_); subst hd; (try simp [hx, h0]))
  | fail)
    refine EndW.norm (EndW.here ?_)
    (refine EndOK.val (.inr rfl) ?_; simp [zdt, zao, zaY, Tryz.results153, zaG, zaH, za1, za2, frz, zbN, frzS, fv, zbh, zbx, zbM, zaI, zar, zal, zbt, zbP, zbQ, zaV])
   ·have hlt : i < s.length := (List.getElem?_eq_some_iff.1 hx).1;have hsn := zgd hx hfi;by_cases hd : zav c = true
    ·have hd2 := hd;simp only [zav, Bool.and_eq_true, decide_eq_true_eq] at hd2;have e5 : ((c.toNat : Int) - 48) % 256 = (c.toNat : Int) - 48 := by omega
     have hgo : ((s.take (i + 1)).drop f).foldl zb2 0 = w64 (w64 (10 * ((s.take i).drop f).foldl zb2 0) - ((c.toNat : Int) - 48)) := by rw [hsn, List.foldl_append]; rfl
     generalize ((s.take i).drop f).foldl zb2 0 = n at *
     repeat' (first
  | (refine zv2 rfl rfl (by simp) ?_; simp)
  | (refine zv0 rfl rfl (by simp) ?_; simp)
  | (refine zdc ?_; simp [hx, e5])
  | (refine zej ?_; simp [hx, e5])
  | (refine ⟨by omega, ?_⟩)
  | (refine zdb ?_; simp [hx, e5])
  | (refine zcZ ?_; simp [hx, e5])
  | (refine zdV ?_; simp [hx, e5])
  | (refine zd1 ?_; simp only [zaX])
  | (refine ⟨?_, by omega⟩)
  | (intro hc <;> (try (exfalso; omega)))
  | fail)
     refine LoopW.next ⟨i + 1, by omega, by omega, by rw [hsn]; simp [hall, hd]⟩ (by simp; omega) ?_
     exact (Wk.cut rfl (by simp [hn, St.lp]) (by simp [wkO, St.lp, zaa, getK, Ob.under, D.under, zak, zap, hgo]) (by simp [wkU, St.lp, zaA, zaa, getK, D.under, hgo]) (by simp [wkE, St.lp, zaA, zaa, getK, hgo] <;> (try (intros; simp_all; done)) <;> (try (intros; omega)) <;> (try grind)))
    ·have hbad : ¬ (s.drop f).all zav = true := fun ha => by
      rw [List.all_eq_true] at ha;refine hd (ha c (List.mem_of_getElem? (i := i - f) ?_));rw [List.getElem?_drop, show f + (i - f) = i by omega, hx]
     rw [if_neg hbad] at hR;subst hR;have hd2 : c.toNat < 48 \/ 57 < c.toNat := by
      simp only [zav, Bool.and_eq_true, decide_eq_true_eq] at hd;omega
     generalize ((s.take i).drop f).foldl zb2 0 = n at *
     repeat' (first
  | (refine zdc ?_; simp [hx])
  | (refine zej ?_; simp [hx])
  | (refine ⟨by omega, ?_⟩)
  | (refine zdb ?_; simp [hx])
  | (refine zcZ ?_; simp [hx])
  | (refine zfK ?_; simp only [zaX])
  | (refine zd1 ?_; simp only [zaX])
  | (refine ⟨?_, by omega⟩)
  | (refine ⟨fun hc => ?_, fun hc => ?_⟩ <;> (try (exfalso; omega)))
  | (intro hc <;> (try (exfalso; omega)))
  | fail)
     all_goals
      refine EndW.norm (EndW.here ?_)
      (refine EndOK.val (.inr rfl) ?_; simp [zdt, zao, zaY, Tryz.results153, zaG, zaH, za1, za2, frz, zbN, frzS, fv, zbh, zbx, zbM, zaI, zar, zal, zbt, zbP, zbQ, zaV])
  ·have hf0 : f = 0 := by
    by_cases h0 : f = 0
    ·exact h0
    ·rw [if_neg h0] at h; exact absurd (Option.some.inj h.1) hc45
   have hc46 : ¬ (c.toNat : Int) = 45 := fun e => hc45 (UInt8.toNat_inj.1 (by simp; omega))
   (refine Fun.of_bodyW Tryz.func153 rfl (by simp) fun Γ hn => ?_); simp only [entry, List.zipIdx_cons, List.zipIdx_nil, List.map_cons, List.map_nil, Nat.zero_add, Tryz.ntmps153]
   repeat' (first
  | (refine zdc ?_; simp [hc46])
  | (refine zej ?_; simp [hc46])
  | (refine zdb ?_; simp [hc46])
  | (refine zcZ ?_; simp [hc46])
  | (refine zhq ?_; simp [hc46])
  | (refine zd1 ?_; simp only [zaX])
  | fail)
   generalize hcs : c :: r = s at *;refine zcs (α := { i : Nat // f <= i /\ i <= s.length /\ ((s.take i).drop f).all zav = true }) [0, 4] (fun i => [(5, .u (.int .i64 (((s.take i.1).drop f).foldl zb2 0))), (6, .u (.int .i64 i.1))]) (fun i => s.length - i.1) ⟨f, by omega, hf, by simp⟩ ?_ ?_
   ·have e0 : ((s.take f).drop f).foldl zb2 0 = 0 := by simp
    exact (Wk.cut rfl (by simp [hn, St.lp]) (by simp [wkO, St.lp, zaa, getK, Ob.under, D.under, zak, zap, e0, hf0]) (by simp [wkU, St.lp, zaA, zaa, getK, D.under, e0, hf0]) (by simp [wkE, St.lp, zaA, zaa, getK, e0, hf0] <;> (try (intros; simp_all; done)) <;> (try (intros; omega)) <;> (try grind)))
   rintro ⟨i, hfi, hi, hall⟩;simp [St.lp, St.only, zaA, zaa, getK];rcases hx : s[i]? with _ | c
   ·have hge : s.length <= i := by simpa using hx
    obtain rfl : i = s.length := by omega
    rw [List.take_length] at hall;rw [if_pos hall] at hR;have htl : (s.take s.length).drop f = s.drop f := by rw [List.take_length]
    rw [<- htl] at hR;have hbi := zmm ((s.take s.length).drop f) 0 (by omega);clear htl;generalize ((s.take s.length).drop f).foldl zb2 0 = n at *;have h0 : f = 0 := hf0;have h4 := zhd (w64 (-n)) (zf0 _).1 (zf0 _).2;have hil := Lib.itoa_length_le (w64 (-n)) (zf0 _).1 (zf0 _).2;rw [if_pos h0] at hR;generalize Lib.itoa (w64 (-n)) = T at *;subst hR
    repeat' (first
  | (refine zv1 rfl (by simp) ?_; simp)
  | (refine zdc ?_; simp [hx, h0])
  | (refine zej ?_; simp [hx, h0])
  | (refine ⟨by omega, ?_⟩)
  | (refine zdb ?_; simp [hx, h0])
  | (refine zcZ ?_; simp [hx, h0])
  | (refine zdV ?_; simp [hx, h0])
  | (refine zfK ?_; simp only [zaX])
  | (refine zi9 ?_; simp [zaX])
  | (refine CallP.fun_ (h4) (by first | rfl | fail) (by first | assumption | (simp; done) | fail) (by first | (simp [hx, h0]; done) | (simp [hx, h0]; rfl) | fail) (by first | (simp; done) | fail) (fun d hd => ?_); subst hd; (try simp [hx, h0]))
  | fail)
    refine EndW.norm (EndW.here ?_)
    (refine EndOK.val (.inr rfl) ?_; simp [zdt, zao, zaY, Tryz.results153, zaG, zaH, za1, za2, frz, zbN, frzS, fv, zbh, zbx, zbM, zaI, zar, zal, zbt, zbP, zbQ, zaV])
   ·have hlt : i < s.length := (List.getElem?_eq_some_iff.1 hx).1;have hsn := zgd hx hfi;by_cases hd : zav c = true
    ·have hd2 := hd;simp only [zav, Bool.and_eq_true, decide_eq_true_eq] at hd2;have e5 : ((c.toNat : Int) - 48) % 256 = (c.toNat : Int) - 48 := by omega
     have hgo : ((s.take (i + 1)).drop f).foldl zb2 0 = w64 (w64 (10 * ((s.take i).drop f).foldl zb2 0) - ((c.toNat : Int) - 48)) := by rw [hsn, List.foldl_append]; rfl
     generalize ((s.take i).drop f).foldl zb2 0 = n at *
     repeat' (first
  | (refine zv2 rfl rfl (by simp) ?_; simp)
  | (refine zv0 rfl rfl (by simp) ?_; simp)
  | (refine zdc ?_; simp [hx, e5])
  | (refine zej ?_; simp [hx, e5])
  | (refine ⟨by omega, ?_⟩)
  | (refine zdb ?_; simp [hx, e5])
  | (refine zcZ ?_; simp [hx, e5])
  | (refine zdV ?_; simp [hx, e5])
  | (refine zd1 ?_; simp only [zaX])
  | (refine ⟨?_, by omega⟩)
  | (intro hc <;> (try (exfalso; omega)))
  | fail)
     refine LoopW.next ⟨i + 1, by omega, by omega, by rw [hsn]; simp [hall, hd]⟩ (by simp; omega) ?_
     exact (Wk.cut rfl (by simp [hn, St.lp]) (by simp [wkO, St.lp, zaa, getK, Ob.under, D.under, zak, zap, hgo]) (by simp [wkU, St.lp, zaA, zaa, getK, D.under, hgo]) (by simp [wkE, St.lp, zaA, zaa, getK, hgo] <;> (try (intros; simp_all; done)) <;> (try (intros; omega)) <;> (try grind)))
    ·have hbad : ¬ (s.drop f).all zav = true := fun ha => by
      rw [List.all_eq_true] at ha;refine hd (ha c (List.mem_of_getElem? (i := i - f) ?_));rw [List.getElem?_drop, show f + (i - f) = i by omega, hx]
     rw [if_neg hbad] at hR;subst hR;have hd2 : c.toNat < 48 \/ 57 < c.toNat := by
      simp only [zav, Bool.and_eq_true, decide_eq_true_eq] at hd;omega
     generalize ((s.take i).drop f).foldl zb2 0 = n at *
     repeat' (first
  | (refine zdc ?_; simp [hx])
  | (refine zej ?_; simp [hx])
  | (refine ⟨by omega, ?_⟩)
  | (refine zdb ?_; simp [hx])
  | (refine zcZ ?_; simp [hx])
  | (refine zfK ?_; simp only [zaX])
  | (refine zd1 ?_; simp only [zaX])
  | (refine ⟨?_, by omega⟩)
  | (refine ⟨fun hc => ?_, fun hc => ?_⟩ <;> (try (exfalso; omega)))
  | (intro hc <;> (try (exfalso; omega)))
  | fail)
     all_goals
      refine EndW.norm (EndW.here ?_)
      (refine EndOK.val (.inr rfl) ?_; simp [zdt, zao, zaY, Tryz.results153, zaG, zaH, za1, za2, frz, zbN, frzS, fv, zbh, zbx, zbM, zaI, zar, zal, zbt, zbP, zbQ, zaV])
theorem zr6 (s : W8) (hs : s.length <= 21) : Fun Tryz.prog 153 [.u (.str s)] (· = .tup [.u (.int .i64 (zfJ s).1), .u (.bool (zfJ s).2)]) := by
 by_cases h : s.head? = some 45
 ·refine zlr s 1 hs ?_ (by simp [h]);cases s with
  | nil => simp at h
  | cons c r => simp
 ·exact zlr s 0 hs (by omega) (by simp [h])
end Go.Proofs.YtkdhmbhbbciedaaGreatDoor
namespace Go.Proofs.YtkdhmbhbbciedaaGreatDoor
open Go Go.VL
def zoD (cur : W8) : W8 -> List W8
 | [] => []
 | c :: r => if c = 10 then cur :: zoD [] r else zoD (cur ++ [c]) r
theorem zmI {q : W8} : ∀ {p cur : W8}, (10 : UInt8) ∉ p -> zoD cur (p ++ 10 :: q) = (cur ++ p) :: zoD [] q
 | [], cur, _ => by simp [zoD]
 | c :: p, cur, h => by
  simp at h;rw [List.cons_append, zoD, if_neg (Ne.symm h.1), zmI h.2];simp
def zen (s : W8) : Code := (zoD [] s).map zef
theorem zgT : ∀ (l : Code), (∀ x ∈ l, zef (zdd x.op ++ zdG x) = x /\ (10 : UInt8) ∉ zdd x.op ++ zdG x) -> zen (zcJ l) = l
 | [], _ => rfl
 | x :: l, h => by
  obtain ⟨h1, h2⟩ := h x (by simp);have e : zcJ (x :: l) = (zdd x.op ++ zdG x) ++ 10 :: zcJ l := by
   simp [zcJ, zfu]
  have ih := zgT l fun y hy => h y (by simp [hy]);unfold zen at ih ⊢;rw [e, zmI h2, List.map_cons, ih, List.nil_append, h1]
theorem zlO {l : Code} (h : zbO l = true) : zen (zcJ l) = l := by
 obtain ⟨h1, h2, h3⟩ := zeM h;exact zgT l fun x hx => by
  obtain ⟨i, hi⟩ := List.getElem?_of_mem hx;exact ⟨znB (h3 i x hi) (by omega), (zk1 (h3 i x hi) (by omega)).2⟩
theorem zqZ (s : W8) : ze7 s = if s = [] \/ zdH (zen s) ≠ s then ([], 2) else (zen s, 0) := by
 rcases znE s with ⟨l, h1, h2, h3⟩ | h3
 ·have hl : zdH l = s := by rw [zdH, if_pos h1, h2]
  have hp : zen s = l := by rw [<- h2]; exact zlO h1
  have hs : s ≠ [] := by rw [<- h2]; exact zs4 h1
  rw [h3, hp, if_neg (by simp [hs, hl])]
 ·rw [h3];by_cases hc : s = [] \/ zdH (zen s) ≠ s
  ·rw [if_pos hc]
  ·exfalso;have h1 : s ≠ [] := fun e => hc (.inl e);have h2 : zdH (zen s) = s := Classical.byContradiction fun e => hc (.inr e);by_cases hr : zbO (zen s) = true
   ·rw [zdH, if_pos hr] at h2;have := zkx hr;rw [h2, h3] at this;have := congrArg Prod.snd this;simp at this
   ·rw [zdH, if_neg hr] at h2;exact h1 h2.symm
end Go.Proofs.YtkdhmbhbbciedaaGreatDoor
namespace Go.Proofs.YtkdhmbhbbciedaaGreatDoor
open Go Go.VL
attribute [local simp] HS zba zcP zb4 evPure opd uOf zat St.put St.at getK binD binI binS binB nilD aggD ze5 zfC lookD lookR zbZ rangeS Go.VL.nextD Go.VL.nextS zb1 zfI zfF ze0 zci mkV zbb zcX zaW za9 mapEff zdX zeK Key.kk shiftI arith unD convD zdg loadD cellsAt fieldAddrD fieldD indexAddrD indexSlD arrAddr indexD sliceD cutD lenD minmaxD nilCheckD buildD fillD zbu zcQ zek setAll zcI zed zbU ze3 zbR St.add zaq zbe rowsOf zcY zco zad zac zaa za5 zcH zaS entry za6 zbc valD zb7 zcG ze4 zcV zcW zbz zbv zag zaM za8 delAll effD St.effS zck zaJ zaw zcl zaK zay zbr zax zas zbs zch za7 zbq zaU zbp zai mkD zb3 zbg zbk zag zb6 D.ids Op.operands Call.operands zbj makeIfD makeFuncD typeAssertD zfB zc2 zc4 zfn zb0 IntKind.bits zb5 zam List.take_of_length_le List.range_succ zcA zbJ zcB zcu zbf zbA zbC zcv zbE za0 zbD zbB zgo zbI zcy zaQ zaB zcz zaR zaD zbH zaC zau zcE zcF zfZ zab frzN frz1 zaH zaG St.frz St.frzS frzS fv zbh zbx zbM zaI zar zal frz zbN za1 za2 zbt zbP zbQ zaV St.norm St.lp St.only zaA wkE wkO wkU Ob.under D.under zak zap zcC zbK zcD h4s zdt zao zaY List.zipIdx_cons List.zipIdx_nil List.map_cons List.map_nil Nat.zero_add
attribute [local irreducible] V G H HD HD2 HD4 zg5 RetX zaX Eff CallP CallV EndOK Fun Ret FinOK LoopI LoopW EndW HR vs2 RN Cnd H4
theorem ziz : Fun Tryz.prog 52 [] (· = .u (.sl (wordsL.map fun w => [.str w]))) := by
 unfold wordsL;refine Fun.runW Tryz.func52 Tryz.ntmps52 rfl (by simp) fun Γ hn => ?_
 repeat' (first
  | (refine zaf rfl ?_; simp)
  | fail)
 (refine EndW.frzN 1 ?_; simp [del])
 refine EndW.norm (EndW.here ?_)
 (refine EndOK.val (.inr rfl) ?_; simp [Tryz.results52])
theorem zkp (l : Code) (hll : l.length <= 1000000) : Fun Tryz.prog 20 [.u (Vm.inss l)] (· = .u (.str (zdH l))) := by
 have h1 := zhF l hll;have h2 := ziz;unfold zdH;cases hr : zbO l with
 | false =>
  rw [hr] at h1;simp only [Vm.inss] at h1 ⊢;refine Fun.runW Tryz.func20 Tryz.ntmps20 rfl (by simp) fun Γ hn => ?_
  repeat' (first
  | (refine zaf rfl ?_; simp)
  | (refine CallP.f2 rfl (h1) (by first | simp <;> rfl | fail) ?_; simp)
  | fail)
  refine EndW.norm (EndW.here ?_)
  (refine EndOK.val (.inr rfl) ?_; simp [Tryz.results20])
 | true =>
  rw [hr] at h1;have hit := fun i x (h : l[i]? = some x) => zgy hr h;have hl2 := (zeM hr).2.1;have hlt := zhi hr;simp only [Vm.inss, if_true] at h1 ⊢;refine Fun.runW Tryz.func20 Tryz.ntmps20 rfl (by simp) fun Γ hn => ?_
  repeat' (first
  | (refine zaf rfl ?_; simp)
  | (refine CallP.f2 rfl (h1) (by first | simp <;> rfl | fail) ?_; simp)
  | fail)
  refine zcs (α := { i : Nat // i <= l.length }) [0] (fun i => [(3, .u (.str (zcJ (l.take i.1)))), (4, .u (.int .i64 i.1))]) (fun i => l.length - i.1) ⟨0, by omega⟩ ?_ ?_
  ·exact (Wk.zda (by simp [hn, zcJ] <;> grind))
  rintro ⟨i, hi⟩;simp;rcases hx : l[i]? with _ | x
  ·have hge : l.length <= i := by simpa using hx
   obtain rfl : i = l.length := by omega
   simp only [List.take_length]
   repeat' (first
  | (refine zaf rfl ?_; simp [hx])
  | fail)
   refine EndW.norm (EndW.here ?_)
   (refine EndOK.val (.inr rfl) ?_; simp [Tryz.results20])
  ·have hil : i < l.length := (List.getElem?_eq_some_iff.1 hx).1;obtain ⟨o0, o1, o2, o3, o4⟩ := hit i x hx;have hw := zoI o0 o1;have h3 := zhd x.a (by omega) (by omega);have hl1 := hlt i hi;have hsz := zjA x ⟨o0, o1, o2, o3, o4⟩;have htk := zhT hx;rw [zfu] at htk hsz;unfold zdG at htk hsz;have hb : i * 2000 <= 4000000 := by omega
   generalize zcJ (l.take i) = S at *;generalize zdd x.op = w at *;generalize Lib.itoa x.a = T at *;by_cases hn3 : x.op = 0 \/ x.op = 12 \/ x.op = 13
   ·rw [if_pos hn3] at htk hsz;simp at hsz;have e1 : ((T.length : Int) + 1 - 1) = T.length := by omega
    rcases hn3 with h4 | h4 | h4
    all_goals
     simp only [h4, show (0 : Int).toNat = 0 from rfl, show (12 : Int).toNat = 12 from rfl, show (13 : Int).toNat = 13 from rfl] at hw
     repeat' (first
  | (refine Cnd.of (fun hc => ?_) (fun hc => ?_) <;> (try (exfalso; omega)) <;> (try simp [hx, hw, h4, e1]))
  | (refine zaf rfl ?_; simp [hx, hw, h4, e1])
  | (refine And.intro (by omega) ?_)
  | (refine ⟨hC _ (by kernel_rfl), hk _ (zeI 8 _ _ _ ?_)⟩; clear hC hk C k; simp [hx, hw, h4, e1])
  | (refine zeH rfl (by kernel_rfl) (by first | (simp [hn]; done) | (simp [hn]; omega) | fail) fun C k hC hk => ?_; simp [hx, hw, h4, e1])
  | (refine zd2 rfl ?_; simp [hx, hw, h4, e1])
  | (refine zgS rfl ?_; simp [hx, hw, h4, e1])
  | ((first | refine CallP.f2 rfl (h2) (by first | simp [hx, hw, h4, e1] <;> rfl | fail) ?_ | refine CallP.f2 rfl (h3) (by first | simp [hx, hw, h4, e1] <;> rfl | fail) ?_ | fail); simp [hx, hw, h4, e1])
  | ((first | refine CallV.f2 rfl (h2) (by first | simp [hx, hw, h4, e1] <;> rfl | fail) ?_ | refine CallV.f2 rfl (h3) (by first | simp [hx, hw, h4, e1] <;> rfl | fail) ?_ | fail); simp [hx, hw, h4, e1])
  | fail)
     refine LoopW.next ⟨i + 1, by omega⟩ (by simp; omega) ?_
     exact (Wk.zda (by simp [hn, htk] <;> grind))
   ·rw [if_neg hn3] at htk hsz;have q0 : (x.op = 0) = False := eq_false (by omega);have q12 : (x.op = 12) = False := eq_false (by omega);have q13 : (x.op = 13) = False := eq_false (by omega);by_cases h4 : x.op = 1
    ·rw [if_pos h4] at htk hsz;simp at hsz;simp only [h4, show (1 : Int).toNat = 1 from rfl] at hw
     repeat' (first
  | (refine Cnd.of (fun hc => ?_) (fun hc => ?_) <;> (try (exfalso; omega)) <;> (try simp [hx, hw, h4]))
  | (refine zaf rfl ?_; simp [hx, hw, h4])
  | (refine And.intro (by omega) ?_)
  | (refine ⟨hC _ (by kernel_rfl), hk _ (zeI 8 _ _ _ ?_)⟩; clear hC hk C k; simp [hx, hw, h4])
  | (refine zeH rfl (by kernel_rfl) (by first | (simp [hn]; done) | (simp [hn]; omega) | fail) fun C k hC hk => ?_; simp [hx, hw, h4])
  | (refine zd2 rfl ?_; simp [hx, hw, h4])
  | (refine zgS rfl ?_; simp [hx, hw, h4])
  | (refine CallV.f2 rfl (h2) (by first | simp [hx, hw, h4] <;> rfl | fail) ?_; simp [hx, hw, h4])
  | fail)
     refine LoopW.next ⟨i + 1, by omega⟩ (by simp; omega) ?_
     exact (Wk.zda (by simp [hn, htk] <;> grind))
    ·rw [if_neg h4] at htk hsz;simp at hsz
     repeat' (first
  | (refine Cnd.of (fun hc => ?_) (fun hc => ?_) <;> (try (exfalso; omega)) <;> (try simp [hx, hw, h4, q0, q12, q13]))
  | (refine zaf rfl ?_; simp [hx, hw, h4, q0, q12, q13])
  | (refine And.intro (by omega) ?_)
  | (refine ⟨hC _ (by kernel_rfl), hk _ (zeI 8 _ _ _ ?_)⟩; clear hC hk C k; simp [hx, hw, h4, q0, q12, q13])
  | (refine zeH rfl (by kernel_rfl) (by first | (simp [hn]; done) | (simp [hn]; omega) | fail) fun C k hC hk => ?_; simp [hx, hw, h4, q0, q12, q13])
  | (refine zd2 rfl ?_; simp [hx, hw, h4, q0, q12, q13])
  | (refine zgS rfl ?_; simp [hx, hw, h4, q0, q12, q13])
  | (refine CallV.f2 rfl (h2) (by first | simp [hx, hw, h4, q0, q12, q13] <;> rfl | fail) ?_; simp [hx, hw, h4, q0, q12, q13])
  | fail)
     refine LoopW.next ⟨i + 1, by omega⟩ (by simp; omega) ?_
     exact (Wk.zda (by simp [hn, htk] <;> grind))
theorem zo5 (T : W8) (b : Bool) (i nx : Nat) (hi : i < nx) : RetX Tryz.prog 152 [.ptr i 0] [(i, zkz T b)] nx (fun r o n => r = .val (.u (.int .i64 0)) /\ o = [(i, zkz [] true)] /\ n = nx) := by
 have hne := nef hi;refine RetX.runW Tryz.func152 Tryz.ntmps152 rfl (by simp) fun Γ hn hpan => ?_
 repeat' (first
  | (refine zaf rfl ?_; simp [hne])
  | fail)
 (refine EndW.z ([(i, zkz [] true)]) (N := nx) Tryz.results152 (by simp [hne, hi] <;> omega) ?_; simp [hne, hi])
theorem znG (T : W8) (hT : T.length <= 1000000) (i nx : Nat) (hi : i < nx) : RetX Tryz.prog 125 [.ptr i 0, .u (.int .u8 59)] [(i, zkz T false)] nx (fun r o n => r = .val (.u (.int .i64 (zoE T))) /\ o = [(i, zkz (zeAA T).1 (zeAA T).2)] /\ n = nx) := by
 have hne := nef hi;have hfail := fun nx' (h : nx <= nx') => zo5 T false i nx' (by omega);refine RetX.runW Tryz.func125 Tryz.ntmps125 rfl (by simp) fun Γ hn hpan => ?_
 repeat' (first
  | (refine zaf rfl ?_; simp [hne])
  | fail)
 refine zb8 (α := { n : Nat // n <= T.length /\ n <= 21 /\ ∀ j, j < n -> T[j]? ≠ some 59 }) [0, 1] (fun n => [(5, .u (.int .i64 n.1))]) (fun n => [(i, zkz T false)]) nx (fun n => T.length - n.1) ⟨0, by omega, by omega, by omega⟩ ?_ ?_
 ·exact (Wk.zda (by simp [hn, hi, hne] <;> grind))
 rintro ⟨n, hn1, hn2, hb⟩;simp;by_cases hstop : n = T.length \/ n = 21 \/ T[n]? = some 59
 case neg =>
  rcases hx : T[n]? with _ | c
  ·exfalso;have : T.length <= n := by simpa using hx
   omega
  have hlt : n < T.length := (List.getElem?_eq_some_iff.1 hx).1;have hc59 : ¬ (c.toNat : Int) = 59 := fun e => hstop (.inr (.inr (by rw [hx]; exact congrArg some (UInt8.toNat_inj.1 (by simp; omega)))));have h21 : (n : Int) < 21 := by omega
  repeat' (first
  | (refine Cnd.of (fun hc => ?_) (fun hc => ?_) <;> (try (exfalso; omega)) <;> (try simp [hne, hx, hc59, h21]))
  | (refine zaf rfl ?_; simp [hne, hx, hc59, h21])
  | (refine And.intro (by omega) ?_)
  | fail)
  refine LoopW.next ⟨n + 1, by omega, by omega, fun j hj => ?_⟩ (by simp; omega) ?_
  ·rcases Nat.lt_succ_iff_lt_or_eq.1 hj with h1 | h1
   ·exact hb j h1
   ·rw [h1]; exact fun e => hstop (.inr (.inr e))
  exact (Wk.zda (by simp [hn, hi, hne] <;> grind))
 have hsem := zst hb hn1 hn2 hstop;by_cases hl : n = T.length
 ·have hv : zoE T = 0 := by unfold zoE; rw [if_neg (by omega)]
  have hr : zeAA T = ([], true) := by unfold zeAA; rw [if_neg (by omega)]
  rw [hv, hr];subst hl
  repeat' (first
  | (refine zaf rfl ?_; simp [hne])
  | (refine CallP.okL (hfail _ (by first | omega | (simp; done) | (simp; omega) | fail)) (by first | (simp [hne, zaa, getK, zab, zac, zad, zai, del]; done) | fail) (by rfl) (by first | assumption | (simp; done) | fail) (by rfl) (by simp) ?_; (try simp [hne, zcx, del]))
  | fail)
  (refine EndW.z ([(i, zkz [] true)]) (N := nx) Tryz.results125 (by simp [hne, hi] <;> omega) ?_; simp [hne, hi])
 obtain ⟨c, hx⟩ : ∃ c, T[n]? = some c := ⟨_, List.getElem?_eq_getElem (by omega)⟩;have hlt : n < T.length := (List.getElem?_eq_some_iff.1 hx).1;by_cases hc : c = 59
 case neg =>
  have h21 : n = 21 := by
   rcases hstop with h1 | h1 | h1
   ·exact absurd h1 hl
   ·exact h1
   ·rw [hx] at h1; exact absurd (Option.some.inj h1) hc
  have hc59 : ¬ (c.toNat : Int) = 59 := fun e => hc (UInt8.toNat_inj.1 (by simp; omega));have hv : zoE T = 0 := by unfold zoE; rw [if_neg (by rw [hsem, hx]; rintro ⟨_, h2, _⟩; exact hc (Option.some.inj h2))]
  have hr : zeAA T = ([], true) := by unfold zeAA; rw [if_neg (by rw [hsem, hx]; rintro ⟨_, h2, _⟩; exact hc (Option.some.inj h2))]
  rw [hv, hr];subst h21
  repeat' (first
  | (refine Cnd.of (fun hc => ?_) (fun hc => ?_) <;> (try (exfalso; omega)) <;> (try simp [hne, hx, hc59]))
  | (refine zaf rfl ?_; simp [hne, hx, hc59])
  | (refine CallP.okL (hfail _ (by first | omega | (simp; done) | (simp; omega) | fail)) (by first | (simp [hne, hx, hc59, zaa, getK, zab, zac, zad, zai, del]; done) | fail) (by rfl) (by first | assumption | (simp; done) | fail) (by rfl) (by simp) ?_; (try simp [hne, hx, hc59, zcx, del]))
  | fail)
  (refine EndW.z ([(i, zkz [] true)]) (N := nx) Tryz.results125 (by simp [hne, hi] <;> omega) ?_; simp [hne, hi])
 subst hc;have hbk := zr6 (T.take n) (by simp; omega);have hv : zoE T = if (zfJ (T.take n)).2 = true then (zfJ (T.take n)).1 else 0 := by
  unfold zoE; rw [hsem]; simp [hlt, (List.getElem?_eq_some_iff.1 hx).2]
 have hr : zeAA T = if (zfJ (T.take n)).2 = true then (T.drop (n + 1), false) else ([], true) := by
  unfold zeAA; rw [hsem]; simp [hlt, (List.getElem?_eq_some_iff.1 hx).2]
 have hle : n <= T.length := by omega
 have hle1 : n + 1 <= T.length := by omega
 rw [hv, hr];generalize zfJ (T.take n) = bv at *;obtain ⟨v, ok⟩ := bv;by_cases h21 : n = 21
 ·subst h21;cases ok
  ·repeat' (first
  | (refine Cnd.of (fun hc => ?_) (fun hc => ?_) <;> (try (exfalso; omega)) <;> (try simp [hne, hx, hle]))
  | (refine zaf rfl ?_; simp [hne, hx, hle])
  | (refine And.intro (by omega) ?_)
  | (refine CallP.f2 rfl (hbk) (by first | simp [hne, hx, hle] <;> rfl | fail) ?_; simp [hne, hx, hle])
  | (refine CallP.okL (hfail _ (by first | omega | (simp; done) | (simp; omega) | fail)) (by first | (simp [hne, hx, hle, zaa, getK, zab, zac, zad, zai, del]; done) | fail) (by rfl) (by first | assumption | (simp; done) | fail) (by rfl) (by simp) ?_; (try simp [hne, hx, hle, zcx, del]))
  | fail)
   (refine EndW.z ([(i, zkz [] true)]) (N := nx) Tryz.results125 (by simp [hne, hi] <;> omega) ?_; simp [hne, hi])
  ·repeat' (first
  | (refine Cnd.of (fun hc => ?_) (fun hc => ?_) <;> (try (exfalso; omega)) <;> (try simp [hne, hx, hle, hle1]))
  | (refine zaf rfl ?_; simp [hne, hx, hle, hle1])
  | (refine And.intro (by omega) ?_)
  | (refine CallP.f2 rfl (hbk) (by first | simp [hne, hx, hle, hle1] <;> rfl | fail) ?_; simp [hne, hx, hle, hle1])
  | fail)
   (refine EndW.z ([(i, zkz (T.drop 22) false)]) (N := nx) Tryz.results125 (by simp [hne, hi] <;> omega) ?_; simp [hne, hi])
 ·have h21' : (n : Int) < 21 := by omega
  cases ok
  ·repeat' (first
  | (refine Cnd.of (fun hc => ?_) (fun hc => ?_) <;> (try (exfalso; omega)) <;> (try simp [hne, hx, hle, h21']))
  | (refine zaf rfl ?_; simp [hne, hx, hle, h21'])
  | (refine CallP.f2 rfl (hbk) (by first | simp [hne, hx, hle, h21'] <;> rfl | fail) ?_; simp [hne, hx, hle, h21'])
  | (refine CallP.okL (hfail _ (by first | omega | (simp; done) | (simp; omega) | fail)) (by first | (simp [hne, hx, hle, h21', zaa, getK, zab, zac, zad, zai, del]; done) | fail) (by rfl) (by first | assumption | (simp; done) | fail) (by rfl) (by simp) ?_; (try simp [hne, hx, hle, h21', zcx, del]))
  | fail)
   (refine EndW.z ([(i, zkz [] true)]) (N := nx) Tryz.results125 (by simp [hne, hi] <;> omega) ?_; simp [hne, hi])
  ·repeat' (first
  | (refine Cnd.of (fun hc => ?_) (fun hc => ?_) <;> (try (exfalso; omega)) <;> (try simp [hne, hx, hle, hle1, h21']))
  | (refine zaf rfl ?_; simp [hne, hx, hle, hle1, h21'])
  | (refine And.intro (by omega) ?_)
  | (refine CallP.f2 rfl (hbk) (by first | simp [hne, hx, hle, hle1, h21'] <;> rfl | fail) ?_; simp [hne, hx, hle, hle1, h21'])
  | fail)
   (refine EndW.z ([(i, zkz (T.drop (n + 1)) false)]) (N := nx) Tryz.results125 (by simp [hne, hi] <;> omega) ?_; simp [hne, hi])
theorem zo7 (T : W8) (hT : T.length <= 1000000) (i nx : Nat) (hi : i < nx) : RetX Tryz.prog 81 [.ptr i 0] [(i, zkz T false)] nx (fun r o n => r = .val (.u (.int .i64 (zoE T))) /\ o = [(i, zkz (zeAA T).1 (zeAA T).2)] /\ n = nx) := by
 have hne := nef hi;have h1 := fun nx' (h : nx <= nx') => znG T hT i nx' (by omega);refine RetX.runW Tryz.func81 Tryz.ntmps81 rfl (by simp) fun Γ hn hpan => ?_
 repeat' (first
  | (refine zaf rfl ?_; simp [hne])
  | (refine CallP.okL (h1 _ (by first | omega | (simp; done) | (simp; omega) | fail)) (by first | (simp [hne, zaa, getK, zab, zac, zad, zai, del]; done) | fail) (by rfl) (by first | assumption | (simp; done) | fail) (by rfl) (by simp) ?_; (try simp [hne, zcx, del]))
  | fail)
 (refine EndW.z ([(i, zkz (zeAA T).1 (zeAA T).2)]) (N := nx) Tryz.results81 (by simp [hne, hi] <;> omega) ?_; simp [hne, hi])
theorem zq5 (T : W8) (nx : Nat) : RetX Tryz.prog 80 [.u (.str T)] [] nx (fun r o n => r = .val (.ptr nx 0) /\ o = [(nx, zkz T false)] /\ n = nx + 1) := by
 refine RetX.runW Tryz.func80 Tryz.ntmps80 rfl (by simp) fun Γ hn hpan => ?_
 repeat' (first
  | (refine zaf rfl ?_; simp)
  | fail)
 (refine EndW.z ([(nx, zkz T false)]) (N := (nx + 1)) Tryz.results80 (by simp <;> omega) ?_; simp)
theorem zpO (t : W8) (ht : t.length <= 900000) : Fun Tryz.prog 46 [.u (.str t)] (· = .u (.agg [.int .i64 (zef t).op, .int .i64 (zef t).a, .str (zef t).s])) := by
 skip
 have hwd := ziz;have hwl : wordsL.length = 15 := rfl;have hwl2 : ∀ i u, wordsL[i]? = some u -> i < 15 := fun i u h => (List.getElem?_eq_some_iff.1 h).1;obtain ⟨m, hm, hmn, hms, hrp⟩ : ∃ m, m <= t.length /\ (∀ j, j < m -> t[j]? ≠ some 32) /\ (m = t.length \/ t[m]? = some 32) /\
   zef t = if m = t.length then ⟨zeu (t.take m) 15, 0, []⟩ else if zeu (t.take m) 15 = 1 then ⟨1, 0, t.drop (m + 1)⟩ else ⟨zeu (t.take m) 15, zoE (t.drop (m + 1) ++ [59]), []⟩ := by
  cases hcb : zfV 32 t with
  | none =>
   have hno := znb hcb;refine ⟨t.length, Nat.le_refl _, fun j hj e => hno (List.mem_of_getElem? e), .inl rfl, ?_⟩;rw [if_pos rfl, List.take_length];unfold zef;rw [hcb]
  | some pq =>
   obtain ⟨p, q⟩ := pq;obtain ⟨h1, h2⟩ := zgh hcb;refine ⟨p.length, by rw [h1]; simp, fun j hj e => ?_, .inr (by rw [h1]; simp), ?_⟩
   ·rw [h1, List.getElem?_append_left hj] at e;exact h2 (List.mem_of_getElem? e)
   ·have e1 : t.take p.length = p := by rw [h1]; simp
    have e2 : t.drop (p.length + 1) = q := by rw [h1]; simp
    rw [if_neg (by rw [h1]; simp), e1, e2];unfold zef;rw [hcb]
 rw [hrp];clear hrp;refine Fun.runW Tryz.func46 Tryz.ntmps46 rfl (by simp) fun Γ hn => ?_
 repeat' (first
  | (refine zaf rfl ?_; simp)
  | fail)
 refine zb8 (α := { k : Nat // k <= m }) [0, 2] (fun k => [(3, .u (.int .i64 k.1))]) (fun k => [(0, .box [.u (.int .i64 0), .u (.int .i64 0), .u (.str [])])]) 1 (fun k => m - k.1) ⟨0, by omega⟩ ?_ ?_
 ·exact (Wk.zda (by simp [hn] <;> grind))
 rintro ⟨j, hj⟩;simp;by_cases hjm : j < m
 ·have hlt : j < t.length := by omega
  obtain ⟨c, hx⟩ : ∃ c, t[j]? = some c := ⟨_, List.getElem?_eq_getElem hlt⟩;have hc32 : ¬ (c.toNat : Int) = 32 := fun e => hmn j hjm (by rw [hx]; exact congrArg some (UInt8.toNat_inj.1 (by simp; omega)))
  repeat' (first
  | (refine Cnd.of (fun hc => ?_) (fun hc => ?_) <;> (try (exfalso; omega)) <;> (try simp [hx, hc32]))
  | (refine zaf rfl ?_; simp [hx, hc32])
  | (refine And.intro (by omega) ?_)
  | fail)
  refine LoopW.next ⟨j + 1, by omega⟩ (by simp; omega) ?_
  exact (Wk.zda (by simp [hn] <;> grind))
 obtain rfl : j = m := by omega
 have hstop : (t[j]? = none /\ j = t.length) \/ t[j]? = some 32 := by
  rcases hms with h1 | h1
  ·exact .inl ⟨by simp [h1], h1⟩
  ·exact .inr h1
 rcases hstop with ⟨hx, hjl⟩ | hx
 ·repeat' (first
  | (refine Cnd.of (fun hc => ?_) (fun hc => ?_) <;> (try (exfalso; omega)) <;> (try simp [hx]))
  | (refine zaf rfl ?_; simp [hx])
  | (refine CallP.f2 rfl (hwd) (by first | simp [hx] <;> rfl | fail) ?_; simp [hx])
  | fail)
  refine zb8 (α := { i : Nat // i <= 15 }) [0, 2, 3, 4, 5] (fun i => [(6, .u (.int .i64 i.1))]) (fun i => [(0, .box [.u (.int .i64 0), .u (.int .i64 0), .u (.str [])]), (1, .box [.u (.int .i64 (zeu (t.take j) i.1)), .u (.int .i64 0), .u (.str [])])]) 2 (fun i => 15 - i.1) ⟨0, by omega⟩ ?_ ?_
  ·exact (Wk.zda (by simp [hn, zeu] <;> grind))
  rintro ⟨i, hi⟩;simp;rcases hw : wordsL[i]? with _ | u
  case some =>
   have hi2 := hwl2 i u hw;have hi3 : (i : Int) < 15 := by omega
   have hls : zeu (t.take j) (i + 1) = if u = t.take j then (i : Int) else zeu (t.take j) i := by
    rw [zeu, hw]; simp
   by_cases hu : u = t.take j
   ·rw [if_pos hu] at hls
    repeat' (first
  | (refine zaf rfl ?_; simp [hw, hwl, hi3, hu, hj])
  | (refine And.intro (by omega) ?_)
  | (refine ⟨hC _ (by kernel_rfl), hk _ (zeI 8 _ _ _ ?_)⟩; clear hC hk C k; simp [hw, hwl, hi3, hu, hj])
  | (refine zeH rfl (by kernel_rfl) (by first | (simp [hn]; done) | (simp [hn]; omega) | fail) fun C k hC hk => ?_; simp [hw, hwl, hi3, hu, hj])
  | fail)
    refine LoopW.next ⟨i + 1, by omega⟩ (by simp; omega) ?_
    exact (Wk.zda (by simp [hn, hls] <;> grind))
   ·rw [if_neg hu] at hls
    repeat' (first
  | (refine zaf rfl ?_; simp [hw, hwl, hi3, hu, hj])
  | (refine And.intro (by omega) ?_)
  | (refine ⟨hC _ (by kernel_rfl), hk _ (zeI 8 _ _ _ ?_)⟩; clear hC hk C k; simp [hw, hwl, hi3, hu, hj])
  | (refine zeH rfl (by kernel_rfl) (by first | (simp [hn]; done) | (simp [hn]; omega) | fail) fun C k hC hk => ?_; simp [hw, hwl, hi3, hu, hj])
  | fail)
    refine LoopW.next ⟨i + 1, by omega⟩ (by simp; omega) ?_
    exact (Wk.zda (by simp [hn, hls] <;> grind))
  have hge : 15 <= i := by have := List.getElem?_eq_none_iff.1 hw; omega
  obtain rfl : i = 15 := by omega
  rw [if_pos hjl]
  repeat' (first
  | (refine zaf rfl ?_; simp [hw, hwl, hjl])
  | fail)
  refine EndW.norm (EndW.here ?_)
  (refine EndOK.val (.inr rfl) ?_; simp [Tryz.results46])
 ·have hlt : j < t.length := (List.getElem?_eq_some_iff.1 hx).1;have hjl : ¬ j = t.length := by omega
  repeat' (first
  | (refine Cnd.of (fun hc => ?_) (fun hc => ?_) <;> (try (exfalso; omega)) <;> (try simp [hx]))
  | (refine zaf rfl ?_; simp [hx])
  | (refine CallP.f2 rfl (hwd) (by first | simp [hx] <;> rfl | fail) ?_; simp [hx])
  | fail)
  refine zb8 (α := { i : Nat // i <= 15 }) [0, 2, 3, 4, 5] (fun i => [(6, .u (.int .i64 i.1))]) (fun i => [(0, .box [.u (.int .i64 0), .u (.int .i64 0), .u (.str [])]), (1, .box [.u (.int .i64 (zeu (t.take j) i.1)), .u (.int .i64 0), .u (.str [])])]) 2 (fun i => 15 - i.1) ⟨0, by omega⟩ ?_ ?_
  ·exact (Wk.zda (by simp [hn, zeu] <;> grind))
  rintro ⟨i, hi⟩;simp;rcases hw : wordsL[i]? with _ | u
  case some =>
   have hi2 := hwl2 i u hw;have hi3 : (i : Int) < 15 := by omega
   have hls : zeu (t.take j) (i + 1) = if u = t.take j then (i : Int) else zeu (t.take j) i := by
    rw [zeu, hw]; simp
   by_cases hu : u = t.take j
   ·rw [if_pos hu] at hls
    repeat' (first
  | (refine zaf rfl ?_; simp [hw, hwl, hi3, hu, hj])
  | (refine And.intro (by omega) ?_)
  | (refine ⟨hC _ (by kernel_rfl), hk _ (zeI 8 _ _ _ ?_)⟩; clear hC hk C k; simp [hw, hwl, hi3, hu, hj])
  | (refine zeH rfl (by kernel_rfl) (by first | (simp [hn]; done) | (simp [hn]; omega) | fail) fun C k hC hk => ?_; simp [hw, hwl, hi3, hu, hj])
  | fail)
    refine LoopW.next ⟨i + 1, by omega⟩ (by simp; omega) ?_
    exact (Wk.zda (by simp [hn, hls] <;> grind))
   ·rw [if_neg hu] at hls
    repeat' (first
  | (refine zaf rfl ?_; simp [hw, hwl, hi3, hu, hj])
  | (refine And.intro (by omega) ?_)
  | (refine ⟨hC _ (by kernel_rfl), hk _ (zeI 8 _ _ _ ?_)⟩; clear hC hk C k; simp [hw, hwl, hi3, hu, hj])
  | (refine zeH rfl (by kernel_rfl) (by first | (simp [hn]; done) | (simp [hn]; omega) | fail) fun C k hC hk => ?_; simp [hw, hwl, hi3, hu, hj])
  | fail)
    refine LoopW.next ⟨i + 1, by omega⟩ (by simp; omega) ?_
    exact (Wk.zda (by simp [hn, hls] <;> grind))
  have hge : 15 <= i := by have := List.getElem?_eq_none_iff.1 hw; omega
  obtain rfl : i = 15 := by omega
  rw [if_neg hjl];have hle : j + 1 <= t.length := by omega
  have hto : ((j : Int) + 1).toNat = j + 1 := by omega
  by_cases h1 : zeu (t.take j) 15 = 1
  ·rw [if_pos h1]
   repeat' (first
  | (refine Cnd.of (fun hc => ?_) (fun hc => ?_) <;> (try (exfalso; omega)) <;> (try simp [hw, hwl, hjl, h1, hle, hto]))
  | (refine zaf rfl ?_; simp [hw, hwl, hjl, h1, hle, hto])
  | (refine And.intro (by omega) ?_)
  | fail)
   refine EndW.norm (EndW.here ?_)
   (refine EndOK.val (.inr rfl) ?_; simp [Tryz.results46, h1])
  ·rw [if_neg h1];have hT : (t.drop (j + 1) ++ [59]).length <= 1000000 := by simp; omega
   have ho := zq5 (t.drop (j + 1) ++ [59]) 2;have hr := zo7 (t.drop (j + 1) ++ [59]) hT 2 3 (by omega);have hdl : (t.drop (j + 1)).length <= 900000 := by simp; omega
   generalize zeu (t.take j) 15 = q at *
   repeat' (first
  | (refine Cnd.of (fun hc => ?_) (fun hc => ?_) <;> (try (exfalso; omega)) <;> (try simp [hw, hwl, hjl, h1, hle, hto]))
  | (refine zaf rfl ?_; simp [hw, hwl, hjl, h1, hle, hto])
  | (refine And.intro (by omega) ?_)
  | (refine CallP.okL (ho) (by first | (simp [hw, hwl, hjl, h1, hle, hto, zaa, getK, zab, zac, zad, zai, del]; done) | fail) (by rfl) (by first | assumption | (simp; done) | fail) (by rfl) (by simp) ?_; (try simp [hw, hwl, hjl, h1, hle, hto, zcx, del]))
  | (refine CallP.okL (hr) (by first | (simp [hw, hwl, hjl, h1, hle, hto, zaa, getK, zab, zac, zad, zai, del]; done) | fail) (by rfl) (by first | assumption | (simp; done) | fail) (by rfl) (by simp) ?_; (try simp [hw, hwl, hjl, h1, hle, hto, zcx, del]))
  | fail)
   refine EndW.norm (EndW.here ?_)
   (refine EndOK.val (.inr rfl) ?_; simp [Tryz.results46, h1])
theorem zo4 (s : W8) (hs : s.length <= 900000) : Fun Tryz.prog 15 [.u (.str s)] (· = .tup [.u (Vm.inss (ze7 s).1), .u (.int .i64 (ze7 s).2)]) := by
 generalize hR : ze7 s = R;rw [zqZ] at hR;simp only [Vm.inss];refine Fun.runW Tryz.func15 Tryz.ntmps15 rfl (by simp) fun Γ hn => ?_
 repeat' (first
  | (refine zaf rfl ?_; simp)
  | fail)
 refine zlG _ (Wk.own 4 44 3 (by decide) rfl) ?_;simp [St.own];refine zb8 (α := { x : Nat × Nat × Code // x.2.1 <= x.1 /\ x.1 <= s.length /\ x.2.2.length <= x.1 /\ zen s = x.2.2 ++ (zoD ((s.take x.1).drop x.2.1) (s.drop x.1)).map zef }) [0] (fun x => [(4, .vec 0 x.1.2.2.length), (5, .u (.int .i64 x.1.2.1)), (6, .u (.int .i64 x.1.1))])
  (fun x => [(0, .vec 44 3 (zb9 x.1.2.2))]) 1 (fun x => s.length - x.1.1) ⟨(0, 0, []), by simp, by simp, by simp, by simp [zen]⟩ ?_ ?_
 ·exact (Wk.zda (by simp [hn, zb9] <;> grind))
 rintro ⟨⟨i, f, L⟩, hfi, hi, hLi, hseg⟩;simp only at hfi hi hLi hseg;simp;have e1 := zbL L;have e2 := zfg L;have e3 := zdQ L;have e4 := zcU L;rcases hx : s[i]? with _ | c
 ·have hge : s.length <= i := by simpa using hx
  obtain rfl : i = s.length := by omega
  have hL : zen s = L := by
   rw [hseg, List.drop_length, zoD, List.map_nil, List.append_nil]
  have h1 := zkp L (by omega);rw [hL] at hR;simp only [Vm.inss] at h1;by_cases hs0 : s = []
  ·rw [if_pos (.inl hs0)] at hR;subst hR
   repeat' (first
  | (refine zaf rfl ?_; simp [hx, hs0])
  | fail)
   refine EndW.norm (EndW.here ?_)
   (refine EndOK.val (.inr rfl) ?_; simp [Tryz.results15])
  ·generalize zdH L = B at *;by_cases hB : B = s
   ·rw [if_neg (by simp [hs0, hB])] at hR;subst hR
    repeat' (first
  | (refine zaf rfl ?_; simp [hx, hs0, hB, e1, e2, e3])
  | (refine CallP.f2 rfl (h1) (by first | simp [hx, hs0, hB, e1, e2, e3] <;> rfl | fail) ?_; simp [hx, hs0, hB, e1, e2, e3])
  | fail)
    (refine EndW.frzN 1 ?_; simp [del, e1, e2, e3])
    refine EndW.norm (EndW.here ?_)
    (refine EndOK.val (.inr rfl) ?_; simp [Tryz.results15, e1, e2, e3])
   ·rw [if_pos (.inr hB)] at hR;subst hR
    repeat' (first
  | (refine zaf rfl ?_; simp [hx, hs0, hB, e1, e2, e3])
  | (refine CallP.f2 rfl (h1) (by first | simp [hx, hs0, hB, e1, e2, e3] <;> rfl | fail) ?_; simp [hx, hs0, hB, e1, e2, e3])
  | fail)
    refine EndW.norm (EndW.here ?_)
    (refine EndOK.val (.inr rfl) ?_; simp [Tryz.results15, e1, e2, e3])
 ·have hlt : i < s.length := (List.getElem?_eq_some_iff.1 hx).1;have hdr : s.drop i = c :: s.drop (i + 1) := by rw [List.drop_eq_getElem_cons hlt, (List.getElem?_eq_some_iff.1 hx).2]
  rw [hdr, zoD] at hseg;by_cases hc : c = 10
  ·have hc2 : (c.toNat : Int) = 10 := by rw [hc]; rfl
   have hin := zpO ((s.take i).drop f) (by simp; omega);rw [if_pos hc] at hseg;have hnx : zen s = (L ++ [zef ((s.take i).drop f)]) ++ (zoD ((s.take (i + 1)).drop (i + 1)) (s.drop (i + 1))).map zef := by
    rw [hseg, show (s.take (i + 1)).drop (i + 1) = [] by simp]; simp
   have hap : zb9 (L ++ [zef ((s.take i).drop f)]) = zb9 L ++ [[.u (.int .i64 (zef ((s.take i).drop f)).op), .u (.int .i64 (zef ((s.take i).drop f)).a), .u (.str (zef ((s.take i).drop f)).s)]] := by simp [zb9]
   have hpu := zaP (L ++ [zef ((s.take i).drop f)]);have hle : i <= s.length := by omega
   generalize zef ((s.take i).drop f) = x at *;rw [hap] at hpu
   repeat' (first
  | (refine Cnd.of (fun hc => ?_) (fun hc => ?_) <;> (try (exfalso; omega)) <;> (try simp [hx, hc2, e3, e4, hle, hfi]))
  | (refine zaf rfl ?_; simp [hx, hc2, e3, e4, hle, hfi])
  | (refine And.intro (by omega) ?_)
  | (refine CallP.f2 rfl (hin) (by first | simp [hx, hc2, e3, e4, hle, hfi] <;> rfl | fail) ?_; simp [hx, hc2, e3, e4, hle, hfi])
  | fail)
   refine LoopW.next ⟨(i + 1, i + 1, L ++ [x]), by simp, by simp; omega, by simp; omega, hnx⟩ (by simp; omega) ?_
   exact (Wk.ren ((fun i => if i = 0 then 2 else i)) rfl (by first | (simp [hn]; done) | (intro i hi; rw [hn] at hi; constructor <;> (try simp) <;> (try (intro _)) <;> omega)) (by simp [zee, St.lp, zaA, zaa, getK, zac, zad, D.under, D.le, D.ren, hap, hpu] <;> (try (intros; simp_all; done)) <;> (try omega)) (by simp [wkR, St.lp, zaa, getK, zac, zad, obR, leU, zaN, zan, Ob.under, D.under, D.le, D.ren, hap, hpu] <;> (try (intros; simp_all; done)) <;> (try omega)) (by simp [hap, hpu]))
  ·have hc2 : ¬ (c.toNat : Int) = 10 := fun e => hc (UInt8.toNat_inj.1 (by simp; omega));rw [if_neg hc] at hseg;have hnx : zen s = L ++ (zoD ((s.take (i + 1)).drop f) (s.drop (i + 1))).map zef := by rw [hseg, zgd hx hfi]
   repeat' (first
  | (refine Cnd.of (fun hc => ?_) (fun hc => ?_) <;> (try (exfalso; omega)) <;> (try simp [hx, hc2, e3, e4]))
  | (refine zaf rfl ?_; simp [hx, hc2, e3, e4])
  | (refine And.intro (by omega) ?_)
  | fail)
   refine LoopW.next ⟨(i + 1, f, L), by simp; omega, by simp; omega, by simp; omega, hnx⟩ (by simp; omega) ?_
   exact (Wk.zda (by simp [hn, zaP] <;> grind))
theorem ztE (l : Let) : Fun Tryz.prog 33 (zuk l :: [].map .u) (· = .u (.bool (!zaL 12 l.body))) := by
 have h1 := zgU l.body;simp only [zuk, List.map_nil, zce] at h1 ⊢;refine Fun.run Tryz.func33 Tryz.ntmps33 Tryz.results33 rfl (by simp) fun Γ hn => ?_
 repeat' (first
  | (refine zaf rfl ?_; simp)
  | (refine CallP.f2 rfl (h1) (by first | simp <;> rfl | fail) ?_; simp)
  | fail)
 (refine Pst.of ?_; simp)
theorem zh7 (lets : List Let) (e : Exp) : Fun Tryz.prog 12 [.u (zaz lets), zce e] (· = .tup [.u (Vm.inss (zel lets e).1), .u (.int .i64 (zel lets e).2)]) := by
 have h1 := zgU e;have h2 := zjT lets 33 [] _ (fun x _ => ztE x) (by simp) (fun _ => rfl) (fun _ => rfl);simp only [List.map_nil, zaz, zce] at h1 h2;by_cases hra : zcm lets e = true
 case neg =>
  have hcp : zel lets e = ([], 1) := by unfold zel; rw [if_neg hra]
  rw [hcp];unfold zcm at hra;generalize zaL 12 e = x1 at *;generalize (lets.any fun l => !zaL 12 l.body) = x2 at *;simp only [zaz, zce, Vm.inss];refine Fun.runW Tryz.func12 Tryz.ntmps12 rfl (by simp) fun Γ hn => ?_
  repeat' (first
  | (refine Cnd.of (fun hc => ?_) (fun hc => ?_) <;> (try (exfalso; omega)) <;> (try simp))
  | (refine zaf rfl ?_; simp)
  | ((first | refine CallP.f2 rfl (h1) (by first | simp <;> rfl | fail) ?_ | refine CallP.f2 rfl (h2) (by first | simp <;> rfl | fail) ?_ | fail); simp)
  | fail)
  all_goals first
   | (refine EndW.norm (EndW.here ?_); (refine EndOK.val (.inr rfl) ?_; simp [Tryz.results12]); done)
   | (exfalso; apply hra; simp_all; done)
   | (exfalso; apply hra; simp_all; omega)
 obtain ⟨r1, r2, r3⟩ := zgx hra;have r4 : (lets.any fun l => !zaL 12 l.body) = false := by
  rw [List.any_eq_false];intro l hl;simp [r3 l hl]
 rw [r2] at h1;rw [r4] at h2;have r1' : ¬ (20 : Int) < lets.length := by omega
 have hL := zfp (lets := lets) (n := lets.length) (Nat.le_refl _);have a1 := zth r3 r1 1 lets.length (Nat.le_refl _) 12 (by omega) e r2 [] 3 4 (by omega) (by omega) (by omega) (by simp);have hcl : zel lets e = if 2000 <= (zg9 lets e).length then ([], 6) else (zg9 lets e ++ [⟨14, 0, []⟩], 0) := by unfold zel; rw [if_pos hra]
 rw [hcl];have hcc : zf9 (nmC lets (shF lets) lets.length) (shF lets lets.length) e [] = zg9 lets e := rfl;have hcap : (zg9 lets e).length <= 2001 := zf8 (zhN lets.length) e [] (by simp);rw [hcc] at a1;generalize zg9 lets e = L at *;have a2 := zry (zaz lets) (zaE (zdw lets lets.length)) L;have e1 := zbL L;have e2 := zfg L;have e3 := zdQ L;have a3 := zf4 lets (zdw lets lets.length) L ⟨14, 0, []⟩ 1 4 5 (by omega) (by omega) (by omega) (by omega);have htk : List.take lets.length ((zdw lets lets.length).map fun b => [U.bool b]) = (zdw lets lets.length).map fun b => [U.bool b] := by
  exact List.take_of_length_le (by simp [hL])
 have hpL : zcg L ⟨14, 0, []⟩ = if 2000 <= L.length then zcg L ⟨14, 0, []⟩ else L ++ [⟨14, 0, []⟩] := by
  split
  ·rfl
  ·unfold zcg; rw [if_pos (by omega)]
 by_cases hf : 2000 <= L.length
 ·rw [if_pos hf];have hf2 : (decide (2000 <= L.length)) = true := by simpa using hf
  rw [hf2] at a2;simp only [zaz, zce, Vm.inss, zaE] at a1 a2 ⊢;refine Fun.runW Tryz.func12 Tryz.ntmps12 rfl (by simp) fun Γ hn => ?_
  repeat' (first
  | (refine zaf rfl ?_; simp [r1'])
  | ((first | refine CallP.f2 rfl (h1) (by first | simp [r1'] <;> rfl | fail) ?_ | refine CallP.f2 rfl (h2) (by first | simp [r1'] <;> rfl | fail) ?_ | fail); simp [r1'])
  | fail)
  refine zlG _ (Wk.ownC 1 _ 1 4 1 (by decide) rfl rfl) ?_;simp [St.ownC];refine zlG _ (Wk.ownC 1 _ 2 44 3 (by decide) rfl rfl) ?_;simp [St.ownC];refine zb8 (α := { i : Nat // i <= lets.length }) [0, 3, 7, 26, 27] (fun i => [(28, .u (.int .i64 i.1))])
   (fun i => [(0, .box [.u (.int .i64 e.op), .u (.int .i64 e.n), .u (.int .i64 e.unit), .u (.str e.s), .u (.sl (e.args.map Exp.row))]), (1, .box [.u (.sl (lets.map fun l => [.str l.name, .int .i64 l.body.op, .int .i64 l.body.n, .int .i64 l.body.unit, .str l.body.s, .sl (l.body.args.map Exp.row)])), .vec 2 i.1, .vec 3 0]), (2, .vec 4 1 (zcf (zdw lets i.1))), (3, kOb [])]) 4 (fun i => lets.length - i.1) ⟨0, by omega⟩ ?_ ?_
  ·exact (Wk.zda (by simp [hn, zdw, zcf, kOb, zb9] <;> grind))
  rintro ⟨i, hi⟩;simp;by_cases hil : i < lets.length
  case pos =>
   have hx : lets[i]? = some lets[i] := List.getElem?_eq_getElem hil;have hsl := zfp (lets := lets) (n := i) (by omega);have h5 := zds lets (zdw lets i) (.sl []) i (by omega) (by omega) (by omega) 12 _ (r3 _ (List.mem_of_getElem? hx));have hsucc : zdw lets (i + 1) = zdw lets i ++ [zbY (nmS lets (zdw lets i) i) (lets[i]).body] := by
    rw [zdw, hx];simp only;rw [show nmS lets (zdw lets i) i = sF (mOf [] (lets.take i)) from funext fun s => zmL (by omega) (Nat.le_refl _) s]
   have hp := zhH (zdw lets (i + 1));have hss : zcf (zdw lets (i + 1)) = zcf (zdw lets (i + 1)) := rfl
   conv at hss => rhs; rw [hsucc]
   rw [hsucc] at hp;generalize zbY (nmS lets (zdw lets i) i) (lets[i]).body = b at *;generalize lets[i] = l at *;have hb1 := zeX (zdw lets i);have hb2 := zi2 (zdw lets i);rw [hsl] at hb2;have hb3 : (zcf (zdw lets i)).length = i := by simp [zcf, hsl]
   have hb4 := zi3 (zdw lets i);have hb5 : zcf (zdw lets i ++ [b]) = zcf (zdw lets i) ++ [[.u (.bool b)]] := by simp [zcf]
   rw [hb5] at hp hss;clear hsucc hb5;generalize zcf (zdw lets i) = R at *;simp only [zce, zaz, zaE] at h5
   repeat' (first
  | (refine Cnd.of (fun hc => ?_) (fun hc => ?_) <;> (try (exfalso; omega)) <;> (try simp [hx, hb1, hb2, hb3, hb4, kOb, zb9]))
  | (refine zaf rfl ?_; simp [hx, hb1, hb2, hb3, hb4, kOb, zb9])
  | (refine And.intro (by omega) ?_)
  | (refine ⟨hC _ (by kernel_rfl), hk _ (zeI 8 _ _ _ ?_)⟩; clear hC hk C k; simp [hx, hb1, hb2, hb3, hb4, kOb, zb9])
  | (refine zeH rfl (by kernel_rfl) (by first | (simp [hn]; done) | (simp [hn]; omega) | fail) fun C k hC hk => ?_; simp [hx, hb1, hb2, hb3, hb4, kOb, zb9])
  | (refine zd2 rfl ?_; simp [hx, hb1, hb2, hb3, hb4, kOb, zb9])
  | (refine zgS rfl ?_; simp [hx, hb1, hb2, hb3, hb4, kOb, zb9])
  | (refine CallV.f2 rfl (h5) (by first | simp [hx, hb1, hb2, hb3, hb4, kOb, zb9] <;> rfl | fail) ?_; simp [hx, hb1, hb2, hb3, hb4, kOb, zb9])
  | fail)
   refine LoopW.next ⟨i + 1, by omega⟩ (by simp; omega) ?_
   exact (Wk.ren ((fun j => if j = 2 then 6 else j)) rfl (by first | (simp [hn]; done) | (intro i hi; rw [hn] at hi; constructor <;> (try simp) <;> (try (intro _)) <;> omega)) (by simp [zee, St.lp, zaA, zaa, getK, zac, zad, D.under, D.le, D.ren, hss, hp, kOb, zb9] <;> (try (intros; simp_all; done)) <;> (try omega)) (by simp [wkR, St.lp, zaa, getK, zac, zad, obR, leU, zaN, zan, Ob.under, D.under, D.le, D.ren, hss, hp, kOb, zb9] <;> (try (intros; simp_all; done)) <;> (try omega)) (by simp [hss, hp, kOb, zb9]))
  obtain rfl : i = lets.length := by omega
  refine zlG _ (Wk.frz (e := 4) (sz := 1) 2 [1] (us := (zdw lets lets.length).map fun b => [U.bool b]) (by simp [zaa]) (zeX _)) ?_;simp [St.frz, St.frzS, frzS, fv, zbh, zaI, del, hL, htk]
  repeat' (first
  | (refine zaf rfl ?_; simp [kOb, cOb, zaz, zaE, e1, e2, e3])
  | (refine CallP.f2 rfl (a2) (by first | simp [kOb, cOb, zaz, zaE, e1, e2, e3] <;> rfl | fail) ?_; simp [kOb, cOb, zaz, zaE, e1, e2, e3])
  | (refine CallP.okL (a1) (by first | (simp [kOb, cOb, zaz, zaE, e1, e2, e3, zaa, getK, zab, zac, zad, zai, del]; done) | fail) (by rfl) (by first | assumption | (simp; done) | fail) (by rfl) (by simp) ?_; (try simp [kOb, cOb, zaz, zaE, e1, e2, e3, zcx, del]))
  | fail)
  refine EndW.norm (EndW.here ?_)
  (refine EndOK.val (.inr rfl) ?_; simp [Tryz.results12])
 ·rw [if_neg hf];have hf2 : (decide (2000 <= L.length)) = false := by simpa using hf
  rw [hf2] at a2;rw [hpL, if_neg hf] at a3;have g1 := zbL (L ++ [⟨14, 0, []⟩]);simp only [zaz, zce, Vm.inss, zaE] at a1 a2 a3 ⊢;refine Fun.runW Tryz.func12 Tryz.ntmps12 rfl (by simp) fun Γ hn => ?_
  repeat' (first
  | (refine zaf rfl ?_; simp [r1'])
  | ((first | refine CallP.f2 rfl (h1) (by first | simp [r1'] <;> rfl | fail) ?_ | refine CallP.f2 rfl (h2) (by first | simp [r1'] <;> rfl | fail) ?_ | fail); simp [r1'])
  | fail)
  refine zlG _ (Wk.ownC 1 _ 1 4 1 (by decide) rfl rfl) ?_;simp [St.ownC];refine zlG _ (Wk.ownC 1 _ 2 44 3 (by decide) rfl rfl) ?_;simp [St.ownC];refine zb8 (α := { i : Nat // i <= lets.length }) [0, 3, 7, 26, 27] (fun i => [(28, .u (.int .i64 i.1))])
   (fun i => [(0, .box [.u (.int .i64 e.op), .u (.int .i64 e.n), .u (.int .i64 e.unit), .u (.str e.s), .u (.sl (e.args.map Exp.row))]), (1, .box [.u (.sl (lets.map fun l => [.str l.name, .int .i64 l.body.op, .int .i64 l.body.n, .int .i64 l.body.unit, .str l.body.s, .sl (l.body.args.map Exp.row)])), .vec 2 i.1, .vec 3 0]), (2, .vec 4 1 (zcf (zdw lets i.1))), (3, kOb [])]) 4 (fun i => lets.length - i.1) ⟨0, by omega⟩ ?_ ?_
  ·exact (Wk.zda (by simp [hn, zdw, zcf, kOb, zb9] <;> grind))
  rintro ⟨i, hi⟩;simp;by_cases hil : i < lets.length
  case pos =>
   have hx : lets[i]? = some lets[i] := List.getElem?_eq_getElem hil;have hsl := zfp (lets := lets) (n := i) (by omega);have h5 := zds lets (zdw lets i) (.sl []) i (by omega) (by omega) (by omega) 12 _ (r3 _ (List.mem_of_getElem? hx));have hsucc : zdw lets (i + 1) = zdw lets i ++ [zbY (nmS lets (zdw lets i) i) (lets[i]).body] := by
    rw [zdw, hx];simp only;rw [show nmS lets (zdw lets i) i = sF (mOf [] (lets.take i)) from funext fun s => zmL (by omega) (Nat.le_refl _) s]
   have hp := zhH (zdw lets (i + 1));have hss : zcf (zdw lets (i + 1)) = zcf (zdw lets (i + 1)) := rfl
   conv at hss => rhs; rw [hsucc]
   rw [hsucc] at hp;generalize zbY (nmS lets (zdw lets i) i) (lets[i]).body = b at *;generalize lets[i] = l at *;have hb1 := zeX (zdw lets i);have hb2 := zi2 (zdw lets i);rw [hsl] at hb2;have hb3 : (zcf (zdw lets i)).length = i := by simp [zcf, hsl]
   have hb4 := zi3 (zdw lets i);have hb5 : zcf (zdw lets i ++ [b]) = zcf (zdw lets i) ++ [[.u (.bool b)]] := by simp [zcf]
   rw [hb5] at hp hss;clear hsucc hb5;generalize zcf (zdw lets i) = R at *;simp only [zce, zaz, zaE] at h5
   repeat' (first
  | (refine Cnd.of (fun hc => ?_) (fun hc => ?_) <;> (try (exfalso; omega)) <;> (try simp [hx, hb1, hb2, hb3, hb4, kOb, zb9]))
  | (refine zaf rfl ?_; simp [hx, hb1, hb2, hb3, hb4, kOb, zb9])
  | (refine And.intro (by omega) ?_)
  | (refine ⟨hC _ (by kernel_rfl), hk _ (zeI 8 _ _ _ ?_)⟩; clear hC hk C k; simp [hx, hb1, hb2, hb3, hb4, kOb, zb9])
  | (refine zeH rfl (by kernel_rfl) (by first | (simp [hn]; done) | (simp [hn]; omega) | fail) fun C k hC hk => ?_; simp [hx, hb1, hb2, hb3, hb4, kOb, zb9])
  | (refine zd2 rfl ?_; simp [hx, hb1, hb2, hb3, hb4, kOb, zb9])
  | (refine zgS rfl ?_; simp [hx, hb1, hb2, hb3, hb4, kOb, zb9])
  | (refine CallV.f2 rfl (h5) (by first | simp [hx, hb1, hb2, hb3, hb4, kOb, zb9] <;> rfl | fail) ?_; simp [hx, hb1, hb2, hb3, hb4, kOb, zb9])
  | fail)
   refine LoopW.next ⟨i + 1, by omega⟩ (by simp; omega) ?_
   exact (Wk.ren ((fun j => if j = 2 then 6 else j)) rfl (by first | (simp [hn]; done) | (intro i hi; rw [hn] at hi; constructor <;> (try simp) <;> (try (intro _)) <;> omega)) (by simp [zee, St.lp, zaA, zaa, getK, zac, zad, D.under, D.le, D.ren, hss, hp, kOb, zb9] <;> (try (intros; simp_all; done)) <;> (try omega)) (by simp [wkR, St.lp, zaa, getK, zac, zad, obR, leU, zaN, zan, Ob.under, D.under, D.le, D.ren, hss, hp, kOb, zb9] <;> (try (intros; simp_all; done)) <;> (try omega)) (by simp [hss, hp, kOb, zb9]))
  obtain rfl : i = lets.length := by omega
  refine zlG _ (Wk.frz (e := 4) (sz := 1) 2 [1] (us := (zdw lets lets.length).map fun b => [U.bool b]) (by simp [zaa]) (zeX _)) ?_;simp [St.frz, St.frzS, frzS, fv, zbh, zaI, del, hL, htk]
  repeat' (first
  | (refine zaf rfl ?_; simp [kOb, cOb, zaz, zaE, e1, e2, e3])
  | (refine CallP.f2 rfl (a2) (by first | simp [kOb, cOb, zaz, zaE, e1, e2, e3] <;> rfl | fail) ?_; simp [kOb, cOb, zaz, zaE, e1, e2, e3])
  | (refine CallP.okL (a1) (by first | (simp [kOb, cOb, zaz, zaE, e1, e2, e3, zaa, getK, zab, zac, zad, zai, del]; done) | fail) (by rfl) (by first | assumption | (simp; done) | fail) (by rfl) (by simp) ?_; (try simp [kOb, cOb, zaz, zaE, e1, e2, e3, zcx, del]))
  | (refine CallP.okL (a3) (by first | (simp [kOb, cOb, zaz, zaE, e1, e2, e3, zaa, getK, zab, zac, zad, zai, del]; done) | fail) (by rfl) (by first | assumption | (simp; done) | fail) (by rfl) (by simp) ?_; (try simp [kOb, cOb, zaz, zaE, e1, e2, e3, zcx, del]))
  | fail)
  refine EndW.wk _ (Wk.frz (e := 44) (sz := 3) 5 [1] (us := (L ++ [⟨14, 0, []⟩] : Code).map fun i => [U.int .i64 i.op, .int .i64 i.a, .str i.s]) (rows := zb9 (L ++ [⟨14, 0, []⟩])) (by simp [zaa, zb9]) g1) ?_;simp [St.frz, St.frzS, frzS, fv, zbh, zaI, del];refine EndW.norm (EndW.here ?_)
  (refine EndOK.val (.inr rfl) ?_; simp [Tryz.results12])
end Go.Proofs.YtkdhmbhbbciedaaGreatDoor
namespace Go.Proofs.YtkdhmbhbbciedaaGreatDoor
open Go Go.VL Go.Shelf Go.RowKit
attribute [local simp] HS zba zcP zb4 evPure opd uOf zat St.put St.at getK binD binI binS binB nilD aggD ze5 zfC lookD lookR zbZ rangeS Go.VL.nextD Go.VL.nextS zb1 zfI zfF ze0 zci mkV zbb zcX zaW za9 mapEff zdX zeK Key.kk shiftI arith unD convD zdg loadD cellsAt fieldAddrD fieldD indexAddrD indexSlD arrAddr indexD sliceD cutD lenD minmaxD nilCheckD buildD fillD zbu zcQ zek setAll zcI zed zbU ze3 zbR St.add zaq zbe rowsOf zcY zco zad zac zaa za5 zcH zaS entry za6 zbc valD zb7 zcG ze4 zcV zcW zbz zbv zag zaM za8 delAll effD St.effS zck zaJ zaw zcl zaK zay zbr zax zas zbs zch za7 zbq zaU zbp zai mkD zb3 zbg zbk zag zb6 D.ids Op.operands Call.operands zbj makeIfD makeFuncD typeAssertD zfB zc2 zc4 zfn zb0 IntKind.bits zb5 zam List.take_of_length_le List.range_succ zcA zbJ zcB zcu zbf zbA zbC zcv zbE za0 zbD zbB zgo zbI zcy zaQ zaB zcz zaR zaD zbH zaC zau zcE zcF zfZ zab frzN frz1 zaH zaG St.frz St.frzS frzS fv zbh zbx zbM zaI zar zal frz zbN za1 za2 zbt zbP zbQ zaV St.norm St.lp St.only zaA wkE wkO wkU Ob.under D.under zak zap zcC zbK zcD h4s zdt zao zaY List.zipIdx_cons List.zipIdx_nil List.map_cons List.map_nil Nat.zero_add
attribute [local irreducible] V G H HD HD2 HD4 zg5 RetX zaX Eff CallP CallV EndOK Fun Ret FinOK LoopI LoopW EndW HR vs2 RN Cnd H4
attribute [local simp] ztP zuJ zmt zuK zmu
theorem zq1 (s : W8) (hl : s.length <= 900000) : RetX Tryz.prog 14 [.u (.str s)] [] 0
  (fun r o n => match r with | .val d => zaY d = true /\ d = .tup [.u (Vm.inss (ze7 s).1), .u (.int .i64 (ze7 s).2)] | .pan _ => False) := by
 have htl := zqR s;have h1 := zqS s (by omega);have h2 := zki (zfN s) 10;have hca : zae Tryz.prog 41 = true := by kernel_rfl
 have hLl : (zd0 s).length = (zbS 10 (zfN s)).length := by simp [zd0]
 have hLn := ziF (c := 10) (zfN s);have hL : ∀ (i : Nat) (t : W8), (zbS 10 (zfN s))[i]? = some t -> (zd0 s)[i]? = some (zl7 t) /\ t.length <= 900000 := fun i t h => ⟨by simp [zd0, h], by
  have := ziG (c := 10) (zfN s) t (List.mem_of_getElem? h);omega⟩
 have h3 := zec (zd0 s) (by omega);have h4 := zjz (zd0 s) (by omega);have hrb : ze7 s = if zbO (zd0 s) = true /\ zdH (zd0 s) = s then (zd0 s, 0) else ([], 2) := by
  unfold ze7 zdH;by_cases hr : zbO (zd0 s) = true
  ·simp [hr]
  ·simp [hr]
 have hit := znt 10 (zfN s) (by omega);have e1 := zbL;have e3 := zdQ;rw [hrb];generalize zd0 s = L at *;refine RetX.zsi Tryz.func14 Tryz.ntmps14 rfl (by simp) fun Γ hn hdfr hpan hesc => ?_; simp only [entry, List.zipIdx_cons, List.zipIdx_nil, List.map_cons, List.map_nil, Nat.zero_add];rw [zoc]
 repeat' (first
  | (refine zgm rfl ?_; simp)
  | fail)
 refine ztH ?_
 repeat' (first
  | (refine zgm rfl ?_; simp [hca])
  | (refine CallP.f2 rfl (h1) (by first | simp [hca] <;> rfl | fail) ?_; simp [hca])
  | (refine CallP.zv4 (h2) (by rfl) (by first | assumption | simp) (by rfl) (by simp) ?_; rintro d o n' hn' ⟨rfl, rfl, rfl⟩; (try simp at hn'); (try simp [hca]))
  | fail)
 refine RangeOK.wk _ (Wk.ownC 0 _ 0 44 3 (by decide) rfl rfl) ?_;simp [St.ownC];refine RangeOK.of (zky L) (fun i => i + 5) hesc hdfr rfl (by kernel_rfl) hit ?_ ?_ rfl (by simp) (by simp) ?_ ?_
 ·intro i j ob h;simp only [ziv, zaa, getK] at h;simp only [zky, zaa, getK]
  grind
 ·intro i;simp only [ziv, zky, zaa, getK, List.cons_append, List.nil_append, zb9, List.take_zero, List.map_nil]
  grind
 ·intro i x hx Γ1 r hn hpan1;rw [List.getElem?_map] at hx;obtain ⟨t, ht, rfl⟩ := Option.map_eq_some_iff.1 hx;obtain ⟨hLi, htl2⟩ := hL i t ht;have htk : zb9 (L.take (i + 1)) = zb9 (L.take i) ++ [[.u (.int .i64 (zl7 t).op), .u (.int .i64 (zl7 t).a), .u (.str (zl7 t).s)]] := by
   rw [List.take_add_one, hLi];simp [zb9]
  have hil : (zb9 (L.take i)).length = i := by
   have := (List.getElem?_eq_some_iff.1 hLi).1;rw [zdQ, List.length_take];omega
  have hib : i <= 900000 := by
   have := (List.getElem?_eq_some_iff.1 ht).1;omega
  have hlr := zcU (L.take i);have hpu := zaP (L.take i);clear hrb h1 h2 h3 h4 hit hesc hpan;generalize hRO : zky L (i + 1) = RO;rw [zky, htk] at hRO;rw [show zky L i = [(0, .box [.vec (i + 4) i]), (i + 4, .vec 44 3 (zb9 (L.take i)))] from rfl];generalize zb9 (L.take i) = R at *;refine zsL hpan1 (by rfl) ?_;simp;intro Γ2 hn hpan2;have hcu := ztl t 32 (by omega);have hgw := ziV;have hpa : zsH Tryz.prog 76 = some 15 := by kernel_rfl
  have hwl : wordsL.length = 15 := rfl;obtain ⟨w, r, b, hcu2, hins, hrl⟩ := ztm t;rw [hcu2] at hcu;have hix := ziT wordsL w;have hat := zr7 r (by omega);simp only [zlJ] at hix;refine zsL hpan2 (by rfl) ?_;by_cases h1 : zjE wordsL w 0 = 1
  ·rw [if_pos h1] at hins;rw [hins] at hRO;rw [h1] at hix;clear hins hcu2 htk hL e1 e3;simp
   repeat' (first
  | (refine And.intro (by omega) ?_)
  | ((first | refine CallP.f2 rfl (hcu) (by first | simp [hgw, hpa, hwl, hil] <;> rfl | fail) ?_ | refine CallP.f2 rfl (hix) (by first | simp [hgw, hpa, hwl, hil] <;> rfl | fail) ?_ | fail); simp [hgw, hpa, hwl, hil])
  | fail)
   refine ⟨{ n := 49, env := [], obs := RO, next := i + 1 + 5 }, ?_, rfl, rfl⟩;rw [<- hRO];exact (Wk.ren ((fun x => if x = i + 5 then i + 5 + 1 + 1 else x)) rfl (by first | (simp [hn]; done) | (intro i hi; rw [hn] at hi; constructor <;> (try simp) <;> (try (intro _)) <;> omega)) (by simp [zee, St.lp, zaA, zaa, getK, zac, zad, D.under, D.le, D.ren, hpu, hil, hlr] <;> (try (intros; simp_all; done)) <;> (try omega)) (by simp [wkR, St.lp, zaa, getK, zac, zad, obR, leU, zaN, zan, Ob.under, D.under, D.le, D.ren, hpu, hil, hlr] <;> (try (intros; simp_all; done)) <;> (try omega)) (by simp [hpu, hil, hlr]))
  ·rw [if_neg h1] at hins;rw [hins] at hRO;clear hins hcu2 htk hL e1 e3;generalize zjE wordsL w 0 = op at *;generalize zls r = av at *;simp
   repeat' (first
  | (refine CallP.fun_ (hat) (by first | rfl | fail) (by first | assumption | (simp; done) | fail) (by first | (simp; done) | (simp; rfl) | fail) (by first | (simp; done) | fail) (fun d hd => ?_); obtain ⟨b', rfl⟩ := hd; (try simp))
  | (refine And.intro (by omega) ?_)
  | ((first | refine CallP.f2 rfl (hcu) (by first | simp [hgw, hpa, hwl, hil, h1] <;> rfl | fail) ?_ | refine CallP.f2 rfl (hix) (by first | simp [hgw, hpa, hwl, hil, h1] <;> rfl | fail) ?_ | fail); simp [hgw, hpa, hwl, hil, h1])
  | fail)
   refine ⟨{ n := 49, env := [], obs := RO, next := i + 1 + 5 }, ?_, rfl, rfl⟩;rw [<- hRO];exact (Wk.ren ((fun x => if x = i + 5 then i + 5 + 1 + 1 else x)) rfl (by first | (simp [hn]; done) | (intro i hi; rw [hn] at hi; constructor <;> (try simp) <;> (try (intro _)) <;> omega)) (by simp [zee, St.lp, zaA, zaa, getK, zac, zad, D.under, D.le, D.ren, hpu, hil, hlr] <;> (try (intros; simp_all; done)) <;> (try omega)) (by simp [wkR, St.lp, zaa, getK, zac, zad, obR, leU, zaN, zan, Ob.under, D.under, D.le, D.ren, hpu, hil, hlr] <;> (try (intros; simp_all; done)) <;> (try omega)) (by simp [hpu, hil, hlr]))
 ·have hn00 : Γ.base.n0 = 0 := hn;intro Γ' hn hpan2;have hnL : (List.map (fun t => D.u (U.str t)) (zbS 10 (zfN s))).length = L.length := by simp [hLl]
  rw [hnL] at hn ⊢;clear hpan hesc hit h1 h2 hL;have hR : zky L L.length = [(0, .box [.vec (L.length + 4) L.length]), (L.length + 4, .vec 44 3 (zb9 L))] := by simp [zky]
  rw [hR];have hpR := zaP L;have hlR := zcU L;have hLs : L.length <= 900001 := by omega
  have htk : List.take L.length (L.map fun i => [U.int .i64 i.op, .int .i64 i.a, .str i.s]) = L.map fun i => [U.int .i64 i.op, .int .i64 i.a, .str i.s] := List.take_of_length_le (by simp);have g1 := e1 L;refine zlG { n := 49, env := [(4, .ptr 0 0), (0, .u (.str s))], obs := [(0, .box [.vec (L.length + 4) L.length]), (L.length + 4, .vec 44 3 (zb9 L))], next := L.length + 5 } (Wk.zda (by simp [hn, ziv] <;> grind)) ?_;refine zlG _ (Wk.frz (e := 44) (sz := 3) (L.length + 4) [0] (us := L.map fun i => [U.int .i64 i.op, .int .i64 i.a, .str i.s]) (rows := zb9 L) (by simp [zaa, getK]) g1) ?_;simp [St.frz, St.frzS, frzS, fv, zbh, zaI, del, htk];simp only [Vm.inss] at h3 h4 ⊢;cases hri : zbO L with
  | false =>
   rw [hri] at h3
   repeat' (first
  | (refine zgm rfl ?_; simp)
  | ((first | refine CallP.f2 rfl (h3) (by first | simp <;> rfl | fail) ?_ | refine CallP.f2 rfl (h4) (by first | simp <;> rfl | fail) ?_ | fail); simp)
  | fail)
   refine ⟨rfl, ?_⟩;refine EndW.norm (EndW.here ?_)
   (refine EndOK.fin (.inr rfl) ?_); simp [zdt, zao, Tryz.results14]; refine FinOK.here (by simp [hn00]) ?_; simp [zaY]
  | true =>
   rw [hri] at h3;by_cases hli : zdH L = s
   ·rw [hli] at h4
    repeat' (first
  | (refine zgm rfl ?_; simp)
  | ((first | refine CallP.f2 rfl (h3) (by first | simp <;> rfl | fail) ?_ | refine CallP.f2 rfl (h4) (by first | simp <;> rfl | fail) ?_ | fail); simp)
  | fail)
    refine ⟨rfl, ?_⟩;refine EndW.norm (EndW.here ?_)
    (refine EndOK.fin (.inr rfl) ?_); simp [zdt, zao, Tryz.results14]; refine FinOK.here (by simp [hn00]) ?_; simp [zaY]
    rw [if_pos hli];exact ⟨rfl, rfl⟩
   ·generalize zdH L = T at *
    repeat' (first
  | (refine zgm rfl ?_; simp [hli])
  | ((first | refine CallP.f2 rfl (h3) (by first | simp [hli] <;> rfl | fail) ?_ | refine CallP.f2 rfl (h4) (by first | simp [hli] <;> rfl | fail) ?_ | fail); simp [hli])
  | fail)
    refine ⟨rfl, ?_⟩;refine EndW.norm (EndW.here ?_)
    (refine EndOK.fin (.inr rfl) ?_); simp [zdt, zao, Tryz.results14]; refine FinOK.here (by simp [hn00]) ?_; simp [zaY]
theorem zjn (s : W8) (hl : s.length <= 900000) : Fun Tryz.prog 14 [.u (.str s)] (· = .tup [.u (Vm.inss (ze7 s).1), .u (.int .i64 (ze7 s).2)]) := by
 unfold Fun;exact (zq1 s hl).ret (fun d o n h => h) (fun ch o n h => h.elim)
end Go.Proofs.YtkdhmbhbbciedaaGreatDoor
namespace Go.VL
open Go
theorem zuF {P : Program} {Γ : Ctx} {c : Code} {s : St} {Q : Exit -> St -> Prop} {x j : Nat} {cells : List U} {rows : List (List U)} (hx : getK s.env x = some (.u (.agg cells))) (hj : cells[j]? = some (.sl rows)) (h : rows.length <= 9223372036854775807 -> V P Γ c s Q) : V P Γ c s Q :=
 zqt (fun K a w hs => by
  have hr := (hs.getK hx).2;obtain ⟨vs, hl, _, hr⟩ := zeo hr;have hr := hr j _ hj;generalize vs.getD j undef = v at hr;cases hr with
  | slE => simp
  | sl _ b o sz c f hc hcx => unfold maxLen at hcx; omega) h
end Go.VL
namespace Go.Proofs.YtkdhmbhbbciedaaGreatDoor
open Go Go.VL
attribute [local simp] zba zcP zb4 evPure opd uOf zat St.put St.at getK binD binI binS binB nilD aggD ze5 zfC lookD lookR zbZ rangeS Go.VL.nextD Go.VL.nextS zb1 zfI zfF ze0 zci mkV zbb zcX zaW za9 mapEff zdX zeK Key.kk shiftI arith unD convD zdg loadD cellsAt fieldAddrD fieldD indexAddrD indexSlD arrAddr indexD sliceD cutD lenD minmaxD nilCheckD buildD fillD zbu zcQ zek setAll zcI zed zbU ze3 zbR St.add zaq zbe rowsOf zcY zco zad zac zaa za5 zcH zaS entry za6 zbc valD zb7 zcG ze4 zcV zcW zbz zbv zag zaM za8 delAll effD St.effS zck zaJ zaw zcl zaK zay zbr zax zas zbs zch za7 zbq zaU zbp zai mkD zb3 zbg zbk zag zb6 D.ids Op.operands Call.operands zbj makeIfD makeFuncD typeAssertD zfB zc2 zc4 zfn zb0 IntKind.bits zb5 zam List.take_of_length_le List.range_succ zcA zbJ zcB zcu zbf zbA zbC zcv zbE za0 zbD zbB zgo zbI zcy zaQ zaB zcz zaR zaD zbH zaC zau zcE zcF zfZ zab frzN frz1 zaH zaG St.frz St.frzS frzS fv zbh zbx zbM zaI zar zal frz zbN za1 za2 zbt zbP zbQ zaV St.norm St.lp St.only zaA wkE wkO wkU Ob.under D.under zak zap zcC zbK zcD h4s zdt zao zaY List.zipIdx_cons List.zipIdx_nil List.map_cons List.map_nil Nat.zero_add
attribute [local irreducible] V G H HD HD2 zaX Eff CallP CallV EndOK Fun Ret FinOK LoopI LoopW EndW HR vs2 RN Cnd H4
theorem zpe {l : List Tok} (hl : TokOK l) : ∀ f, zha l f /\ ztQ l f /\ zja l f := by
 intro f
 induction f using Nat.strongRecOn with
 | _ f ih =>
  cases f with
  | zero => exact ⟨fun p form i nx _ _ h => by omega, fun p form i nx _ _ h => by omega, fun p i nx _ _ h => by omega⟩
  | succ f =>
   obtain ⟨h1, h2, h3⟩ := ih f (by omega);exact ⟨zrA hl (fun g hg => (ih g (by omega)).1) h2, zlT hl h1 h3, zkD hl h1⟩
def Exp.lev : Exp -> Int
 | .mk _ _ _ _ args => (args.map fun e => e.lev).foldl max 0 + 1
theorem Exp.zif (e : Exp) : e.lev = (e.args.map Exp.lev).foldl max 0 + 1 := by
 cases e with
 | mk op n u s args => rw [Exp.lev]; rfl
theorem zdh : ∀ (l : List Int) (a : Int), a <= l.foldl max a /\ ∀ x ∈ l, x <= l.foldl max a
 | [], a => ⟨by simp, fun x h => by simp at h⟩
 | b :: l, a => by
  obtain ⟨h1, h2⟩ := zdh l (max a b);refine ⟨by simp only [List.foldl_cons]; omega, fun x hx => ?_⟩;rcases List.mem_cons.1 hx with rfl | hx
  ·simp only [List.foldl_cons]; omega
  ·exact h2 x hx
theorem Exp.lev_pos (e : Exp) : 1 <= e.lev := by
 rw [Exp.zif];have := (zdh (e.args.map Exp.lev) 0).1;omega
theorem Exp.zmy {e x : Exp} (h : x ∈ e.args) : SizeOf.sizeOf x < SizeOf.sizeOf e := by
 cases e with
 | mk op n u s args =>
  have := List.sizeOf_lt_of_mem h;simp only [Exp.args] at this;simp only [Exp.mk.sizeOf_spec];omega
theorem znY : ∀ (n : Nat) (e : Exp), SizeOf.sizeOf e <= n -> e.lev <= 1000000000 -> Fun Tryz.prog 109 [.u (.agg e.row)] (· = .u (.int .i64 e.lev)) := by
 intro n
 induction n with
 | zero =>
  intro e h;cases e with
  | mk op n u s args => simp only [Exp.mk.sizeOf_spec] at h; omega
 | succ n ih =>
  intro e hs he;have hx : ∀ x ∈ e.args, Fun Tryz.prog 109 [.u (.agg [.int .i64 x.op, .int .i64 x.n, .int .i64 x.unit, .str x.s, .sl (x.args.map Exp.row)])] (· = .u (.int .i64 x.lev)) := fun x hx => by
   rw [<- Exp.row_eq];refine ih x (by have := Exp.zmy hx; omega) ?_;have := (zdh (e.args.map Exp.lev) 0).2 x.lev (List.mem_map.2 ⟨x, hx, rfl⟩);rw [Exp.zif] at he;omega
  have hlb : ∀ k, ((e.args.map Exp.lev).take k).foldl max 0 <= 1000000000 := fun k => by
   rw [<- List.map_take];rw [Exp.zif] at he;have h2 : (e.args.map Exp.lev).foldl max 0 = (e.args.drop k |>.map Exp.lev).foldl max ((e.args.take k |>.map Exp.lev).foldl max 0) := by
    rw [<- List.foldl_append, <- List.map_append, List.take_append_drop]
   have := (zdh (e.args.drop k |>.map Exp.lev) ((e.args.take k |>.map Exp.lev).foldl max 0)).1;omega
  rw [Exp.row_eq, Exp.zif];generalize hA : e.args = A at *;rw [Exp.zif, hA] at he;refine Fun.run Tryz.func109 Tryz.ntmps109 Tryz.results109 rfl (by simp) fun Γ hn => ?_; simp only [entry, List.zipIdx_cons, List.zipIdx_nil, List.map_cons, List.map_nil, Nat.zero_add];refine zuF (x := 0) (j := 4) rfl rfl fun hl => ?_;simp at hl
  repeat' (first
  | (refine zaf rfl ?_; simp)
  | fail)
  refine zcs (α := { k : Nat // k <= A.length }) [0, 1, 2, 7, 8] (fun k => [(9, .u (.int .i64 k.1)), (3, .u (.int .i64 (((A.map Exp.lev).take k.1).foldl max 0)))]) (fun k => A.length - k.1) ⟨0, by omega⟩ ?_ ?_
  ·exact (Wk.env rfl rfl rfl (by simp [wkE, St.lp, zaA, zaa, getK] <;> (try (intros; simp_all; done)) <;> (try (intros; omega)) <;> (try grind)))
  rintro ⟨k, hk⟩;simp;rcases hy : A[k]? with _ | y
  ·have hge : A.length <= k := by simpa using hy
   have hb := hlb k;rw [List.take_of_length_le (by simpa using hge : (A.map Exp.lev).length <= k)] at hb ⊢;have hb0 := (zdh (A.map Exp.lev) 0).1;generalize (A.map Exp.lev).foldl max 0 = M at *
   repeat' (first
  | (refine Cnd.of (fun hc => ?_) (fun hc => ?_) <;> (try (exfalso; omega)) <;> (try simp [hy]))
  | (refine zaf rfl ?_; simp [hy])
  | (refine And.intro (by omega) ?_)
  | fail)
   (refine Pst.of ?_; simp)
  ·have hlt : k < A.length := (List.getElem?_eq_some_iff.1 hy).1;have hfn := hx y (List.mem_of_getElem? hy);have ht : ((A.map Exp.lev).take (k + 1)).foldl max 0 = max (((A.map Exp.lev).take k).foldl max 0) y.lev := by
    rw [List.take_add_one, List.getElem?_map, hy];simp
   have hb := hlb (k + 1);rw [ht] at hb;have hb0 := (zdh ((A.map Exp.lev).take k) 0).1;generalize hM : ((A.map Exp.lev).take k).foldl max 0 = M at *;have hyp := y.lev_pos
   repeat' (first
  | (refine Cnd.of (fun hc => ?_) (fun hc => ?_) <;> (try (exfalso; omega)) <;> (try simp [hy, Exp.row_eq]))
  | (refine zaf rfl ?_; simp [hy, Exp.row_eq])
  | (refine And.intro (by omega) ?_)
  | (refine CallP.f2 rfl (hfn) (by first | simp [hy, Exp.row_eq] <;> rfl | fail) ?_; simp [hy, Exp.row_eq])
  | fail)
   refine LoopW.next ⟨k + 1, hlt⟩ (by show A.length - (k + 1) < A.length - k; omega) ?_
   exact (Wk.zda (by simp [hn, ht] <;> grind))
end Go.Proofs.YtkdhmbhbbciedaaGreatDoor
namespace Go.Proofs.YtkdhmbhbbciedaaGreatDoor
open Go Go.VL
attribute [local simp] HS zba zcP zb4 evPure opd uOf zat St.put St.at getK binD binI binS binB nilD aggD ze5 zfC lookD lookR zbZ rangeS Go.VL.nextD Go.VL.nextS zb1 zfI zfF ze0 zci mkV zbb zcX zaW za9 mapEff zdX zeK Key.kk shiftI arith unD convD zdg loadD cellsAt fieldAddrD fieldD indexAddrD indexSlD arrAddr indexD sliceD cutD lenD minmaxD nilCheckD buildD fillD zbu zcQ zek setAll zcI zed zbU ze3 zbR St.add zaq zbe rowsOf zcY zco zad zac zaa za5 zcH zaS entry za6 zbc valD zb7 zcG ze4 zcV zcW zbz zbv zag zaM za8 delAll effD St.effS zck zaJ zaw zcl zaK zay zbr zax zas zbs zch za7 zbq zaU zbp zai mkD zb3 zbg zbk zag zb6 D.ids Op.operands Call.operands zbj makeIfD makeFuncD typeAssertD zfB zc2 zc4 zfn zb0 IntKind.bits zb5 zam List.take_of_length_le List.range_succ zcA zbJ zcB zcu zbf zbA zbC zcv zbE za0 zbD zbB zgo zbI zcy zaQ zaB zcz zaR zaD zbH zaC zau zcE zcF zfZ zab frzN frz1 zaH zaG St.frz St.frzS frzS fv zbh zbx zbM zaI zar zal frz zbN za1 za2 zbt zbP zbQ zaV St.norm St.lp St.only zaA wkE wkO wkU Ob.under D.under zak zap zcC zbK zcD h4s zdt zao zaY List.zipIdx_cons List.zipIdx_nil List.map_cons List.map_nil Nat.zero_add
attribute [local irreducible] V G H HD HD2 HD4 zg5 RetX zaX Eff CallP CallV EndOK Fun Ret FinOK LoopI LoopW EndW HR vs2 RN Cnd H4
abbrev zle : Ob := .box [.u (.int .i64 0), .u (.int .i64 0), .u (.int .i64 0), .u (.str []), .u .nil]
theorem zjq (i j q nx : Nat) (hi : i < nx) (hj : j < nx) (hq : q < nx) (hij : i ≠ j) (hiq : i ≠ q) (hjq : j ≠ q) (p e pos err : Int) (a b c : Int) (t : List UInt8) (g : U) :
  RetDf Tryz.prog 104 [.ptr i 0, .ptr j 0, .ptr q 0] [(i, .box [.u (.int .i64 p)]), (j, .box [.u (.int .i64 e)]), (q, .box [.u (.int .i64 a), .u (.int .i64 b), .u (.int .i64 c), .u (.str t), .u g])] nx (.panicking (chP pos err))
   (fun u o n => settle u = .returning /\ n = nx /\ o = [(i, .box [.u (.int .i64 pos)]), (j, .box [.u (.int .i64 err)]), (q, zle)]) := by
 have hne := zbm hi;have hne2 := zbm hj;have hne3 := zbm hq;have hc0 := zmj i j nx hi hj hij p e pos err;refine RetDf.of_body Tryz.func104 rfl (by simp) (by simp) rfl fun Γ hn => ?_;simp [entry, znD, chP, Tryz.ntmps104];refine CallP.x2 hc0 (by simp [getK]) (by simp [getK, hij, Ne.symm hij]) hij rfl rfl (by simp) (by simp) (fun d o1 nx' hnx h => ?_) (fun ch o1 nx' hnx h => by cases h.1);obtain ⟨h1, rfl, h4⟩ := h;have h4 := h4.symm;subst h4;cases h1;simp [del, hij, Ne.symm hij, hiq, hjq, Ne.symm hiq, Ne.symm hjq]
 repeat' (first
  | (refine zaf rfl ?_; simp [hij, hiq, hjq])
  | fail)
 (refine ⟨by simp, { n := _, env := [], obs := [(i, .box [.u (.int .i64 pos)]), (j, .box [.u (.int .i64 err)]), (q, zle)], next := nx }, (Wk.cut rfl (by simp [hn]) (by simp [wkO, zaa, getK, zab, zac, Ob.under, D.under, zak, zap, hi, hj, hq, hne, hne2, hne3, hij, hiq, hjq, Ne.symm hij, Ne.symm hiq, Ne.symm hjq]) (by simp [wkU, zaA, zaa, getK, D.under, hi, hj, hq, hne, hne2, hne3, hij, hiq, hjq, Ne.symm hij, Ne.symm hiq, Ne.symm hjq]) (by simp [wkE, zaA, zaa, getK, hi, hj, hq, hne, hne2, hne3, hij, hiq, hjq, Ne.symm hij, Ne.symm hiq, Ne.symm hjq])), by simp [hn], ?_⟩; try simp)
 all_goals rfl
theorem zpz {s : List UInt8} : ∀ (f p : Nat) (l : List Tok), zpA f s p = .ok l -> s.length < p + f -> p <= s.length ->
  (∀ (i : Nat) (t : Tok), l[i]? = some t -> t.kind ≠ 0 -> i + 1 < l.length) /\ l.length <= s.length - p + 1 /\ 0 < l.length
 | 0, p, l, _, h2, h3 => by omega
 | f + 1, p, l, h, h2, h3 => by
  rw [zpA] at h;have hle := zem zcR (s.drop p);rw [List.length_drop] at hle;split at h
  ·cases h;refine ⟨fun i t hi hk => ?_, by simp, by simp⟩;rcases i with _ | i
   ·simp at hi;subst hi;exact absurd rfl hk
   ·simp at hi
  ·rename_i c r hd;have hdl : (s.drop (p + zdj zcR (s.drop p))).length = r.length + 1 := by rw [hd]; rfl
   rw [List.length_drop] at hdl;split at h
   ·cases h
   ·rename_i t ht;obtain ⟨ht1, ht2⟩ := zgB ht;simp only [List.length_cons] at ht2;split at h
    ·cases h
    ·rename_i l' hl';cases h;obtain ⟨g1, g2, g3⟩ := zpz f _ l' hl' (by omega) (by omega);refine ⟨fun i t' hi hk => ?_, by simp only [List.length_cons]; omega, by simp⟩;rcases i with _ | i
     ·simp; exact g3
     ·simp only [List.getElem?_cons_succ] at hi;have := g1 i t' hi hk;simp only [List.length_cons];omega
theorem zs5 {s : List UInt8} {l : List Tok} (h : zpy s = .ok l) : TokOK l /\ l.length <= 2001 /\ 0 < l.length := by
 unfold zpy at h;split at h
 ·cases h
 ·obtain ⟨g1, g2, g3⟩ := zpz _ _ _ h (by omega) (by omega);exact ⟨⟨g1, by omega⟩, by omega, g3⟩
theorem Exp.zlE {op n u : Int} {s : List UInt8} {args : List Exp} {B : Int} (h : ∀ x ∈ args, x.lev <= B) (h0 : 0 <= B) : (Exp.mk op n u s args).lev <= B + 1 := by
 rw [Exp.zif];simp only [Exp.args];have : ∀ (l : List Int) (a : Int), a <= B -> (∀ x ∈ l, x <= B) -> l.foldl max a <= B := by
  intro l
  induction l with
  | nil => intro a ha _; exact ha
  | cons b l ih => intro a ha hl; exact ih _ (by have := hl b (by simp); omega) fun x hx => hl x (by simp [hx])
 have := this (args.map Exp.lev) 0 h0 (fun x hx => by obtain ⟨y, hy, rfl⟩ := List.mem_map.1 hx; exact h y hy);omega
theorem zkK {l : List Tok} : ∀ (f : Nat),
  (∀ p form e q, zfj l f p form = .ok e q -> e.lev <= f * f + 1) /\
  (∀ form e own p e' q, zfG l f form e own p = .ok e' q -> e'.lev <= max e.lev (f * f + 1) + f) /\
  (∀ p form e q, zcb l f p form = .ok e q -> e.1.lev <= f * f + 1) /\
  (∀ p e q, zbi l f p = .ok e q -> e.lev <= f * f + 1)
 | 0 => ⟨fun _ _ _ _ h => by simp [zfj] at h, fun _ _ _ _ _ _ h => by simp [zfG] at h, fun _ _ _ _ h => by simp [zcb] at h, fun _ _ _ h => by simp [zbi] at h⟩
 | f + 1 => by
  obtain ⟨he, hlo, hpr, hpm⟩ := zkK f;have hsq : ((f + 1 : Nat) : Int) * ((f + 1 : Nat) : Int) = (f : Int) * f + 2 * f + 1 := by
   rw [show ((f + 1 : Nat) : Int) = (f : Int) + 1 by omega, Int.add_mul, Int.mul_add]; omega
  rw [hsq];have h0 : (0 : Int) <= (f : Int) * f := Int.mul_nonneg (by omega) (by omega);generalize hF : (f : Int) * f = F at *;refine ⟨fun p form e q h => ?_, fun form e own p e' q h => ?_, fun p form e q h => ?_, fun p e q h => ?_⟩
  ·rw [zfj] at h;obtain ⟨a, r, h1, h2⟩ := PR.za3 h;have g1 := hpr _ _ _ _ h1;have g2 := hlo _ _ _ _ _ _ h2;omega
  ·rw [zfG] at h;split at h
   ·cases h; omega
   ·split at h
    ·cases h; omega
    ·obtain ⟨a, r, h1, h2⟩ := PR.za3 h;have g1 := he _ _ _ _ h1;have g2 := hlo _ _ _ _ _ _ h2;rename_i x _ _;have g3 := Exp.zlE (op := x.op) (n := 0) (u := 0) (s := []) (args := [e, a]) (B := max e.lev (F + 1)) (by
      intro y hy;simp only [List.mem_cons, List.not_mem_nil, or_false] at hy;rcases hy with rfl | rfl <;> omega) (by omega)
     omega
  ·rw [zcb] at h;split at h
   ·obtain ⟨a, r, h1, h⟩ := PR.za3 h;obtain ⟨_, r2, h2, h⟩ := PR.za3 h;obtain ⟨b, r3, h3, h⟩ := PR.za3 h;obtain ⟨_, r4, h4, h⟩ := PR.za3 h;obtain ⟨c, r5, h5, h⟩ := PR.za3 h;cases h;have g1 := he _ _ _ _ h1;have g3 := he _ _ _ _ h3;have g5 := he _ _ _ _ h5;have := Exp.zlE (op := 13) (n := 0) (u := 0) (s := []) (args := [a, b, c]) (B := F + 1) (by
     intro y hy;simp only [List.mem_cons, List.not_mem_nil, or_false] at hy;rcases hy with rfl | rfl | rfl <;> omega) (by omega)
    simp only;omega
   ·split at h
    ·obtain ⟨a, r, h1, h⟩ := PR.za3 h;cases h;have g1 := he _ _ _ _ h1;have := Exp.zlE (op := 12) (n := 0) (u := 0) (s := []) (args := [a]) (B := F + 1) (by
      intro y hy;simp only [List.mem_cons, List.not_mem_nil, or_false] at hy;rcases hy with rfl; omega) (by omega)
     simp only;omega
    ·obtain ⟨a, r, h1, h⟩ := PR.za3 h;cases h;have g1 := hpm _ _ _ h1;simp only;omega
  ·have leaf : ∀ (op n u : Int) (s : List UInt8), (Exp.mk op n u s []).lev <= F + 2 * f + 1 + 1 := fun op n u s => by
    have := Exp.zlE (op := op) (n := n) (u := u) (s := s) (args := []) (B := 0) (by simp) (by omega);omega
   rw [zbi] at h;split at h
   ·cases h
   ·split at h
    ·obtain ⟨a, r, h1, h⟩ := PR.za3 h;cases h; exact leaf ..
    split at h
    ·cases h; exact leaf ..
    split at h
    ·cases h; exact leaf ..
    split at h
    ·obtain ⟨_, r2, h2, h⟩ := PR.za3 h;obtain ⟨a, r3, h3, h⟩ := PR.za3 h;obtain ⟨_, r4, h4, h⟩ := PR.za3 h;obtain ⟨b, r5, h5, h⟩ := PR.za3 h;obtain ⟨_, r6, h6, h⟩ := PR.za3 h;have g3 := he _ _ _ _ h3;have g5 := he _ _ _ _ h5;have := Exp.zlE (op := if isB l p [109, 97, 120] = true then 7 else 6) (n := 0) (u := 0) (s := []) (args := [a, b]) (B := F + 1) (by
      intro y hy;simp only [List.mem_cons, List.not_mem_nil, or_false] at hy;rcases hy with rfl | rfl <;> omega) (by omega)
     cases h;omega
    split at h
    ·obtain ⟨a, r3, h3, h⟩ := PR.za3 h;obtain ⟨_, r4, h4, h⟩ := PR.za3 h;cases h;have g3 := he _ _ _ _ h3;omega
    split at h
    ·cases h; exact leaf ..
    ·cases h
def zmU (l : List Tok) (p : Nat) : Int := match l[p]? with | some t => t.kind | none => 0
def zg6 : Exp := .mk 0 0 0 [] []
def zgV (s : List UInt8) : Exp × Int × Int := match zpy s with
 | .error (p, e) => (zg6, p, e)
 | .ok l => match zfj l (4 * l.length + 3) 0 0 with
  | .stop pos e => (zg6, pos, e)
  | .ok y q => if zmU l q ≠ 0 then (zg6, zkI l q, 12) else if 12 < y.lev then (zg6, zkI l q, 6) else (y, 0, 0)
theorem zpn {c : UInt8} {r : List UInt8} {e : Int} (h : zih (c :: r) = .error e) : e ≠ 0 := by
 unfold zih at h;simp only at h;split at h
 ·split at h <;> cases h;omega
 ·split at h
  ·split at h <;> cases h;omega
  ·split at h <;> cases h;omega
theorem zmS {s : List UInt8} : ∀ (f p : Nat) (q : Nat) (e : Int), zpA f s p = .error (q, e) -> p <= s.length -> e ≠ 0 /\ q <= s.length
 | 0, p, q, e, h, _ => by simp [zpA] at h
 | f + 1, p, q, e, h, h3 => by
  rw [zpA] at h;have hle := zem zcR (s.drop p);rw [List.length_drop] at hle;split at h
  ·cases h
  ·rename_i c r hd;have hdl : (s.drop (p + zdj zcR (s.drop p))).length = r.length + 1 := by rw [hd]; rfl
   rw [List.length_drop] at hdl;split at h
   ·rename_i ht;cases h;exact ⟨zpn ht, by omega⟩
   ·rename_i t ht;obtain ⟨ht1, ht2⟩ := zgB ht;simp only [List.length_cons] at ht2;split at h
    ·rename_i x hx;cases h;exact zmS f _ q e hx (by omega)
    ·cases h
theorem zrk {s : List UInt8} {q : Nat} {e : Int} (h : zpy s = .error (q, e)) : e ≠ 0 /\ q <= s.length := by
 unfold zpy at h;split at h
 ·cases h; exact ⟨by decide, by omega⟩
 ·exact zmS _ _ _ _ h (by omega)
def zsr (r : Exp × Int × Int) : D := .tup [.u (.agg r.1.row), .u (.int .i64 r.2.1), .u (.int .i64 r.2.2)]
theorem zkM (s : List UInt8) : RetX Tryz.prog 64 [.u (.str s)] [] 0 (fun r o n => r = .val (zsr (zgV s))) := by
 unfold zgV;cases hlx : zpy s with
 | error pe =>
  obtain ⟨p, e⟩ := pe;have ho := fun nx => zq6 s p e nx hlx;have he := (zrk hlx).1;simp only
  (refine RetX.zfD Tryz.func64 rfl (by simp) fun Γ hn hdfr hpan hesc => ?_); simp only [entry, List.zipIdx_cons, List.zipIdx_nil, List.map_cons, List.map_nil, Nat.zero_add, Tryz.ntmps64]
  repeat' (first
  | (refine zgn rfl ?_; simp [he])
  | (refine ⟨hC _ (by kernel_rfl), hk _ (zeI 0 _ _ _ ?_)⟩; clear hC hk C k; simp [he])
  | (refine zeH rfl (by kernel_rfl) (by first | (simp [hn]; done) | (simp [hn]; omega) | fail) fun C k hC hk => ?_; simp [he])
  | (refine CallP.okL (ho _) (by first | (simp [he, zaa, getK, zab, zac, zad, zai, del]; done) | fail) (by rfl) (by first | assumption | (simp; done) | fail) (by rfl) (by simp) ?_; (try simp [he, zcx, del]))
  | fail)
  refine EndW.norm ?_;simp [St.norm, zaV, zbt, zbP, zbQ]
  (refine EndW.h Tryz.results64 ?_; simp)
  simp [zsr, Exp.row, zg6]
 | ok l =>
  obtain ⟨hl, hl2, hl0⟩ := zs5 hlx;have ho := fun nx => zs0 s l nx hlx;have hE := (zpe hl (4 * l.length + 3)).1 0 0 3 4 (by omega) hl0 (by omega) (by omega) (by omega);simp only;cases hr : zfj l (4 * l.length + 3) 0 0 with
  | stop pos e =>
   simp only [hr] at hE ⊢
   (refine RetX.zfD Tryz.func64 rfl (by simp) fun Γ hn hdfr hpan hesc => ?_); simp only [entry, List.zipIdx_cons, List.zipIdx_nil, List.map_cons, List.map_nil, Nat.zero_add, Tryz.ntmps64]
   rw [zfx]
   repeat' (first
  | (refine zgn rfl ?_; simp)
  | (refine CallP.okL (ho _) (by first | (simp [zaa, getK, zab, zac, zad, zai, del]; done) | fail) (by rfl) (by first | assumption | (simp; done) | fail) (by rfl) (by simp) ?_; (try simp [zcx, del]))
  | fail)
   refine zj2 hesc hdfr rfl (by simp) ?_;have hn0 := hn;have hpan0 := hpan;intro Γ' hn hpan;simp
   repeat' (first
  | (refine zgn rfl ?_; simp)
  | (refine CallP.zht (hE) (by first | (simp [zaa, getK, zab, zac]; done) | fail) (by rfl) (by first | assumption | (simp; done) | fail) (by rfl) (by simp) ?_; rintro ob' ⟨q', rfl⟩; refine ⟨_, Wk.refl _, ?_⟩)
  | fail)
   refine hpan _ _ ?_;refine LeaveD.of [(1, .box [.u (.int .i64 0)]), (2, .box [.u (.int .i64 0)]), (0, zle)] (by simp [zaa, getK, zab, zac]) (zjq 1 2 0 _ (by simp) (by simp) (by simp) (by decide) (by decide) (by decide) 0 0 _ _ 0 0 0 [] .nil) ?_;simp only [show Γ.base.n0 = 0 from hn0];simp [zcx, del];refine EndW.norm ?_;simp [St.norm, zaV, zbt, zbP, zbQ]
   (refine EndW.h Tryz.results64 ?_; simp)
   simp [zsr, Exp.row, zg6]
  | ok y q =>
   have hEx := zeC hE hr;obtain ⟨g0a, g0b⟩ := (zdB hl _).1 _ _ _ _ hr hl0;have hlev := (zkK (l := l) _).1 _ _ _ _ hr;have hlev2 : y.lev <= 1000000000 := by
    have h1 : ((4 * l.length + 3 : Nat) : Int) * ((4 * l.length + 3 : Nat) : Int) <= 8007 * 8007 := Int.mul_le_mul (by omega) (by omega) (by omega) (by omega);omega
   have hlv := znY (SizeOf.sizeOf y) y (Nat.le_refl _) hlev2;rw [Exp.row_eq] at hlv;obtain ⟨t, ht⟩ : ∃ t, l[q]? = some t := ⟨_, List.getElem?_eq_getElem g0b⟩;have hnx := zdA l q t ht hl.len;have hka : zmU l q = t.kind := by unfold zmU; rw [ht]
   have hpa : zkI l q = t.pos := by unfold zkI; rw [ht]
   simp only [hka, hpa];by_cases hk : t.kind = 0
   ·have hc1 := fun nx (h : 3 < nx) => zhp l q 12 3 nx h;rw [if_neg (by simp [hk])];by_cases hv : 12 < y.lev
    ·have hc2 := fun nx (h : 3 < nx) => zgi l q t 6 3 nx h ht hl.len;have hv2 : ¬ y.lev <= 12 := by omega
     rw [if_pos hv]
     (refine RetX.zfD Tryz.func64 rfl (by simp) fun Γ hn hdfr hpan hesc => ?_); simp only [entry, List.zipIdx_cons, List.zipIdx_nil, List.map_cons, List.map_nil, Nat.zero_add, Tryz.ntmps64]
     rw [zfx]
     repeat' (first
  | (refine zgn rfl ?_; simp)
  | (refine CallP.okL (ho _) (by first | (simp [zaa, getK, zab, zac, zad, zai, del]; done) | fail) (by rfl) (by first | assumption | (simp; done) | fail) (by rfl) (by simp) ?_; (try simp [zcx, del]))
  | fail)
     refine zj2 hesc hdfr rfl (by simp) ?_;have hn0 := hn;have hpan0 := hpan;intro Γ' hn hpan;simp
     repeat' (first
  | (refine zgn rfl ?_; simp [hk, hv, hv2, del])
  | ((first | refine CallP.f2 rfl (hlv) (by first | simp [hk, hv, hv2, del] <;> rfl | fail) ?_ | refine CallP.f2 rfl (hnx) (by first | simp [hk, hv, hv2, del] <;> rfl | fail) ?_ | fail); simp [hk, hv, hv2, del])
  | (refine CallP.ok1 (hEx) (by first | (simp [hk, hv, hv2, del, zaa, getK, zab, zac]; done) | fail) (by rfl) (by first | assumption | (simp; done) | fail) (by rfl) (by simp) ?_; (try simp [hk, hv, hv2, del]))
  | (refine CallP.ok1 (hc1 _ (by simp)) (by first | (simp [hk, hv, hv2, del, zaa, getK, zab, zac]; done) | fail) (by rfl) (by first | assumption | (simp; done) | fail) (by rfl) (by simp) ?_; (try simp [hk, hv, hv2, del]))
  | (refine CallP.zht (hc2 _ (by simp)) (by first | (simp [hk, hv, hv2, del, zaa, getK, zab, zac]; done) | fail) (by rfl) (by first | assumption | (simp; done) | fail) (by rfl) (by simp) ?_; rintro ob' ⟨q', rfl⟩; refine ⟨_, Wk.refl _, ?_⟩)
  | fail)
     refine hpan _ _ ?_;refine LeaveD.of [(1, .box [.u (.int .i64 0)]), (2, .box [.u (.int .i64 0)]), (0, zle)] (by simp [zaa, getK, zab, zac]) (zjq 1 2 0 _ (by simp) (by simp) (by simp) (by decide) (by decide) (by decide) 0 0 _ _ 0 0 0 [] .nil) ?_;simp only [show Γ.base.n0 = 0 from hn0];simp [zcx, del];refine EndW.norm ?_;simp [St.norm, zaV, zbt, zbP, zbQ]
     (refine EndW.h Tryz.results64 ?_; simp)
     simp [zsr, Exp.row, zg6]
    ·have hc2 := fun nx (h : 3 < nx) => zhp l q 6 3 nx h;have hv2 : y.lev <= 12 := by omega
     rw [if_neg hv]
     (refine RetX.zfD Tryz.func64 rfl (by simp) fun Γ hn hdfr hpan hesc => ?_); simp only [entry, List.zipIdx_cons, List.zipIdx_nil, List.map_cons, List.map_nil, Nat.zero_add, Tryz.ntmps64]
     rw [zfx]
     repeat' (first
  | (refine zgn rfl ?_; simp)
  | (refine CallP.okL (ho _) (by first | (simp [zaa, getK, zab, zac, zad, zai, del]; done) | fail) (by rfl) (by first | assumption | (simp; done) | fail) (by rfl) (by simp) ?_; (try simp [zcx, del]))
  | fail)
     refine zj2 hesc hdfr rfl (by simp) ?_;have hn0 := hn;have hpan0 := hpan;intro Γ' hn hpan;simp
     repeat' (first
  | (refine zgn rfl ?_; simp [hk, hv, hv2, del])
  | ((first | refine CallP.f2 rfl (hlv) (by first | simp [hk, hv, hv2, del] <;> rfl | fail) ?_ | refine CallP.f2 rfl (hnx) (by first | simp [hk, hv, hv2, del] <;> rfl | fail) ?_ | fail); simp [hk, hv, hv2, del])
  | (refine CallP.ok1 (hEx) (by first | (simp [hk, hv, hv2, del, zaa, getK, zab, zac]; done) | fail) (by rfl) (by first | assumption | (simp; done) | fail) (by rfl) (by simp) ?_; (try simp [hk, hv, hv2, del]))
  | (refine CallP.ok1 (hc1 _ (by simp)) (by first | (simp [hk, hv, hv2, del, zaa, getK, zab, zac]; done) | fail) (by rfl) (by first | assumption | (simp; done) | fail) (by rfl) (by simp) ?_; (try simp [hk, hv, hv2, del]))
  | (refine CallP.ok1 (hc2 _ (by simp)) (by first | (simp [hk, hv, hv2, del, zaa, getK, zab, zac]; done) | fail) (by rfl) (by first | assumption | (simp; done) | fail) (by rfl) (by simp) ?_; (try simp [hk, hv, hv2, del]))
  | fail)
     refine ⟨rfl, ?_⟩;refine LeaveD.of [(1, .box [.u (.int .i64 0)]), (2, .box [.u (.int .i64 0)]), (0, .box ([.int .i64 y.op, .int .i64 y.n, .int .i64 y.unit, .str y.s, .sl (y.args.map Exp.row)].map .u))] (by simp [zaa, getK, zab, zac]) (zq3 1 2 0 _ (by simp) (by simp) (by simp) (by decide) (by decide) (by decide) 0 0 _) ?_;simp only [show Γ.base.n0 = 0 from hn0];simp [zcx, del]
     (refine EndW.h Tryz.results64 ?_; simp)
     simp [zsr, Exp.row_eq]
   ·have hc1 := fun nx (h : 3 < nx) => zgi l q t 12 3 nx h ht hl.len;rw [if_pos hk]
    (refine RetX.zfD Tryz.func64 rfl (by simp) fun Γ hn hdfr hpan hesc => ?_); simp only [entry, List.zipIdx_cons, List.zipIdx_nil, List.map_cons, List.map_nil, Nat.zero_add, Tryz.ntmps64]
    rw [zfx]
    repeat' (first
  | (refine zgn rfl ?_; simp)
  | (refine CallP.okL (ho _) (by first | (simp [zaa, getK, zab, zac, zad, zai, del]; done) | fail) (by rfl) (by first | assumption | (simp; done) | fail) (by rfl) (by simp) ?_; (try simp [zcx, del]))
  | fail)
    refine zj2 hesc hdfr rfl (by simp) ?_;have hn0 := hn;have hpan0 := hpan;intro Γ' hn hpan;simp
    repeat' (first
  | (refine zgn rfl ?_; simp [hk, del])
  | (refine CallP.f2 rfl (hnx) (by first | simp [hk, del] <;> rfl | fail) ?_; simp [hk, del])
  | (refine CallP.ok1 (hEx) (by first | (simp [hk, del, zaa, getK, zab, zac]; done) | fail) (by rfl) (by first | assumption | (simp; done) | fail) (by rfl) (by simp) ?_; (try simp [hk, del]))
  | (refine CallP.zht (hc1 _ (by simp)) (by first | (simp [hk, del, zaa, getK, zab, zac]; done) | fail) (by rfl) (by first | assumption | (simp; done) | fail) (by rfl) (by simp) ?_; rintro ob' ⟨q', rfl⟩; refine ⟨_, Wk.refl _, ?_⟩)
  | fail)
    refine hpan _ _ ?_;refine LeaveD.of [(1, .box [.u (.int .i64 0)]), (2, .box [.u (.int .i64 0)]), (0, zle)] (by simp [zaa, getK, zab, zac]) (zjq 1 2 0 _ (by simp) (by simp) (by simp) (by decide) (by decide) (by decide) 0 0 _ _ 0 0 0 [] .nil) ?_;simp only [show Γ.base.n0 = 0 from hn0];simp [zcx, del];refine EndW.norm ?_;simp [St.norm, zaV, zbt, zbP, zbQ]
    (refine EndW.h Tryz.results64 ?_; simp)
    simp [zsr, Exp.row, zg6]
theorem zgX (s : List UInt8) : Fun Tryz.prog 64 [.u (.str s)] (· = .tup [zce (zgV s).1, .u (.int .i64 (zgV s).2.1), .u (.int .i64 (zgV s).2.2)]) := by
 unfold Fun;exact (zkM s).ret (fun d o n h => by
  cases h;refine ⟨by simp [zsr, zaY], ?_⟩;rw [zsr, Exp.row_eq];rfl) (fun ch o n h => by cases h)
end Go.Proofs.YtkdhmbhbbciedaaGreatDoor
namespace Go.Proofs.YtkdhmbhbbciedaaGreatDoor
open Go Go.VL
mutual
def zuT : Exp -> Int
 | .mk _ _ _ _ args => zpB args + 1
def zpB : List Exp -> Int
 | [] => 0
 | e :: l => max (zuT e) (zpB l)
end
theorem zik (l : List Int) (a : Int) (ha : 0 <= a) : l.foldl max a = max a (l.foldl max 0) := by
 induction l generalizing a with
 | nil => simp; omega
 | cons b l ih => simp only [List.foldl_cons]; rw [ih (max a b) (by omega), ih (max 0 b) (by omega)]; omega
mutual
theorem zpC : ∀ e : Exp, zuT e = e.lev
 | .mk op n u s args => by rw [zuT, Exp.zif, zmT]; rfl
theorem zmT : ∀ l : List Exp, zpB l = (l.map Exp.lev).foldl max 0
 | [] => by rw [zpB]; rfl
 | e :: l => by
  have := e.lev_pos;rw [zpB, zpC, zmT, List.map_cons, List.foldl_cons, zik (l.map Exp.lev) (max 0 e.lev) (by omega)];omega
end
def zc6 (s : List UInt8) : Exp × Int × Int := match zpy s with
 | .error (p, e) => (zg6, p, e)
 | .ok l => match zfj l (4 * l.length + 3) 0 0 with
  | .stop pos e => (zg6, pos, e)
  | .ok y q => if zmU l q ≠ 0 then (zg6, zkI l q, 12) else if 12 < zuT y then (zg6, zkI l q, 6) else (y, 0, 0)
theorem zkL (s : List UInt8) : zgV s = zc6 s := by
 unfold zgV zc6;simp only [zpC]
 try rfl
end Go.Proofs.YtkdhmbhbbciedaaGreatDoor
namespace Go.Proofs.YtkdhmbhbbciedaaGreatDoor
open Go Go.VL
attribute [local simp] HS zba zcP zb4 evPure opd uOf zat St.put St.at getK binD binI binS binB nilD aggD ze5 zfC lookD lookR zbZ rangeS Go.VL.nextD Go.VL.nextS zb1 zfI zfF ze0 zci mkV zbb zcX zaW za9 mapEff zdX zeK Key.kk shiftI arith unD convD zdg loadD cellsAt fieldAddrD fieldD indexAddrD indexSlD arrAddr indexD sliceD cutD lenD minmaxD nilCheckD buildD fillD zbu zcQ zek setAll zcI zed zbU ze3 zbR St.add zaq zbe rowsOf zcY zco zad zac zaa za5 zcH zaS entry za6 zbc valD zb7 zcG ze4 zcV zcW zbz zbv zag zaM za8 delAll effD St.effS zck zaJ zaw zcl zaK zay zbr zax zas zbs zch za7 zbq zaU zbp zai mkD zb3 zbg zbk zag zb6 D.ids Op.operands Call.operands zbj makeIfD makeFuncD typeAssertD zfB zc2 zc4 zfn zb0 IntKind.bits zb5 zam List.take_of_length_le List.range_succ zcA zbJ zcB zcu zbf zbA zbC zcv zbE za0 zbD zbB zgo zbI zcy zaQ zaB zcz zaR zaD zbH zaC zau zcE zcF zfZ zab frzN frz1 zaH zaG St.frz St.frzS frzS fv zbh zbx zbM zaI zar zal frz zbN za1 za2 zbt zbP zbQ zaV St.norm St.lp St.only zaA wkE wkO wkU Ob.under D.under zak zap zcC zbK zcD h4s zdt zao zaY List.zipIdx_cons List.zipIdx_nil List.map_cons List.map_nil Nat.zero_add
attribute [local irreducible] V G H HD HD2 HD4 zg5 RetX zaX Eff CallP CallV EndOK Fun Ret FinOK LoopI LoopW EndW HR vs2 RN Cnd H4
theorem zeP (lets : List Let) (bs : List W8) (s : W8) (e : Exp) (c : Code) (hlen : bs.length = lets.length) (hp : ∀ (i : Nat) (l : Let) (b : W8), lets[i]? = some l -> bs[i]? = some b -> zc6 b = (l.body, 0, 0))
  (he : zc6 s = (e, 0, 0)) (hc : zel lets e = (c, 0)) (hcl : c.length <= 1000000) (hll : lets.length <= 1000) :
  Fun Tryz.prog 32 [.u (zlJ (lets.map (·.name))), .u (zlJ bs), .u (.str s)] (· = .u (.str (zdH c))) := by
 have h1 := zgX s;rw [zkL, he] at h1;have h2 := zh7 lets e;rw [hc] at h2;have h3 := zjz c hcl;simp only [zlJ, List.map_map, zaz, zce, Vm.inss] at h1 h2 h3 ⊢;have hA0 : (fun i => (lets.take i).map zrl) 0 = [] := rfl;have hAl : ∀ i, i <= lets.length -> ((fun i => (lets.take i).map zrl) i).length = i := fun i hi => by simp; omega
 have hAn : ∀ i l, lets[i]? = some l -> (fun i => (lets.take i).map zrl) (i + 1) = (fun i => (lets.take i).map zrl) i ++ [zrl l] := fun i x hx => by
  have hlt : i < lets.length := (List.getElem?_eq_some_iff.1 hx).1;simp only;rw [List.take_succ_eq_append_getElem hlt, List.map_append, (List.getElem?_eq_some_iff.1 hx).2]; rfl
 have hAe : (lets.map fun l => [U.str l.name, .int .i64 l.body.op, .int .i64 l.body.n, .int .i64 l.body.unit, .str l.body.s, .sl (l.body.args.map Exp.row)]) = (fun i => (lets.take i).map zrl) lets.length := by simp [zrl]
 rw [hAe] at h2;generalize (fun i => (lets.take i).map zrl) = A at hA0 hAl hAn h2;clear hAe;refine Fun.runW Tryz.func32 Tryz.ntmps32 rfl (by simp) fun Γ hn => ?_; simp only [entry, List.zipIdx_cons, List.zipIdx_nil, List.map_cons, List.map_nil, Nat.zero_add];refine zir (x := 0) rfl fun hl1 => ?_;refine zir (x := 1) rfl fun hl2 => ?_;simp only [List.length_map] at hl1 hl2
 repeat' (first
  | (refine zaf rfl ?_; simp)
  | fail)
 refine zlG _ (Wk.own 7 39 6 (by decide) rfl) ?_;simp [St.own];refine zb8 (α := { i : Nat // i <= lets.length }) [0, 1, 2] (fun i => [(8, .u (.int .i64 i.1)), (7, .vec 0 i.1)]) (fun i => [(0, .vec 39 6 (rowsD (A i.1)))]) 1 (fun i => lets.length - i.1) ⟨0, by omega⟩ ?_ ?_
 ·exact (Wk.ren ((fun i => i)) rfl (by first | (simp [hn]; done) | (intro i hi; rw [hn] at hi; constructor <;> (try simp) <;> (try (intro _)) <;> omega)) (by simp [zee, St.lp, zaA, zaa, getK, zac, zad, D.under, D.le, D.ren, hA0] <;> (try (intros; simp_all; done)) <;> (try omega)) (by simp [wkR, St.lp, zaa, getK, zac, zad, obR, leU, zaN, zan, Ob.under, D.under, D.le, D.ren, hA0] <;> (try (intros; simp_all; done)) <;> (try omega)) (by simp [hA0]))
 rintro ⟨i, hi⟩;have hal := hAl i hi;have htk : (A i).take i = A i := List.take_of_length_le (by omega);simp;rcases hx : lets[i]? with _ | l
 case none =>
  have hge : lets.length <= i := by simpa using hx
  obtain rfl : i = lets.length := by omega
  refine zlG _ (Wk.frz (e := 39) (sz := 6) 0 [] (us := A lets.length) (by simp [zaa]; rfl) (zgl _)) ?_;simp [St.frz, St.frzS, frzS, fv, zbh, zaI, del, hal, htk];have hge1 : ¬ (lets.length : Int) < lets.length := by omega
  repeat' (first
  | (refine zaf rfl ?_; simp [hlen])
  | ((first | refine CallP.f2 rfl (h1) (by first | simp [hlen] <;> rfl | fail) ?_ | refine CallP.f2 rfl (h2) (by first | simp [hlen] <;> rfl | fail) ?_ | refine CallP.f2 rfl (h3) (by first | simp [hlen] <;> rfl | fail) ?_ | fail); simp [hlen])
  | fail)
  refine EndW.here ?_
  (refine EndOK.val (.inr rfl) ?_; simp [Tryz.results32])
 case some =>
  have hlt : i < lets.length := (List.getElem?_eq_some_iff.1 hx).1;obtain ⟨b, hb⟩ : ∃ b, bs[i]? = some b := ⟨_, List.getElem?_eq_getElem (by omega)⟩;have hlb : i < bs.length := by omega
  have hpi := hp i l b hx hb;have h5 := zgX b;rw [zkL, hpi] at h5;simp only [zce] at h5;have hnext := hAn i l hx;simp only [zrl] at hnext;have hnx : lets[i] = l := (List.getElem?_eq_some_iff.1 hx).2;have hnb : bs[i] = b := (List.getElem?_eq_some_iff.1 hb).2
  repeat' (first
  | (refine zaf rfl ?_; simp [hx, hb, hlb, hlt, hlen, hnx, hnb])
  | (refine And.intro (by omega) ?_)
  | (refine ⟨hC _ (by kernel_rfl), hk _ (zeI 8 _ _ _ ?_)⟩; clear hC hk C k; simp [hx, hb, hlb, hlt, hlen, hnx, hnb])
  | (refine zeH rfl (by kernel_rfl) (by first | (simp [hn]; done) | (simp [hn]; omega) | fail) fun C k hC hk => ?_; simp [hx, hb, hlb, hlt, hlen, hnx, hnb])
  | (refine CallP.f2 rfl (h5) (by first | simp [hx, hb, hlb, hlt, hlen, hnx, hnb] <;> rfl | fail) ?_; simp [hx, hb, hlb, hlt, hlen, hnx, hnb])
  | fail)
  refine LoopW.next ⟨i + 1, (by omega : i + 1 <= lets.length)⟩ (by simp; omega) ?_
  exact (Wk.ren ((fun i => if i = 0 then 3 else i)) rfl (by first | (simp [hn]; done) | (intro i hi; rw [hn] at hi; constructor <;> (try simp) <;> (try (intro _)) <;> omega)) (by simp [zee, St.lp, zaA, zaa, getK, zac, zad, D.under, D.le, D.ren, hnext, htk] <;> (try (intros; simp_all; done)) <;> (try omega)) (by simp [wkR, St.lp, zaa, getK, zac, zad, obR, leU, zaN, zan, Ob.under, D.under, D.le, D.ren, hnext, htk] <;> (try (intros; simp_all; done)) <;> (try omega)) (by simp [hnext, htk]))
def sx1 : W8 := [112, 111, 116, 32, 45, 32, 112, 97, 105, 100, 32, 42, 32, 53, 48, 32, 112, 101, 114, 32, 109, 105, 108, 108, 101]
def sx2 : W8 := [104, 97, 108, 102, 32, 43, 32, 104, 97, 108, 102]
def sx3 : W8 := [105, 102, 32, 97, 32, 60, 32, 98, 32, 116, 104, 101, 110, 32, 49, 32, 101, 108, 115, 101, 32, 50]
def sx4 : W8 := [97, 32, 97, 110, 100, 32, 98]
def sx5 : W8 := [112, 111, 116, 32, 47, 32, 50]
def sc1 : Code := [⟨1, 0, [112, 111, 116]⟩, ⟨1, 0, [112, 97, 105, 100]⟩, ⟨0, 50, []⟩, ⟨6, 0, []⟩, ⟨3, 0, []⟩, ⟨14, 0, []⟩]
def sc2 : Code := [⟨1, 0, [112, 111, 116]⟩, ⟨0, 2, []⟩, ⟨5, 0, []⟩, ⟨1, 0, [112, 111, 116]⟩, ⟨0, 2, []⟩, ⟨5, 0, []⟩, ⟨2, 0, []⟩, ⟨14, 0, []⟩]
def sc3 : Code := [⟨1, 0, [97]⟩, ⟨1, 0, [98]⟩, ⟨9, 0, []⟩, ⟨13, 6, []⟩, ⟨0, 1, []⟩, ⟨12, 7, []⟩, ⟨0, 2, []⟩, ⟨14, 0, []⟩]
def sc4 : Code := [⟨1, 0, [97]⟩, ⟨13, 6, []⟩, ⟨1, 0, [98]⟩, ⟨11, 0, []⟩, ⟨11, 0, []⟩, ⟨12, 7, []⟩, ⟨0, 0, []⟩, ⟨14, 0, []⟩]
def hf : Let := ⟨[104, 97, 108, 102], (zc6 sx5).1⟩
theorem sp1 : zc6 sx1 = ((zc6 sx1).1, 0, 0) := by kernel_rfl
theorem sp2 : zc6 sx2 = ((zc6 sx2).1, 0, 0) := by kernel_rfl
theorem sp3 : zc6 sx3 = ((zc6 sx3).1, 0, 0) := by kernel_rfl
theorem sp4 : zc6 sx4 = ((zc6 sx4).1, 0, 0) := by kernel_rfl
theorem sp5 : zc6 sx5 = ((zc6 sx5).1, 0, 0) := by kernel_rfl
theorem sq1 : zel [] (zc6 sx1).1 = (sc1, 0) := by kernel_rfl
theorem sq2 : zel [hf] (zc6 sx2).1 = (sc2, 0) := by kernel_rfl
theorem sq3 : zel [] (zc6 sx3).1 = (sc3, 0) := by kernel_rfl
theorem sq4 : zel [] (zc6 sx4).1 = (sc4, 0) := by kernel_rfl
theorem zfv (n : Nat) (h : n < 10) : Lib.itoa (n : Int) = [UInt8.ofNat (48 + n)] := by
 rw [Lib.itoa, if_neg (by omega)];show Lib.decDigits n = _;rw [Lib.decDigits, dif_pos h]
theorem zru : Lib.itoa 50 = [53, 48] := by
 rw [Lib.itoa, if_neg (by decide)];show Lib.decDigits 50 = _;rw [Lib.decDigits, dif_neg (by decide), Lib.decDigits, dif_pos (by decide)];rfl
theorem its : Lib.itoa 0 = [48] /\ Lib.itoa 1 = [49] /\ Lib.itoa 2 = [50] /\ Lib.itoa 5 = [53] /\ Lib.itoa 6 = [54] /\ Lib.itoa 7 = [55] := ⟨zfv 0 (by decide), zfv 1 (by decide), zfv 2 (by decide), zfv 5 (by decide), zfv 6 (by decide), zfv 7 (by decide)⟩
theorem tl1 : zdH sc1 = [110, 97, 109, 101, 32, 112, 111, 116, 10, 110, 97, 109, 101, 32, 112, 97, 105, 100, 10, 110, 117, 109, 32, 53, 48, 10, 115, 99, 97, 108, 101, 10, 115, 117, 98, 10, 101, 110, 100, 10] := by
 have hr : zbO sc1 = true := by kernel_rfl
 rw [zdH, if_pos hr];obtain ⟨i0, i1, i2, i5, i6, i7⟩ := its;simp [zcJ, sc1, ze1, zdd, wordsL, zru, i0, i1, i2, i5, i6, i7]
theorem tl2 : zdH sc2 = [110, 97, 109, 101, 32, 112, 111, 116, 10, 110, 117, 109, 32, 50, 10, 100, 105, 118, 10, 110, 97, 109, 101, 32, 112, 111, 116, 10, 110, 117, 109, 32, 50, 10, 100, 105, 118, 10, 97, 100, 100, 10, 101, 110, 100, 10] := by
 have hr : zbO sc2 = true := by kernel_rfl
 rw [zdH, if_pos hr];obtain ⟨i0, i1, i2, i5, i6, i7⟩ := its;simp [zcJ, sc2, ze1, zdd, wordsL, zru, i0, i1, i2, i5, i6, i7]
theorem tl3 : zdH sc3 = [110, 97, 109, 101, 32, 97, 10, 110, 97, 109, 101, 32, 98, 10, 108, 101, 115, 115, 10, 102, 97, 108, 115, 101, 32, 54, 10, 110, 117, 109, 32, 49, 10, 106, 117, 109, 112, 32, 55, 10, 110, 117, 109, 32, 50, 10, 101, 110, 100, 10] := by
 have hr : zbO sc3 = true := by kernel_rfl
 rw [zdH, if_pos hr];obtain ⟨i0, i1, i2, i5, i6, i7⟩ := its;simp [zcJ, sc3, ze1, zdd, wordsL, zru, i0, i1, i2, i5, i6, i7]
theorem tl4 : zdH sc4 = [110, 97, 109, 101, 32, 97, 10, 102, 97, 108, 115, 101, 32, 54, 10, 110, 97, 109, 101, 32, 98, 10, 110, 111, 116, 10, 110, 111, 116, 10, 106, 117, 109, 112, 32, 55, 10, 110, 117, 109, 32, 48, 10, 101, 110, 100, 10] := by
 have hr : zbO sc4 = true := by kernel_rfl
 rw [zdH, if_pos hr];obtain ⟨i0, i1, i2, i5, i6, i7⟩ := its;simp [zcJ, sc4, ze1, zdd, wordsL, zru, i0, i1, i2, i5, i6, i7]
def sc5 : Code := [⟨0, 5, []⟩, ⟨14, 0, []⟩]
theorem sr5 : zbO sc5 = true := by kernel_rfl
theorem tl5 : zcJ sc5 = [110, 117, 109, 32, 53, 10, 101, 110, 100, 10] := by
 obtain ⟨i0, i1, i2, i5, i6, i7⟩ := its;simp [zcJ, sc5, ze1, zdd, wordsL, i5]
theorem se5 : ze7 [101, 110, 100, 10] = ([], 2) := by kernel_rfl
theorem zlK : Fun Tryz.prog 9 [] (· = .u (.bool true)) := by
 have f1 := zeP [] [] sx1 (zc6 sx1).1 sc1 rfl (by simp) sp1 sq1 (by decide) (by decide);have f2 := zeP [hf] [sx5] sx2 (zc6 sx2).1 sc2 rfl (by
  intro i l b h1 h2;cases i with
  | zero => simp at h1 h2; subst h1 h2; exact sp5
  | succ i => simp at h1) sp2 sq2 (by decide) (by decide)
 have f3 := zeP [] [] sx3 (zc6 sx3).1 sc3 rfl (by simp) sp3 sq3 (by decide) (by decide);have f4 := zeP [] [] sx4 (zc6 sx4).1 sc4 rfl (by simp) sp4 sq4 (by decide) (by decide);rw [tl1] at f1;rw [tl2] at f2;rw [tl3] at f3;rw [tl4] at f4;have g1 := zjn (zcJ sc5) (by rw [tl5]; decide);rw [zkx sr5, tl5] at g1;have g2 := zjn [101, 110, 100, 10] (by decide);rw [se5] at g2;have c1 := zec sc5 (by decide);rw [sr5] at c1;have c2 := zec [] (by decide);rw [show zbO [] = false from rfl] at c2;have s1 := zh6 sc5 sc5;rw [show decide (sc5 = sc5) = true by simp] at s1;simp [zlJ, Vm.inss, sc5, hf, sx1, sx2, sx3, sx4, sx5] at f1 f2 f3 f4 g1 g2 c1 c2 s1;refine Fun.run Tryz.func9 Tryz.ntmps9 Tryz.results9 rfl (by simp) fun Γ hn => ?_
 repeat' (first
  | (refine zaf rfl ?_; simp [zbc, za6, List.range_succ])
  | ((first | refine CallP.f2 rfl (f1) (by first | simp [zbc, za6, List.range_succ] <;> rfl | fail) ?_ | refine CallP.f2 rfl (f2) (by first | simp [zbc, za6, List.range_succ] <;> rfl | fail) ?_ | refine CallP.f2 rfl (f3) (by first | simp [zbc, za6, List.range_succ] <;> rfl | fail) ?_ | refine CallP.f2 rfl (f4) (by first | simp [zbc, za6, List.range_succ] <;> rfl | fail) ?_ | refine CallP.f2 rfl (g1) (by first | simp [zbc, za6, List.range_succ] <;> rfl | fail) ?_ | refine CallP.f2 rfl (g2) (by first | simp [zbc, za6, List.range_succ] <;> rfl | fail) ?_ | refine CallP.f2 rfl (c1) (by first | simp [zbc, za6, List.range_succ] <;> rfl | fail) ?_ | refine CallP.f2 rfl (c2) (by first | simp [zbc, za6, List.range_succ] <;> rfl | fail) ?_ | refine CallP.f2 rfl (s1) (by first | simp [zbc, za6, List.range_succ] <;> rfl | fail) ?_ | fail); simp [zbc, za6, List.range_succ])
  | fail)
 all_goals
  (refine Pst.of ?_; simp)
theorem zok (lets : List Let) (e : Exp) (l : Code) (s : W8) : Fun Tryz.prog 3 [.u (zaz lets), zce e, .u (Vm.inss l), .u (.str s)] (· = .u (.bool true)) := by
 have h0 := zlK;have h1 := zr1 lets e;have h2 := zmd l;generalize (zuo lets 4 30 && zrz e 30) = b1 at *;cases b1 with
 | false =>
  simp only [zaz, zce, Vm.inss] at h1 ⊢;refine Fun.run Tryz.func3 Tryz.ntmps3 Tryz.results3 rfl (by simp) fun Γ hn => ?_
  repeat' (first
  | (refine zaf rfl ?_; simp)
  | ((first | refine CallP.f2 rfl (h0) (by first | simp <;> rfl | fail) ?_ | refine CallP.f2 rfl (h1) (by first | simp <;> rfl | fail) ?_ | fail); simp)
  | fail)
  (refine Pst.of ?_; simp)
 | true =>
 by_cases hf : zsB l = true
 case neg =>
  rw [Bool.not_eq_true] at hf;rw [hf] at h2;simp only [zaz, zce, Vm.inss] at h1 h2 ⊢;refine Fun.run Tryz.func3 Tryz.ntmps3 Tryz.results3 rfl (by simp) fun Γ hn => ?_
  repeat' (first
  | (refine zaf rfl ?_; simp)
  | ((first | refine CallP.f2 rfl (h0) (by first | simp <;> rfl | fail) ?_ | refine CallP.f2 rfl (h1) (by first | simp <;> rfl | fail) ?_ | refine CallP.f2 rfl (h2) (by first | simp <;> rfl | fail) ?_ | fail); simp)
  | fail)
  (refine Pst.of ?_; simp)
 have hl : l.length <= 100 := by
  simp only [zsB, Bool.and_eq_true, decide_eq_true_eq] at hf;exact hf.1
 rw [hf] at h2;by_cases hs : 1500 < s.length
 ·have hs' : (1500 : Int) < s.length := by omega
  simp only [zaz, zce, Vm.inss] at h1 h2 ⊢;refine Fun.run Tryz.func3 Tryz.ntmps3 Tryz.results3 rfl (by simp) fun Γ hn => ?_
  repeat' (first
  | (refine zaf rfl ?_; simp [hs, hs'])
  | ((first | refine CallP.f2 rfl (h0) (by first | simp [hs, hs'] <;> rfl | fail) ?_ | refine CallP.f2 rfl (h1) (by first | simp [hs, hs'] <;> rfl | fail) ?_ | refine CallP.f2 rfl (h2) (by first | simp [hs, hs'] <;> rfl | fail) ?_ | fail); simp [hs, hs'])
  | fail)
  (refine Pst.of ?_; simp)
 have hs' : ¬ (1500 : Int) < s.length := by omega
 have c1 := zh7 lets e;have c2 := zkA lets e;have r1 := zjn s (by omega);have r2 := zo4 s (by omega);have g1 := zec l (by omega);have g2 := zhF l (by omega);have l1 := zjz l (by omega);have l2 := zkp l (by omega);generalize zel lets e = cp at *;generalize ze7 s = rd at *;generalize zdH l = lb at *;obtain ⟨A, ea⟩ := cp;obtain ⟨B, eb⟩ := rd;have s1 := zgw A A;have s2 := zgw B B;have s3 := zgw l A;have s4 := zh6 l A;have s5 := zh6 l l;rw [decide_eq_true rfl] at s1 s2 s5;generalize decide (l = A) = d at *;generalize zbO l = rb at *;simp only [zaz, zce, Vm.inss] at h1 h2 c1 c2 r1 r2 g1 g2 l1 l2 s1 s2 s3 s4 s5 ⊢;refine Fun.run Tryz.func3 Tryz.ntmps3 Tryz.results3 rfl (by simp) fun Γ hn => ?_
 repeat' (first
  | (refine zaf rfl ?_; simp [hs, hs'])
  | ((first | refine CallP.f2 rfl (h0) (by first | simp [hs, hs'] <;> rfl | fail) ?_ | refine CallP.f2 rfl (h1) (by first | simp [hs, hs'] <;> rfl | fail) ?_ | refine CallP.f2 rfl (h2) (by first | simp [hs, hs'] <;> rfl | fail) ?_ | refine CallP.f2 rfl (c1) (by first | simp [hs, hs'] <;> rfl | fail) ?_ | refine CallP.f2 rfl (c2) (by first | simp [hs, hs'] <;> rfl | fail) ?_ | refine CallP.f2 rfl (r1) (by first | simp [hs, hs'] <;> rfl | fail) ?_ | refine CallP.f2 rfl (r2) (by first | simp [hs, hs'] <;> rfl | fail) ?_ | refine CallP.f2 rfl (g1) (by first | simp [hs, hs'] <;> rfl | fail) ?_ | refine CallP.f2 rfl (g2) (by first | simp [hs, hs'] <;> rfl | fail) ?_ | refine CallP.f2 rfl (l1) (by first | simp [hs, hs'] <;> rfl | fail) ?_ | refine CallP.f2 rfl (l2) (by first | simp [hs, hs'] <;> rfl | fail) ?_ | refine CallP.f2 rfl (s1) (by first | simp [hs, hs'] <;> rfl | fail) ?_ | refine CallP.f2 rfl (s2) (by first | simp [hs, hs'] <;> rfl | fail) ?_ | refine CallP.f2 rfl (s3) (by first | simp [hs, hs'] <;> rfl | fail) ?_ | refine CallP.f2 rfl (s4) (by first | simp [hs, hs'] <;> rfl | fail) ?_ | refine CallP.f2 rfl (s5) (by first | simp [hs, hs'] <;> rfl | fail) ?_ | fail); simp [hs, hs'])
  | fail)
 (refine Pst.of ?_; simp)
end Go.Proofs.YtkdhmbhbbciedaaGreatDoor
