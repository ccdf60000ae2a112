import Derived.Test.YtepiegcjnaohjaaGreatDoorJ5
import Derived.Lib.ItoaNum
set_option linter.all false
set_option maxRecDepth 100000
set_option maxHeartbeats 8000000
namespace Go.Proofs.YtepiegcjnaohjaaGreatDoor
open Go Go.VL
def zkL (l : List Lw) : List (List D) := l.map fun x => [.u (.int .i64 x.mark), .u (.int .i64 x.base), .u (.str x.text)]
theorem zaE (l : List Lw) : (zkL l).length = l.length := by simp [zkL]
theorem zkc (l : List Lw) : rowsD (l.map fun x => [U.int .i64 x.mark, .int .i64 x.base, .str x.text]) = zkL l := by simp [rowsD, zkL, Function.comp_def]
theorem zaF (l : List Lw) : zcg (zkL l) = some (l.map fun x => [U.int .i64 x.mark, .int .i64 x.base, .str x.text]) := by rw [<- zkc]; simp
theorem zbY (l) : zaX (zkL l) = True := by rw [<- zkc]; simp
theorem zbE (n : Nat) (l) : (∀ x ∈ zkL l, ∀ y ∈ x, D.under n y = true) ↔ True := by
 refine ⟨fun _ => trivial, fun _ x hx y hy => ?_⟩;obtain ⟨b, _, rfl⟩ := List.mem_map.1 hx;simp at hy;rcases hy with rfl | rfl | rfl <;> simp [D.under]
theorem zoo (l : List Lw) : zh2 3 (zkL l) := fun r hr => by obtain ⟨t, _, rfl⟩ := List.mem_map.1 hr; rfl
theorem zon (l : List Lw) (x : Lw) : zkL l ++ [[.u (.int .i64 x.mark), .u (.int .i64 x.base), .u (.str x.text)]] = zkL (l ++ [x]) := by simp [zkL]
def zlf (l : List Lw) (n : Int) : Bool := decide ((l.length : Int) <= n) && l.all fun x => decide (x.text.length <= 500)
theorem zoJ {l : List Lw} {n : Int} (h : zlf l n = true) : (l.length : Int) <= n /\ ∀ x ∈ l, x.text.length <= 500 := by
 simp only [zlf, Bool.and_eq_true, decide_eq_true_eq, List.all_eq_true] at h;exact h
end Go.Proofs.YtepiegcjnaohjaaGreatDoor
namespace Go.Proofs.YtepiegcjnaohjaaGreatDoor.Df
open Go Go.VL
attribute [local simp] HS zdf zcf evPure opd uOf zaI St.put St.at getK binD binI binS binB nilD aggD zgQ zhI lookD lookR zcE Go.VL.nextD zcI zhV zhU zfX zb8 mkV zbo zbh zbf zbe zda zbb zbx zbJ mapEff zdm zfI Key.kk shiftI arith unD convD zdP loadD cellsAt fieldAddrD fieldD indexAddrD indexD sliceD cutD lenD minmaxD nilCheckD buildD fillD zb3 zdi zeX setAll zc1 zeI zcD zg3 zcy St.add zaO zbU rowsOf zdJ zcJ zam zac zaa zbm zcS zaN entry zbH zbL valD zcb zcp zgK zdr zds zcc zbN zaz za1 zbn delAll effD St.effS zc7 zbi za3 zc8 zbj za5 zcn za4 zaT zco zc4 zbM zcl zbw zcj zck zaY mkD zbq zbG zb0 zaz zcC D.ids Op.operands Call.operands zby makeIfD makeFuncD typeAssertD zhG zdG zdH zhb zcG IntKind.bits zcg zaS List.take_of_length_le List.range_succ
attribute [local irreducible] V G H HD HD2 HD4 znh RetX zan Eff CallP CallV EndOK Fun Ret FinOK LoopI LoopW EndW
theorem zjb (m : Nat) (l : List Con) (bg : Nat -> Bool) (begin_ : List Int) (hm : m <= 200) (hl : OkC m l) (hll : l.length <= 2000) (hbg : ∀ x, x ∈ begin_ ↔ 0 <= x /\ x < m /\ bg x.toNat = true) (hbl : begin_.length <= 1000) :
  Ret Tryz.prog 78 [.u (consU l), .u (.int .i64 m), .u (ints begin_)] [] 0 fun d obs nx' => d = .ptr 5 0 /\ nx' = 6 /\
   obs = [(5, .box [.u (consU l), .u (.sl ((List.range m).map fun v => [ints (zgN (zcL l v))])), .vec 1 m, .vec 3 m, .vec 4 m]), (1, .vec 3 1 (zbs (lst m (GS.zero bg).val))), (3, .vec 3 1 (zbs (lst m (zhY (-1) (GS.zero bg))))), (4, .vec 4 1 (zdq (bst m (GS.zero bg).kn)))] := by
 simp only [consU, ints]
 skip
 (refine Ret.of_bodyW Tryz.func78 rfl (by simp) fun Γ hn => ?_); simp only [entry, ziC, ziN, maC, maN, oA, Tryz.ntmps78]
 have k0 : zbs [-1] = [[D.u (.int .i64 (-1))]] := rfl
 repeat' (first
  | (refine zph [(2, .vec 3 1 (zbs [-1]))] ⟨[], some (.vec 3 1 (zbs (List.replicate m (-1)))), .vec m⟩ (.vec 3 1 (zbs (List.replicate m (-1)))) (fun nx' h' => zpz 2 nx' m (-1) (by omega)) ⟨rfl, rfl⟩ (by rfl) (by first | assumption | (simp; done) | fail) (by rfl) (by first | (simp [k0, zao, zaa, getK, zab, zac, zam, zaY, del]; done) | fail) (by first | (simp [k0, zao, D.under, Ob.under, zad]; done) | fail) (by simp) ?_; (try simp [k0, zao]))
  | ((first | refine zag ?_ | refine zbW rfl ?_ | refine zdt rfl ?_ | refine zaj ?_ | fail); simp [k0, zao])
  | (refine ⟨by omega, ?_⟩)
  | (refine zah ?_; simp [k0, zao])
  | (refine zcu (hC _ (by kernel_rfl)) (hk _ ?_); clear hC hk C k; simp only [zan])
  | (refine zbV rfl (by kernel_rfl) (by first | (simp [hn]; done) | (simp [hn]; omega) | fail) fun C k hC hk => ?_; simp [k0, zao])
  | (refine zaA ?_; simp [k0, zao])
  | fail)
 refine zlt { n := 64, env := [(26, .u (.int .i64 0)), (25, .u (.int .i64 l.length)), (24, .u (.sl (l.map fun c => [.int .i64 c.A, .int .i64 c.B, .int .i64 c.N]))), (7, .ptr 5 0), (2, .u (.sl (begin_.map fun n => [.int .i64 n])))], obs := (0, .vec 26 1 (List.replicate m [.u .nil])) :: [(5, .box [.u (.sl (l.map fun c => [.int .i64 c.A, .int .i64 c.B, .int .i64 c.N])), .vec 0 m, .vec 1 m, .vec 3 m, .vec 4 m]), (1, .vec 3 1 (zbs (lst m (GS.zero bg).val))), (3, .vec 3 1 (zbs (lst m (zhY (-1) (GS.zero bg))))), (4, .vec 4 1 (zdq (List.replicate m false)))], next := 6 } ?_ ?_
 ·have q1 := zpm m bg;have q2 : List.replicate m (-1 : Int) = lst m (zhY (-1) (GS.zero bg)) := by rw [zn4]; rfl
  have q3 := zpY m 0;have q4 := zoY m false;have q5 : (∀ x ∈ List.replicate m [D.u .nil], ∀ y ∈ x, D.under 6 y = true) ↔ True := ⟨fun _ => trivial, fun _ x hx y hy => by rw [List.eq_of_mem_replicate hx] at hy; simp at hy; subst hy; simp [D.under]⟩;exact (Wk.cut rfl (by simp [hn, St.lp]) (by simp [wkO, zgS, zcs, zct, zcN, zeE, St.lp, zaa, getK, Ob.under, D.under, zad, zae, zav, zao, zaw, zau, q1, q2, q3, q4, q5]) (by simp [wkU, St.lp, zal, zaa, getK, D.under, zav, zao, zaw, zau, q1, q2, q3, q4, q5]) (by simp [wkE, St.lp, zal, zaa, getK, zav, zao, zaw, zau, q1, q2, q3, q4, q5] <;> (try (intros; simp_all; done)) <;> (try (intros; omega)) <;> (try grind)))
 refine zlt _ (Wk.zrP 0 26 3 1 m (by decide) [(5, _), (1, _), (3, _), (4, _)] (by simp) (by simp) rfl) ?_;simp only [zoi l m, zoI l m, List.cons_append, List.nil_append];rw [show 6 + m = m + 6 from Nat.add_comm 6 m];refine zb4 (α := { k : Nat // k <= l.length }) [2, 7, 24, 25] (fun k => [(26, .u (.int .i64 k.1))])
  (fun k => (0, .vec 26 1 (idF 6 (zkb l m k.1))) :: (5, .box [.u (.sl (l.map fun c => [.int .i64 c.A, .int .i64 c.B, .int .i64 c.N])), .vec 0 m, .vec 1 m, .vec 3 m, .vec 4 m]) :: (1, .vec 3 1 (zbs (lst m (GS.zero bg).val))) :: (3, .vec 3 1 (zbs (lst m (zhY (-1) (GS.zero bg))))) :: (4, .vec 4 1 (zdq (List.replicate m false))) :: fam 6 (zlX l m k.1)) (m + 6) (fun k => l.length - k.1) ⟨0, by omega⟩ ?_ ?_
 ·exact (Wk.cut rfl (by simp [hn, St.lp]) (by simp [wkO, zgS, zcs, zct, zcN, zeE, St.lp, zaa, getK, Ob.under, D.under, zad, zae, zav, zao, zaw, zau, zf1, zf0, zfg, zgr]) (by simp [wkU, St.lp, zal, zaa, getK, D.under, zav, zao, zaw, zau, zf1, zf0, zfg, zgr]) (by simp [wkE, St.lp, zal, zaa, getK, zav, zao, zaw, zau, zf1, zf0, zfg, zgr] <;> (try (intros; simp_all; done)) <;> (try (intros; omega)) <;> (try grind)))
 rintro ⟨k, hk⟩;simp [St.lp, St.only, zal, zaa, getK];rcases hx : l[k]? with _ | c
 ·have hge : l.length <= k := by simpa using hx
  obtain rfl : k = l.length := by omega
  repeat' (first
  | ((first | refine zag ?_ | refine zaj ?_ | refine zah ?_ | refine zaA ?_ | fail); simp [hx])
  | (refine zaZ ?_; simp [zan])
  | fail)
  have hus : (((List.range m).map fun v => (zgN (zcL l v)).map fun z => [U.int .i64 z]).map fun r => Ob.vec 3 1 (rowsD r)) = zlX l m l.length := by
   simp only [zlX, List.map_map];refine List.map_congr_left fun v _ => ?_;simp only [Function.comp];rw [<- List.map_map, zkf, ziF]
  have hls : (((List.range m).map fun v => (zgN (zcL l v)).map fun z => [U.int .i64 z]).map (·.length)) = zkb l m l.length := by
   simp only [zkb, List.map_map];refine List.map_congr_left fun v _ => ?_;simp [Function.comp, ziF]
  refine zlt _ (Wk.zrQ 0 6 26 3 1 ((List.range m).map fun v => (zgN (zcL l v)).map fun z => [U.int .i64 z]) [(5, _), (1, _), (3, _), (4, _)] (by omega) (by simp [zqX]) (by simp) (by rw [hus, hls]; rfl)) ?_;refine zlt _ (Wk.frz 0 [5] (us := ((List.range m).map fun v => (zgN (zcL l v)).map fun z => [U.int .i64 z]).map fun r => [U.sl r]) rfl (by simp)) ?_;simp [St.frz, St.frzS, frzS, fv, zaV, frzObS, del];have hfu : List.map ((fun r => [U.sl r]) ∘ fun v => List.map ((fun z => [U.int .i64 z]) ∘ Int.ofNat) (zcL l v)) (List.range m) = (List.range m).map fun v => [ints (zgN (zcL l v))] := by simp [ints, Function.comp_def]
  rw [hfu];have hk0 : List.replicate m false = bst m fun x => decide ((x : Int) ∈ begin_.take 0) := by rw [zrM]; simp
  refine zb4 (α := { k : Nat // k <= begin_.length }) [7, 50, 51] (fun k => [(52, .u (.int .i64 k.1))])
   (fun k => [(5, .box [.u (.sl (l.map fun c => [.int .i64 c.A, .int .i64 c.B, .int .i64 c.N])), .u (.sl ((List.range m).map fun v => [ints (zgN (zcL l v))])), .vec 1 m, .vec 3 m, .vec 4 m]), (1, .vec 3 1 (zbs (lst m (GS.zero bg).val))), (3, .vec 3 1 (zbs (lst m (zhY (-1) (GS.zero bg))))), (4, .vec 4 1 (zdq (bst m fun x => decide ((x : Int) ∈ begin_.take k.1))))]) 6 (fun k => begin_.length - k.1) ⟨0, by omega⟩ ?_ ?_
  ·exact (Wk.cut rfl (by simp [hn, St.lp]) (by simp [wkO, zgS, zcs, zct, zcN, zeE, St.lp, zaa, getK, Ob.under, D.under, zad, zae, zav, zao, zaw, zau, hk0]) (by simp [wkU, St.lp, zal, zaa, getK, D.under, zav, zao, zaw, zau, hk0]) (by simp [wkE, St.lp, zal, zaa, getK, zav, zao, zaw, zau, hk0] <;> (try (intros; simp_all; done)) <;> (try (intros; omega)) <;> (try grind)))
  rintro ⟨k, hk⟩;simp [St.lp, St.only, zal, zaa, getK];rcases hv : begin_[k]? with _ | v
  ·have hge : begin_.length <= k := by simpa using hv
   have hfin : bst m (fun x => decide ((x : Int) ∈ begin_.take k)) = bst m (GS.zero bg).kn := by
    rw [List.take_of_length_le hge];unfold bst;refine List.map_congr_left fun x hx' => ?_;have hxm := List.mem_range.1 hx';have := hbg (x : Int);simp only [Int.toNat_natCast] at this;rw [Bool.eq_iff_iff, decide_eq_true_iff, this];simp only [GS.zero];exact ⟨fun h => h.2.2, fun h => ⟨by omega, by omega, h⟩⟩
   rw [hfin]
   repeat' (first
  | ((first | refine zag ?_ | refine zaj ?_ | fail); simp [hv])
  | (refine ⟨by omega, ?_⟩)
  | (refine zah ?_; simp [hv])
  | (refine zar ?_; simp only [zan])
  | (refine zaZ ?_; simp [zan])
  | (intro hc <;> (try (exfalso; omega)))
  | fail)
   refine EndW.here ?_
   (first | (refine EndOK.fin (.inr rfl) ?_) | (refine EndOK.fin (.inl rfl) ?_)); simp [zaK, zaf, Tryz.results78]
   refine FinOK.here (by simp) ⟨rfl, rfl, ?_⟩;simp [ints]
  ·have hlt : k < begin_.length := (lGE.1 hv).1;have htk := zdL hv;obtain ⟨hv0, hvm, _⟩ := (hbg v).1 (List.mem_of_getElem? hv);obtain ⟨V, rfl⟩ := Int.eq_ofNat_of_zero_le hv0;have hVm : V < m := by omega
   have hst : bst m (fun j => decide (j = V) || decide ((j : Int) ∈ begin_.take k)) = bst m fun j => decide ((j : Int) ∈ begin_.take (k + 1)) := by
    unfold bst;refine List.map_congr_left fun x _ => ?_;rw [htk, Bool.eq_iff_iff];simp only [Bool.or_eq_true, decide_eq_true_eq, List.mem_append, List.mem_singleton];constructor
    ·rintro (h | h)
     ·exact .inr (by omega)
     ·exact .inl h
    ·rintro (h | h)
     ·exact .inr h
     ·exact .inl (by omega)
   repeat' (first
  | ((first | refine zag ?_ | refine zaj ?_ | fail); simp [hv, hVm, zbl, za2, zbQ, zb1, zbD, zcV, hst])
  | (refine ⟨by omega, ?_⟩)
  | ((first | refine zah ?_ | refine zaq ?_ | fail); simp [hv, hVm, zbl, za2, zbQ, zb1, zbD, zcV, hst])
  | (refine zap ?_; simp only [zan])
  | (refine ⟨?_, by omega⟩)
  | (intro hc <;> (try (exfalso; omega)))
  | fail)
   refine LoopW.next ⟨k + 1, by omega⟩ (by simp; omega) ?_
   exact (Wk.cut rfl (by simp [hn, St.lp]) (by simp [wkO, zgS, zcs, zct, zcN, zeE, St.lp, zaa, getK, Ob.under, D.under, zad, zae, zav, zao, zaw, zau]) (by simp [wkU, St.lp, zal, zaa, getK, D.under, zav, zao, zaw, zau]) (by simp [wkE, St.lp, zal, zaa, getK, zav, zao, zaw, zau] <;> (try (intros; simp_all; done)) <;> (try (intros; omega)) <;> (try grind)))
 ·have hlt : k < l.length := (lGE.1 hx).1;have hcl := hl c (List.mem_of_getElem? hx);have hls := zpN (m := m) hx;have hfs := zp6 (m := m) hx;have hlen := zm1 l k c.b;obtain ⟨A, B, N⟩ := c;simp only at hcl;obtain ⟨ha0, han, hb0, hbn, hN1, hN2⟩ := hcl;obtain ⟨b, rfl⟩ := Int.eq_ofNat_of_zero_le hb0;simp only [Con.b, Int.toNat_natCast] at hls hfs hlen;have hbm : b < m := by omega
  have hbne : ¬ b = m := by omega
  have hbne2 : ¬ m = b := by omega
  have hbne3 : ¬ b = m + 1 := by omega
  have hbne4 : ¬ b = m + 2 := by omega
  have hbne5 : ¬ m + 1 = b := by omega
  have hbne6 : ¬ m + 2 = b := by omega
  have hrow : ∀ h : b < (idF 6 (zkb l m k)).length, (idF 6 (zkb l m k))[b]'h = [D.vec (b + 6) (zcY l k b).length] := fun h => by
   have := zjh 6 (zkb l m k) b _ (zpO l hbm);rw [List.getElem?_eq_getElem h] at this;exact Option.some.inj this
  have hget : getK (fam 6 (zlX l m k)) (b + 6) = some (.vec 3 1 (zbs (zgN (zcY l k b)))) := by rw [ze4, zp7 l hbm]
  have hil := zgs 6 (zkb l m k);rw [zfg] at hil;have q7 : zbs (zgN (zcY l k b)) ++ [[D.u (.int .i64 (k : Int))]] = zbs (zgN (zcY l k b ++ [k])) := by simp [zbs]
  have q8 := zdU (zgN (zcY l k b))
  skip
  repeat' (first
  | ((first | refine zag ?_ | refine zbW rfl ?_ | refine zdt rfl ?_ | refine zaj ?_ | fail); simp [hx, hrow, hget, hil, hbm, hbne, hbne2, hbne3, hbne4, hbne5, hbne6, zaH, q7, q8, List.length_map, zcN, zfn])
  | (refine ⟨by omega, ?_⟩)
  | (refine zah ?_; simp [hx, hrow, hget, hil, hbm, hbne, hbne2, hbne3, hbne4, hbne5, hbne6, zaH, q7, q8, List.length_map, zcN, zfn])
  | (refine zcu (hC _ (zdu [0, 5, m + 6, b + 6] (m + 7) (by simp <;> omega) (by simp <;> omega) (by apply Exists.intro; apply And.intro; (focus (repeat' (first | exact KF.nil | exact KL.nil | apply KF.cons | apply KL.cons 0 rfl | apply KL.cons 1 rfl | apply KL.cons 2 rfl | apply KL.cons 3 rfl | apply KL.cons 4 rfl | apply KL.cons 5 rfl | apply KL.cons 6 rfl | apply KL.cons 7 rfl | apply KL.cons 8 rfl | apply KL.cons 9 rfl))); kernel_rfl))) (hk _ ?_); clear hC hk C k; simp only [zan])
  | (refine zbV rfl (by kernel_rfl) (by first | (simp [hn]; done) | (simp [hn]; omega) | fail) fun C k hC hk => ?_; simp [hx, hrow, hget, hil, hbm, hbne, hbne2, hbne3, hbne4, hbne5, hbne6, zaH, q7, q8, List.length_map, zcN, zfn])
  | (refine zaq ?_; simp [hx, hrow, hget, hil, hbm, hbne, hbne2, hbne3, hbne4, hbne5, hbne6, zaH, q7, q8, List.length_map, zcN, zfn])
  | (refine zap ?_; simp only [zan])
  | (refine ⟨?_, by omega⟩)
  | (intro hc <;> (try (exfalso; omega)))
  | fail)
  refine LoopW.next ⟨k + 1, by omega⟩ (by simp; omega) ?_
  simp only [<- hls, <- hfs];refine Wk.zsM 0 6 (m + 6 + 1 + 1) b 26 ((zcY l k b).length + 1) (zkb l m k) _ rfl (by simp [hn]) (by simp [hn]) (by simp only; omega) (by omega) (by rw [zfg]; exact hbm) (by rw [zfg]; exact Nat.le_refl _) ?_ rfl ?_ ?_
  ·simp [zaa, zac, zam]
  ·simp [zhW, zeU, St.lp, zal, zaa, getK, D.under, D.le, D.ren]
  ·simp only [wkR];refine ⟨?_, ?_, ?_, ?_, znk (fun q hq1 hq2 => ?_) (zf0 l m k) (fun o ho => ?_) (by rw [zf1]; exact Nat.le_refl _) ?_⟩
   ·simp [zeU, zaa, zac, zam, obR, leU, D.under, D.le, D.ren]
   ·simp [zeU, zaa, zac, zam, obR, zav]
   ·simp [zeU, zaa, zac, zam, obR, zav]
   ·simp [zeU, zaa, zac, zam, obR, zaw]
   ·rw [zf1] at hq2;have w1 : ¬ q = m + 2 := by omega
    have w2 : ¬ q = m + 1 := by omega
    have w3 : ¬ q = m := by omega
    simp [zaa, zac, zam, w1, w2, w3, hq1, ze4]
   ·simp at ho;subst ho;exact ⟨_, _, _, rfl, zav _⟩
   ·simp [zaa, zac, zam]
set_option maxHeartbeats 16000000 in
theorem zrj (m : Nat) (l : List Con) (bg : Nat -> Bool) (begin_ : List Int) (gF : GS) (ret : Int) (hm : m <= 200) (hl : OkC m l) (hll : l.length <= 2000) (hK : (m + 1) * (m * l.length) <= 3000000) (hbl : begin_.length <= m)
  (hbg : ∀ x, x ∈ begin_ ↔ 0 <= x /\ x < m /\ bg x.toNat = true) (hF : zpk zgM l (m + 1) (GS.zero bg) begin_ = (gF, ret)) :
  Ret Tryz.prog 80 [.ptr 5 0, .u (ints begin_)] (zqU l m (GS.zero bg)) 6 fun d obs nx' => d = .u (.int .i64 ret) /\ obs = zqU l m gF /\ nx' = 6 := by
 have hcl := zoR begin_ (by omega);simp only [zqU, consU, ints] at hcl ⊢
 (refine Ret.of_bodyW Tryz.func80 rfl (by simp) fun Γ hn => ?_); simp only [entry, ziC, ziN, maC, maN, oA, Tryz.ntmps80]
 repeat' (first
  | ((first | refine zag ?_ | refine zaj ?_ | fail); simp [zaH, zbd])
  | (refine ⟨by omega, ?_⟩)
  | ((first | refine zah ?_ | refine zaA ?_ | fail); simp [zaH, zbd])
  | (refine CallP.fE (hcl) (by first | rfl | fail) (by first | simp [zaH, zbd] <;> rfl | fail) ?_; (try simp [zaH, zbd]))
  | fail)
 refine zb4 (α := { s : Nat × GS × List Int // s.1 <= m + 1 /\ s.2.2.length <= m /\ (s.1 = m + 1 -> s.2.2 ≠ []) /\ (∃ t L, t <= s.1 * (m * l.length) /\ PI m l bg s.1 s.2.2 t s.2.1 L) /\ zpk zgM l (m + 1 - s.1) s.2.1 s.2.2 = (gF, ret) }) [0, 20]
  (fun s => [(5, .u (.sl (s.1.2.2.map fun n => [U.int .i64 n]))), (21, .u (.int .i64 s.1.1))])
  (fun s => [(5, .box [.u (.sl (l.map fun c => [.int .i64 c.A, .int .i64 c.B, .int .i64 c.N])), .u (.sl ((List.range m).map fun v => [.sl ((zgN (zcL l v)).map fun n => [.int .i64 n])])), .vec 1 m, .vec 3 m, .vec 4 m]), (1, .vec 3 1 (zbs (lst m s.1.2.1.val))), (3, .vec 3 1 (zbs (lst m (zhY (-1) s.1.2.1)))), (4, .vec 4 1 (zdq (bst m s.1.2.1.kn)))]) 6 (fun s => m + 1 - s.1.1)
  ⟨(0, GS.zero bg, begin_), by omega, hbl, by simp, ⟨0, fun _ => 0, by simp, PI.zero hl hbg⟩, hF⟩ ?_ ?_
 ·exact (Wk.cut rfl (by simp [hn, St.lp]) (by simp [wkO, St.lp, zaa, getK, Ob.under, D.under, zad, zae, zav, zao, zaw, zau]) (by simp [wkU, St.lp, zal, zaa, getK, D.under, zav, zao, zaw, zau]) (by simp [wkE, St.lp, zal, zaa, getK, zav, zao, zaw, zau] <;> (try (intros; simp_all; done)) <;> (try (intros; omega)) <;> (try grind)))
 rintro ⟨⟨r, g, todo⟩, hr, htl, hrt, ⟨t, L, ht, hPI⟩, hfin⟩;simp only at hr htl hrt ht hPI hfin;simp [St.lp, St.only, zal, zaa, getK];by_cases hrm : r = m + 1
 ·subst hrm;have hne := hrt rfl;rw [Nat.sub_self, zpk] at hfin;cases todo with
  | nil => exact absurd rfl hne
  | cons v todo =>
   simp only [List.headD_cons, Prod.mk.injEq] at hfin;obtain ⟨rfl, rfl⟩ := hfin
   repeat' (first
  | ((first | refine zag ?_ | refine zaj ?_ | refine zah ?_ | fail); simp)
  | (refine zar ?_; simp only [zan])
  | (refine zaZ ?_; simp [zan])
  | fail)
   refine EndW.here ?_
   (first | (refine EndOK.fin (.inr rfl) ?_) | (refine EndOK.fin (.inl rfl) ?_)); simp [zaK, zaf, Tryz.results80]
   exact FinOK.here (by simp) ⟨rfl, rfl, rfl⟩
 have hrlt : (r : Int) < (m : Int) + 1 := by omega
 obtain ⟨f, hf⟩ : ∃ f, m + 1 - r = f + 1 := ⟨m - r, by omega⟩;rw [hf, zpk] at hfin
 repeat' (first
  | ((first | refine zag ?_ | refine zaj ?_ | refine zah ?_ | refine zaA ?_ | fail); simp [hrlt])
  | (refine zap ?_; simp only [zan])
  | fail)
 refine zlt _ (Wk.own 6 3 1 (by decide) rfl) ?_;simp [St.own];have hk2 : r * (m * l.length) + m * l.length <= (m + 1) * (m * l.length) := by rw [<- Nat.succ_mul]; exact Nat.mul_le_mul_right _ (by omega)
 have hk3 : todo.length * l.length <= m * l.length := Nat.mul_le_mul_right _ htl;obtain ⟨S2, hS2⟩ : ∃ S2 : Nat -> GS × List Int, S2 = fun p => (todo.take p).foldl (zif l) (g, []) := ⟨_, rfl⟩;have hS20 : S2 0 = (g, []) := by rw [hS2]; rfl
 refine zb4 (α := { p : Nat // p <= todo.length }) [0, 5, 20, 21, 23, 24] (fun p => [(6, .vec 6 (S2 p.1).2.length), (25, .u (.int .i64 p.1))])
  (fun p => [(6, .vec 3 1 (zbs (S2 p.1).2)), (5, .box [.u (.sl (l.map fun c => [.int .i64 c.A, .int .i64 c.B, .int .i64 c.N])), .u (.sl ((List.range m).map fun v => [.sl ((zgN (zcL l v)).map fun n => [.int .i64 n])])), .vec 1 m, .vec 3 m, .vec 4 m]), (1, .vec 3 1 (zbs (lst m (S2 p.1).1.val))), (3, .vec 3 1 (zbs (lst m (zhY (-1) (S2 p.1).1)))), (4, .vec 4 1 (zdq (bst m (S2 p.1).1.kn)))]) 7 (fun p => todo.length - p.1) ⟨0, by omega⟩ ?_ ?_
 ·exact (Wk.cut rfl (by simp [hn, St.lp]) (by simp [wkO, St.lp, zaa, getK, Ob.under, D.under, zad, zae, zav, zao, zaw, zau, hS20, zbs]) (by simp [wkU, St.lp, zal, zaa, getK, D.under, zav, zao, zaw, zau, hS20, zbs]) (by simp [wkE, St.lp, zal, zaa, getK, zav, zao, zaw, zau, hS20, zbs] <;> (try (intros; simp_all; done)) <;> (try (intros; omega)) <;> (try grind)))
 rintro ⟨p, hp⟩;simp [St.lp, St.only, zal, zaa, getK];obtain ⟨L2, u, hPM⟩ := hPI.take hl p hp;have hpl : p * l.length <= todo.length * l.length := Nat.mul_le_mul_right _ hp;have hS2p : (todo.take p).foldl (zif l) (g, []) = S2 p := by rw [hS2]
 rw [hS2p] at hPM;rcases hv : todo[p]? with _ | v
 ·have hge : todo.length <= p := by simpa using hv
  obtain rfl : p = todo.length := by omega
  have hrd : S2 todo.length = zeK l g todo := by rw [hS2]; simp only [List.take_length]; rfl
  rw [hrd] at hPM ⊢;rw [List.drop_length] at hPM;rcases hq : zeK l g todo with ⟨g', nx⟩
  rw [hq] at hfin hPM;simp only at hfin;have hnl := hPM.len;simp only at hnl;by_cases hnx : nx = []
  ·subst hnx;simp only [if_true, Prod.mk.injEq] at hfin;obtain ⟨rfl, rfl⟩ := hfin
   repeat' (first
  | ((first | refine zag ?_ | refine zaj ?_ | refine zah ?_ | refine zai ?_ | fail); simp [hv])
  | (refine zar ?_; simp only [zan])
  | (refine zaZ ?_; simp [zan])
  | fail)
   refine EndW.wk { n := _, env := [(4, .u (.int .i64 (-1)))], obs := [(5, .box [.u (.sl (l.map fun c => [.int .i64 c.A, .int .i64 c.B, .int .i64 c.N])), .u (.sl ((List.range m).map fun v => [.sl ((zgN (zcL l v)).map fun n => [.int .i64 n])])), .vec 1 m, .vec 3 m, .vec 4 m]), (1, .vec 3 1 (zbs (lst m g'.val))), (3, .vec 3 1 (zbs (lst m (zhY (-1) g')))), (4, .vec 4 1 (zdq (bst m g'.kn)))], next := 6 } (Wk.cut rfl (by simp [hn, St.lp]) (by simp [wkO, St.lp, zaa, getK, Ob.under, D.under, zad, zae, zav, zao, zaw, zau]) (by simp [wkU, St.lp, zal, zaa, getK, D.under, zav, zao, zaw, zau]) (by simp [wkE, St.lp, zal, zaa, getK, zav, zao, zaw, zau] <;> (try (intros; simp_all; done)) <;> (try (intros; omega)) <;> (try grind))) (EndW.here ?_)
   (first | (refine EndOK.fin (.inr rfl) ?_) | (refine EndOK.fin (.inl rfl) ?_)); simp [zaK, zaf, Tryz.results80]
   exact FinOK.here (by simp) ⟨rfl, rfl, rfl⟩
  ·rw [if_neg hnx] at hfin;have hsl : (zft nx).length = nx.length := by simp [zft]
   have hnz : ¬ nx.length = 0 := fun h => hnx (List.eq_nil_of_length_eq_zero h);have hsr := zpv 3 6 7 (by omega) nx (by omega);have hcr := zlk 3 6 7 (by omega) (zft nx) (by omega);rw [hsl] at hcr;have hcle : (Lib.compact (zft nx)).length <= nx.length := by rw [<- hsl]; exact Lib.compact_length_le _
   have hcsl := zky (zft nx);rw [hsl] at hcsl;have htake : (zlm (zft nx)).take (Lib.compact (zft nx)).length = zgM nx := by rw [zlm, List.take_left' rfl]; rfl
   repeat' (first
  | ((first | refine zag ?_ | refine zaj ?_ | fail); simp [hv, hnz, hnx, zaH, hcsl, hcle, del, zab])
  | (refine ⟨by omega, ?_⟩)
  | ((first | refine zah ?_ | refine zai ?_ | refine zaq ?_ | fail); simp [hv, hnz, hnx, zaH, hcsl, hcle, del, zab])
  | (refine zap ?_; simp only [zan])
  | (refine zaZ ?_; simp [zan])
  | (refine CallP.ztX (hsr) (by simp [getK]) (by rfl) (by first | assumption | simp) (by rfl) (by simp) ?_; rintro d o n' hn' ⟨rfl, rfl, rfl⟩; (try simp at hn'); (try simp [hv, hnz, hnx, zaH, hcsl, hcle, del, zab]))
  | (refine CallP.ztX (hcr) (by simp [getK]) (by rfl) (by first | assumption | simp) (by rfl) (by simp) ?_; rintro d o n' hn' ⟨rfl, rfl, rfl⟩; (try simp at hn'); (try simp [hv, hnz, hnx, zaH, hcsl, hcle, del, zab]))
  | fail)
   have hmt : ((zlm (zft nx)).map fun z => [U.int .i64 z]).take (Lib.compact (zft nx)).length = (zgM nx).map fun z => [U.int .i64 z] := by rw [<- List.map_take, htake]
   have hnn : zgM nx ≠ [] := fun e => by
    obtain ⟨x, hx⟩ := List.exists_mem_of_ne_nil _ hnx;have := (zee nx x).2 hx;rw [e] at this;cases this
   refine LoopW.next ⟨(r + 1, g', zgM nx), by simp only; omega, zj6 nx fun x hx => let ⟨a, b, _⟩ := hPM.nx x hx; ⟨a, b⟩, fun _ => hnn, ⟨t + todo.length * l.length, L2, by simp only; rw [Nat.succ_mul]; omega, hPM.fin fun x => zee nx x⟩, by simp only; rw [show m + 1 - (r + 1) = f by omega]; exact hfin⟩ (by simp; omega) ?_
   refine (Wk.frz (e := 3) (sz := 1) 6 [] (us := (zlm (zft nx)).map fun z => [U.int .i64 z]) (by simp [zaa]) (zd2 _)).trans ?_;simp only [St.frz, St.frzS, frzS, fv, zaV, frzObS, List.map_cons, List.map_nil];exact (Wk.cut rfl (by simp [hn, St.lp]) (by simp [wkO, St.lp, zaa, getK, Ob.under, D.under, zad, zae, zav, zao, zaw, zau, hcsl, hcle, hmt]) (by simp [wkU, St.lp, zal, zaa, getK, D.under, zav, zao, zaw, zau, hcsl, hcle, hmt]) (by simp [wkE, St.lp, zal, zaa, getK, zav, zao, zaw, zau, hcsl, hcle, hmt] <;> (try (intros; simp_all; done)) <;> (try (intros; omega)) <;> (try grind)))
 ·have hlt : p < todo.length := (lGE.1 hv).1;have hdr : todo.drop p = v :: todo.drop (p + 1) := by
   rw [List.drop_eq_getElem_cons hlt]
   congr 1
   exact (lGE.1 hv).2
  rw [hdr] at hPM;have hvm := List.mem_of_getElem? hv;obtain ⟨hv0, hvn, hvk, hvL⟩ := hPM.all v hvm;obtain ⟨V, rfl⟩ := Int.eq_ofNat_of_zero_le hv0;simp only [Int.toNat_natCast] at hvk hvL;have hVm : V < m := by omega
  have hPN := hPM.next hl
  rw [Int.toNat_natCast] at hPN;have hfl := zkl l V;obtain ⟨S3, hS3⟩ : ∃ S3 : Nat -> GS × List Int, S3 = fun q => ((zcL l V).take q).foldl (zmr l) (S2 p) := ⟨_, rfl⟩;have hS30 : S3 0 = S2 p := by rw [hS3]; rfl
  have hS31 : S3 (zcL l V).length = S2 (p + 1) := by
   rw [hS3, hS2];simp only [List.take_length];rw [zdL hv, List.foldl_append];rfl
  repeat' (first
  | ((first | refine zag ?_ | refine zaj ?_ | refine zah ?_ | refine zaA ?_ | fail); simp [hv, hVm])
  | (refine zap ?_; simp only [zan])
  | (refine ⟨?_, by omega⟩)
  | (intro hc <;> (try (exfalso; omega)))
  | fail)
  refine zb4 (α := { q : Nat // q <= (zcL l V).length }) [0, 5, 8, 20, 21, 23, 24, 25, 35, 36] (fun q => [(6, .vec 6 (S3 q.1).2.length), (37, .u (.int .i64 q.1))])
   (fun q => [(6, .vec 3 1 (zbs (S3 q.1).2)), (5, .box [.u (.sl (l.map fun c => [.int .i64 c.A, .int .i64 c.B, .int .i64 c.N])), .u (.sl ((List.range m).map fun v => [.sl ((zgN (zcL l v)).map fun n => [.int .i64 n])])), .vec 1 m, .vec 3 m, .vec 4 m]), (1, .vec 3 1 (zbs (lst m (S3 q.1).1.val))), (3, .vec 3 1 (zbs (lst m (zhY (-1) (S3 q.1).1)))), (4, .vec 4 1 (zdq (bst m (S3 q.1).1.kn)))]) 7 (fun q => (zcL l V).length - q.1) ⟨0, by omega⟩ ?_ ?_
  ·exact (Wk.cut rfl (by simp [hn, St.lp]) (by simp [wkO, St.lp, zaa, getK, Ob.under, D.under, zad, zae, zav, zao, zaw, zau, hS30]) (by simp [wkU, St.lp, zal, zaa, getK, D.under, zav, zao, zaw, zau, hS30]) (by simp [wkE, St.lp, zal, zaa, getK, zav, zao, zaw, zau, hS30] <;> (try (intros; simp_all; done)) <;> (try (intros; omega)) <;> (try grind)))
  rintro ⟨q, hq⟩;simp [St.lp, St.only, zal, zaa, getK];obtain ⟨L3, hPQ⟩ := hPN.take hl hvm (fun _ h => h) q hq;have hS3q : ((zcL l V).take q).foldl (zmr l) (S2 p) = S3 q := by rw [hS3]
  rw [hS3q] at hPQ;rcases hi : (zcL l V)[q]? with _ | i
  ·have hge : (zcL l V).length <= q := by simpa using hi
   obtain rfl : q = (zcL l V).length := by omega
   rw [hS31]
   repeat' (first
  | ((first | refine zag ?_ | refine zaj ?_ | fail); simp [hi])
  | (refine ⟨by omega, ?_⟩)
  | ((first | refine zah ?_ | refine zaq ?_ | fail); simp [hi])
  | (refine zaZ ?_; simp [zan])
  | fail)
   refine LoopW.next ⟨p + 1, by omega⟩ (by simp; omega) ?_
   exact (Wk.cut rfl (by simp [hn, St.lp]) (by simp [wkO, St.lp, zaa, getK, Ob.under, D.under, zad, zae, zav, zao, zaw, zau]) (by simp [wkU, St.lp, zal, zaa, getK, D.under, zav, zao, zaw, zau]) (by simp [wkE, St.lp, zal, zaa, getK, zav, zao, zaw, zau] <;> (try (intros; simp_all; done)) <;> (try (intros; omega)) <;> (try grind)))
  ·have hqlt : q < (zcL l V).length := (lGE.1 hi).1;obtain ⟨c, hci, hcb⟩ := zfW.1 (List.mem_of_getElem? hi);have hS3s : S3 (q + 1) = zmr l (S3 q) i := by rw [hS3]; simp only; rw [zdL hi, List.foldl_append]; rfl
   have hbd := hPQ.bd;have hnl := hPQ.len;rcases hst : S3 q with ⟨G, nx⟩
   rw [hst] at hS3s hbd hnl;simp only at hbd hnl;have htt : t + p * l.length + q <= 4000000 := by omega
   have hva := hbd.small htt c.a;have hvb := hbd.small htt V;obtain ⟨ha0, han, hb0, hbn, hN1, hN2⟩ := hl c (List.mem_of_getElem? hci);have hN3 : -1099511627776 <= c.N /\ c.N <= 1099511627776 := ⟨hN1, hN2⟩;have hau := zre G i c m;have hku := zsl G i c m;have hpu := zrf (-1) G i c m;have hrel : zmr l (G, nx) i = if (!G.kn c.a || decide (G.val c.b + c.N < G.val c.a)) = true then (G.upd i c, nx ++ [c.A]) else (G, nx) := by unfold zmr; rw [hci]
   rw [hrel, hcb] at hS3s;rw [hcb] at hau;obtain ⟨A, B, N⟩ := c;simp only [Con.a] at *;obtain ⟨a, rfl⟩ := Int.eq_ofNat_of_zero_le ha0;simp only [Int.toNat_natCast] at *;have han' : a < m := by omega
   have q7 : zbs nx ++ [[D.u (.int .i64 (a : Int))]] = zbs (nx ++ [(a : Int)]) := by simp [zbs]
   have q8 := zdU nx;cases hka : G.kn a with
   | false =>
    simp only [hka, Bool.not_false, Bool.true_or, if_true] at hS3s
    repeat' (first
  | ((first | refine zag ?_ | refine zbW rfl ?_ | refine zdt rfl ?_ | refine zaj ?_ | fail); simp [hi, hci, zaH, zaW, zcB, zbd, zba, zde, zbl, za2, zbQ, zb1, zbD, zcV, hka, han', hVm, hau, hku, hpu, q7, q8])
  | (refine ⟨by omega, ?_⟩)
  | ((first | refine zah ?_ | refine zai ?_ | fail); simp [hi, hci, zaH, zaW, zcB, zbd, zba, zde, zbl, za2, zbQ, zb1, zbD, zcV, hka, han', hVm, hau, hku, hpu, q7, q8])
  | (refine zcu (hC _ (by kernel_rfl)) (hk _ ?_); clear hC hk C k; simp only [zan])
  | (refine zbV rfl (by kernel_rfl) (by first | (simp [hn]; done) | (simp [hn]; omega) | fail) fun C k hC hk => ?_; simp [hi, hci, zaH, zaW, zcB, zbd, zba, zde, zbl, za2, zbQ, zb1, zbD, zcV, hka, han', hVm, hau, hku, hpu, q7, q8])
  | (refine zes rfl (by simp [hi, hci, zaH, zaW, zcB, zbd, zba, zde, zbl, za2, zbQ, zb1, zbD, zcV, hka, han', hVm, hau, hku, hpu, q7, q8]) (fun hc => ?_) (fun hc => ?_) <;> (try simp [hi, hci, zaH, zaW, zcB, zbd, zba, zde, zbl, za2, zbQ, zb1, zbD, zcV, hka, han', hVm, hau, hku, hpu, q7, q8] at hc) <;> (try (exfalso; omega)) <;> (try simp [hi, hci, zaH, zaW, zcB, zbd, zba, zde, zbl, za2, zbQ, zb1, zbD, zcV, hka, han', hVm, hau, hku, hpu, q7, q8]))
  | (refine zaq ?_; simp [hi, hci, zaH, zaW, zcB, zbd, zba, zde, zbl, za2, zbQ, zb1, zbD, zcV, hka, han', hVm, hau, hku, hpu, q7, q8])
  | (refine zap ?_; simp only [zan])
  | (refine ⟨?_, by omega⟩)
  | (intro hc <;> (try (exfalso; omega)))
  | fail)
    refine LoopW.next ⟨q + 1, by omega⟩ (by simp; omega) ?_
    exact (Wk.zsL (6) (9) rfl (by simp [hn]) (by simp [hn]) (by simp [zav, zao, zaw, zau, hS3s]) (by simp [zhW, zeU, St.lp, zal, zaa, getK, zac, zam, D.under, D.le, D.ren, zav, zao, zaw, zau, hS3s] <;> (try (intros; simp_all; done)) <;> (try omega)) (by simp [wkR, zeQ, zcs, zct, zcN, zeE, zeU, St.lp, zaa, getK, zac, zam, obR, leU, zbR, zaX, Ob.under, D.under, D.le, D.ren, zav, zao, zaw, zau, hS3s] <;> (try (intros; simp_all; done)) <;> (try omega)))
   | true =>
    by_cases hlt2 : G.val V + N < G.val a
    ·simp only [hka, Bool.not_true, Bool.false_or, decide_eq_true hlt2, if_true] at hS3s
     repeat' (first
  | ((first | refine zag ?_ | refine zbW rfl ?_ | refine zdt rfl ?_ | refine zfs rfl ?_ | refine zaj ?_ | fail); simp [hi, hci, zaH, zaW, zcB, zbd, zba, zde, zbl, za2, zbQ, zb1, zbD, zcV, hka, han', hVm, hau, hku, hpu, q7, q8, hlt2])
  | (refine ⟨by omega, ?_⟩)
  | ((first | refine zah ?_ | refine zai ?_ | fail); simp [hi, hci, zaH, zaW, zcB, zbd, zba, zde, zbl, za2, zbQ, zb1, zbD, zcV, hka, han', hVm, hau, hku, hpu, q7, q8, hlt2])
  | (refine zcu (hC _ (by kernel_rfl)) (hk _ ?_); clear hC hk C k; simp only [zan])
  | (refine zbV rfl (by kernel_rfl) (by first | (simp [hn]; done) | (simp [hn]; omega) | fail) fun C k hC hk => ?_; simp [hi, hci, zaH, zaW, zcB, zbd, zba, zde, zbl, za2, zbQ, zb1, zbD, zcV, hka, han', hVm, hau, hku, hpu, q7, q8, hlt2])
  | (refine zes rfl (by simp [hi, hci, zaH, zaW, zcB, zbd, zba, zde, zbl, za2, zbQ, zb1, zbD, zcV, hka, han', hVm, hau, hku, hpu, q7, q8, hlt2]) (fun hc => ?_) (fun hc => ?_) <;> (try simp [hi, hci, zaH, zaW, zcB, zbd, zba, zde, zbl, za2, zbQ, zb1, zbD, zcV, hka, han', hVm, hau, hku, hpu, q7, q8, hlt2] at hc) <;> (try (exfalso; omega)) <;> (try simp [hi, hci, zaH, zaW, zcB, zbd, zba, zde, zbl, za2, zbQ, zb1, zbD, zcV, hka, han', hVm, hau, hku, hpu, q7, q8, hlt2]))
  | (refine zaq ?_; simp [hi, hci, zaH, zaW, zcB, zbd, zba, zde, zbl, za2, zbQ, zb1, zbD, zcV, hka, han', hVm, hau, hku, hpu, q7, q8, hlt2])
  | (refine zap ?_; simp only [zan])
  | (refine ⟨?_, by omega⟩)
  | (intro hc <;> (try (exfalso; omega)))
  | fail)
     refine LoopW.next ⟨q + 1, by omega⟩ (by simp; omega) ?_
     exact (Wk.zsL (6) (9) rfl (by simp [hn]) (by simp [hn]) (by simp [zav, zao, zaw, zau, hS3s]) (by simp [zhW, zeU, St.lp, zal, zaa, getK, zac, zam, D.under, D.le, D.ren, zav, zao, zaw, zau, hS3s] <;> (try (intros; simp_all; done)) <;> (try omega)) (by simp [wkR, zeQ, zcs, zct, zcN, zeE, zeU, St.lp, zaa, getK, zac, zam, obR, leU, zbR, zaX, Ob.under, D.under, D.le, D.ren, zav, zao, zaw, zau, hS3s] <;> (try (intros; simp_all; done)) <;> (try omega)))
    ·simp only [hka, Bool.not_true, Bool.false_or, decide_eq_false hlt2, Bool.false_eq_true, if_false] at hS3s
     repeat' (first
  | ((first | refine zag ?_ | refine zbW rfl ?_ | refine zfs rfl ?_ | refine zaj ?_ | fail); simp [hi, hci, zaH, zaW, zbd, zba, zbl, za2, zb1, zbD, hka, han', hVm, hlt2])
  | (refine ⟨by omega, ?_⟩)
  | ((first | refine zah ?_ | refine zai ?_ | fail); simp [hi, hci, zaH, zaW, zbd, zba, zbl, za2, zb1, zbD, hka, han', hVm, hlt2])
  | (refine zcu (hC _ (by kernel_rfl)) (hk _ ?_); clear hC hk C k; simp only [zan])
  | (refine zbV rfl (by kernel_rfl) (by first | (simp [hn]; done) | (simp [hn]; omega) | fail) fun C k hC hk => ?_; simp [hi, hci, zaH, zaW, zbd, zba, zbl, za2, zb1, zbD, hka, han', hVm, hlt2])
  | (refine zes rfl (by simp [hi, hci, zaH, zaW, zbd, zba, zbl, za2, zb1, zbD, hka, han', hVm, hlt2]) (fun hc => ?_) (fun hc => ?_) <;> (try simp [hi, hci, zaH, zaW, zbd, zba, zbl, za2, zb1, zbD, hka, han', hVm, hlt2] at hc) <;> (try (exfalso; omega)) <;> (try simp [hi, hci, zaH, zaW, zbd, zba, zbl, za2, zb1, zbD, hka, han', hVm, hlt2]))
  | (refine zaq ?_; simp [hi, hci, zaH, zaW, zbd, zba, zbl, za2, zb1, zbD, hka, han', hVm, hlt2])
  | (refine zap ?_; simp only [zan])
  | (refine ⟨?_, by omega⟩)
  | (intro hc <;> (try (exfalso; omega)))
  | fail)
     refine LoopW.next ⟨q + 1, by omega⟩ (by simp; omega) ?_
     exact (Wk.cut rfl (by simp [hn, St.lp]) (by simp [wkO, St.lp, zaa, getK, Ob.under, D.under, zad, zae, zav, zao, zaw, zau, hS3s]) (by simp [wkU, St.lp, zal, zaa, getK, D.under, zav, zao, zaw, zau, hS3s]) (by simp [wkE, St.lp, zal, zaa, getK, zav, zao, zaw, zau, hS3s] <;> (try (intros; simp_all; done)) <;> (try (intros; omega)) <;> (try grind)))
theorem zqz (m M : Nat) (l : List Con) (bg : Nat -> Bool) (g : GS) (v to k : Nat) (hm : m <= 200) (hl : OkC m l) (hll : l.length <= 2000) (hinv : Inv l bg g) (hv : v < m) (hk : 0 < k) (hkm : k <= m) (hal : al l g k v) (hto : it l g k v = to) (hmin : ∀ j, 0 < j -> j < k -> it l g j v ≠ to) :
  Ret Tryz.prog 81 [.ptr 5 0, .u (.int .i64 v), .u (.int .i64 to)] (zqU l m g) (M + 6) fun d obs nx' => d = .u (ints (pl l (-1) g k v).reverse) /\ obs = zqU l m g /\ nx' = M + 6 := by
 simp only [zqU, consU, ints]
 (refine Ret.of_bodyW Tryz.func81 rfl (by simp) fun Γ hn => ?_); simp only [entry, ziC, ziN, maC, maN, oA, Tryz.ntmps81]
 repeat' (first
  | ((first | refine zag ?_ | refine zaj ?_ | refine zah ?_ | refine zaA ?_ | fail); simp)
  | fail)
 refine zlt _ (Wk.own 7 3 1 (by decide) rfl) ?_;simp [St.own];refine zb4 (α := { q : Nat // q <= k }) [0, 2] (fun q => [(1, .u (.int .i64 (it l g q.1 v))), (7, .vec (M + 6) q.1), (8, .u (.bool (decide (q.1 = 0))))])
  (fun q => [(M + 6, .vec 3 1 (zbs (pl l (-1) g q.1 v))), (5, .box [.u (.sl (l.map fun c => [.int .i64 c.A, .int .i64 c.B, .int .i64 c.N])), .u (.sl ((List.range m).map fun v => [.sl ((zgN (zcL l v)).map fun n => [.int .i64 n])])), .vec 1 m, .vec 3 m, .vec 4 m]), (1, .vec 3 1 (zbs (lst m g.val))), (3, .vec 3 1 (zbs (lst m (zhY (-1) g)))), (4, .vec 4 1 (zdq (bst m g.kn)))]) (M + 7) (fun q => k - q.1) ⟨0, by omega⟩ ?_ ?_
 ·exact (Wk.cut rfl (by simp [hn, St.lp]) (by simp [wkO, St.lp, zaa, getK, Ob.under, D.under, zad, zae, zav, zao, zaw, zau, it, pl, zbs]) (by simp [wkU, St.lp, zal, zaa, getK, D.under, zav, zao, zaw, zau, it, pl, zbs]) (by simp [wkE, St.lp, zal, zaa, getK, zav, zao, zaw, zau, it, pl, zbs] <;> (try (intros; simp_all; done)) <;> (try (intros; omega)) <;> (try grind)))
 rintro ⟨q, hq⟩;simp [St.lp, St.only, zal, zaa, getK];have q9 := zlJ l (-1) g q v;by_cases hqk : q < k
 ·have hxi : it l g q v < m := zou hl q hv;obtain ⟨I, c, q1, q2, q3, q4⟩ := zo3 (-1) hl hinv hxi (zsK hal hqk);have q5 := zot l g q v;rw [<- q5] at q3;have q6 := znL l (-1) g q v;rw [q1] at q6;have q7 : zbs (pl l (-1) g q v) ++ [[D.u (.int .i64 (I : Int))]] = zbs (pl l (-1) g (q + 1) v) := by rw [q6]; simp [zbs]
  have q8 := zdU (pl l (-1) g q v);by_cases hq0 : q = 0
  ·subst hq0
   repeat' (first
  | ((first | refine zag ?_ | refine zbW rfl ?_ | refine zaj ?_ | refine zah ?_ | refine zai ?_ | fail); simp [zaH, zaW, zbd, zba, hxi, q1, q2, q3, q4, q7, q8, q9])
  | (refine zcu (hC _ (by kernel_rfl)) (hk _ ?_); clear hC hk C k; simp only [zan])
  | (refine zbV rfl (by kernel_rfl) (by first | (simp [hn]; done) | (simp [hn]; omega) | fail) fun C k hC hk => ?_; simp [zaH, zaW, zbd, zba, hxi, q1, q2, q3, q4, q7, q8, q9])
  | (refine zaq ?_; simp [zaH, zaW, zbd, zba, hxi, q1, q2, q3, q4, q7, q8, q9])
  | (refine zap ?_; simp only [zan])
  | fail)
   refine LoopW.next ⟨0 + 1, by omega⟩ (by simp; omega) ?_
   exact (Wk.zsL (M + 6) (M + 8) rfl (by simp [hn]) (by simp [hn]) (by simp [zav, zao, zaw, zau]) (by simp [zhW, zeU, St.lp, zal, zaa, getK, zac, zam, D.under, D.le, D.ren, zav, zao, zaw, zau] <;> (try (intros; simp_all; done)) <;> (try omega)) (by simp [wkR, zeQ, zcs, zct, zcN, zeE, zeU, St.lp, zaa, getK, zac, zam, obR, leU, zbR, zaX, Ob.under, D.under, D.le, D.ren, zav, zao, zaw, zau] <;> (try (intros; simp_all; done)) <;> (try omega)))
  ·have hne := hmin q (by omega) hqk;have hne2 : ¬ ((it l g q v : Nat) : Int) = (to : Int) := fun e => hne (by omega)
   repeat' (first
  | ((first | refine zag ?_ | refine zbW rfl ?_ | refine zaj ?_ | fail); simp [hq0, hne, hne2, zaH, zaW, zbd, zba, hxi, q1, q2, q3, q4, q7, q8, q9])
  | (refine ⟨by omega, ?_⟩)
  | ((first | refine zah ?_ | refine zai ?_ | fail); simp [hq0, hne, hne2, zaH, zaW, zbd, zba, hxi, q1, q2, q3, q4, q7, q8, q9])
  | (refine zcu (hC _ (by kernel_rfl)) (hk _ ?_); clear hC hk C k; simp only [zan])
  | (refine zbV rfl (by kernel_rfl) (by first | (simp [hn]; done) | (simp [hn]; omega) | fail) fun C k hC hk => ?_; simp [hq0, hne, hne2, zaH, zaW, zbd, zba, hxi, q1, q2, q3, q4, q7, q8, q9])
  | (refine zaq ?_; simp [hq0, hne, hne2, zaH, zaW, zbd, zba, hxi, q1, q2, q3, q4, q7, q8, q9])
  | (refine zap ?_; simp only [zan])
  | fail)
   refine LoopW.next ⟨q + 1, by omega⟩ (by simp; omega) ?_
   exact (Wk.zsL (M + 6) (M + 8) rfl (by simp [hn]) (by simp [hn]) (by simp [zav, zao, zaw, zau]) (by simp [zhW, zeU, St.lp, zal, zaa, getK, zac, zam, D.under, D.le, D.ren, zav, zao, zaw, zau] <;> (try (intros; simp_all; done)) <;> (try omega)) (by simp [wkR, zeQ, zcs, zct, zcN, zeE, zeU, St.lp, zaa, getK, zac, zam, obR, leU, zbR, zaX, Ob.under, D.under, D.le, D.ren, zav, zao, zaw, zau] <;> (try (intros; simp_all; done)) <;> (try omega)))
 obtain rfl : q = k := by omega
 have hq0 : ¬ q = 0 := by omega
 have hrr := zkX 3 (M + 6) (M + 7) (by omega) (pl l (-1) g q v) (by omega);rw [q9] at hrr;rw [hto]
 repeat' (first
  | ((first | refine zag ?_ | refine zaj ?_ | refine zah ?_ | refine zai ?_ | fail); simp [hq0, q9, del, zab, zaa])
  | (refine zar ?_; simp only [zan])
  | (refine zaZ ?_; simp [zan])
  | (refine CallP.ztX (hrr) (by simp [getK]) (by rfl) (by first | assumption | simp) (by rfl) (by simp) ?_; rintro d o n' hn' ⟨rfl, rfl, rfl⟩; (try simp at hn'); (try simp [hq0, q9, del, zab, zaa]))
  | fail)
 refine EndW.wk _ (Wk.frz (e := 3) (sz := 1) (M + 6) [] (us := (pl l (-1) g q v).reverse.map fun z => [U.int .i64 z]) (by simp [zaa]) (zd2 _)) ?_;simp [St.frz, St.frzS, frzS, fv, zaV, frzObS, del, q9];refine EndW.wk { n := _, env := [(6, .u (.sl ((pl l (-1) g q v).reverse.map fun z => [U.int .i64 z])))], obs := [(5, .box [.u (.sl (l.map fun c => [.int .i64 c.A, .int .i64 c.B, .int .i64 c.N])), .u (.sl ((List.range m).map fun v => [.sl ((zgN (zcL l v)).map fun n => [.int .i64 n])])), .vec 1 m, .vec 3 m, .vec 4 m]), (1, .vec 3 1 (zbs (lst m g.val))), (3, .vec 3 1 (zbs (lst m (zhY (-1) g)))), (4, .vec 4 1 (zdq (bst m g.kn)))], next := M + 6 } (Wk.cut rfl (by simp [hn, St.lp]) (by simp [wkO, St.lp, zaa, getK, Ob.under, D.under, zad, zae, zav, zao, zaw, zau]) (by simp [wkU, St.lp, zal, zaa, getK, D.under, zav, zao, zaw, zau]) (by simp [wkE, St.lp, zal, zaa, getK, zav, zao, zaw, zau] <;> (try (intros; simp_all; done)) <;> (try (intros; omega)) <;> (try grind))) (EndW.here ?_)
 (first | (refine EndOK.fin (.inr rfl) ?_) | (refine EndOK.fin (.inl rfl) ?_)); simp [zaK, zaf, Tryz.results81]
 exact FinOK.here (by simp) ⟨by simp, by simp, rfl⟩
theorem solve_ex (l : List Con) (n : Int) (hK : (n.toNat + 1) * (n.toNat * l.length) <= 3000000) : ∃ V C E, SolveSpec l n V C E /\ Fun Tryz.prog 28 [.u (consU l), .u (.int .i64 n)] (· = .tup [.u (ints V), .u (ints C), .u (.int .i64 E)]) := by
 have h0 := zfU l n;by_cases hr : rightL l n = true
 case neg =>
  have hr2 : rightL l n = false := by simpa using hr
  rw [hr2] at h0;refine ⟨_, _, _, znA hr2, ?_⟩
  (refine Fun.of_bodyW Tryz.func28 rfl (by simp) fun Γ hn => ?_); simp only [entry, ziC, ziN, maC, maN, oA, Tryz.ntmps28]
  simp only [consU, ints] at h0 ⊢
  repeat' (first
  | ((first | refine zag ?_ | refine zaj ?_ | refine zah ?_ | refine zai ?_ | fail); simp)
  | (refine zar ?_; simp only [zan])
  | (refine CallP.fE (h0) (by first | rfl | fail) (by first | (simp; done) | (simp; rfl) | fail) ?_; (try simp))
  | fail)
  refine EndW.norm (EndW.here ?_)
  (refine EndOK.val (.inr rfl) ?_; simp [zaK, zaf, zas, Tryz.results28, zaC, zaD, zch, zci, frz, zbc, frzS, fv, zaV, za8, za9, frzObS, zay, zat, zbZ, zcd, zce, zbg])
 rw [hr] at h0;obtain ⟨e1, e2, e3, e4⟩ := zgh hr;generalize hN : n.toNat = m at e1 e2 e4 hK;subst e1;have h1 := zoK m (by omega);have h2 := zjb m l (zfG m) (zdC m) e2 e4 e3 (zgv m) (by rw [zen]; omega);have hout := zlI (nxt := zgM) e4 zee zj6 (m + 1) 0 (PI.zero e4 (zgv m)) (by rw [zen]; exact Nat.le_refl _) (fun h => by omega) (by omega);rcases hF : zpk zgM l (m + 1) (GS.zero (zfG m)) (zdC m) with ⟨gF, ret⟩
 have h3 := zrj m l (zfG m) (zdC m) gF ret e2 e4 e3 hK (by rw [zen]; exact Nat.le_refl _) (zgv m) hF;rw [hF] at hout;simp only [Nat.zero_add] at hout;by_cases hret : ret = -1
 ·refine ⟨_, _, _, zpw hr (hret ▸ hout) (Nat.le_refl _), ?_⟩;have hneg : ret < 0 := by omega
  (refine Fun.of_bodyW Tryz.func28 rfl (by simp) fun Γ hn => ?_); simp only [entry, ziC, ziN, maC, maN, oA, Tryz.ntmps28]
  simp only [consU, ints, zqU, zgN, List.map_map] at h0 h1 h2 h3 ⊢
  repeat' (first
  | ((first | refine zag ?_ | refine zaj ?_ | refine zah ?_ | refine zai ?_ | fail); simp [hneg])
  | ((first | refine zar ?_ | refine zap ?_ | fail); simp only [zan])
  | (refine CallP.fE (h0) (by first | rfl | fail) (by first | simp [hneg] <;> rfl | fail) ?_; (try simp [hneg]))
  | (refine CallP.fE (h1) (by first | rfl | fail) (by first | simp [hneg] <;> rfl | fail) ?_; (try simp [hneg]))
  | (refine CallP.zut (h2) (by rfl) (by first | assumption | simp) (by rfl) (by simp) ?_; rintro d o n' hn' ⟨rfl, rfl, rfl⟩; (try simp at hn'); (try simp [hneg]))
  | (refine CallP.zs4 (h3) (by rfl) (by first | assumption | simp) (by rfl) (by simp) ?_; rintro d o n' hn' ⟨rfl, rfl, rfl⟩; (try simp at hn'); (try simp [hneg]))
  | fail)
  refine EndW.wk _ (Wk.frz (e := 3) (sz := 1) 1 [] (us := (lst m gF.val).map fun z => [U.int .i64 z]) (by simp [zaa]) (zd2 _)) ?_;simp [St.frz, St.frzS, frzS, fv, zaV, frzObS, del, zbd];refine EndW.norm (EndW.here ?_)
  (refine EndOK.val (.inr rfl) ?_; simp [zaK, zaf, zas, Tryz.results28, zaC, zaD, zch, zci, frz, zbc, frzS, fv, zaV, za8, za9, frzObS, zay, zat, zbZ, zcd, zce, zbg, zbd])
 ·obtain ⟨ha, k, hk0, hkn, hak, hke, hkmin, hC⟩ := hout.circle (-1) e4 hret;refine ⟨_, _, _, znz hr hout hret hC, ?_⟩;have hinv := hout.1;obtain ⟨hret0, hretm⟩ : 0 <= ret /\ ret < m := by
   rcases hout.2.2 with h | h
   ·exact absurd h.1 hret
   ·exact ⟨h.1, h.2.1⟩
  obtain ⟨R, rfl⟩ := Int.eq_ofNat_of_zero_le hret0;simp only [Int.toNat_natCast] at ha hak hke hkmin hC ⊢;have hum : it l gF m R < m := zou e4 m (by omega);generalize hu : it l gF m R = u at hak hke hkmin hC hum ⊢;have hneg : ¬ (R : Int) < 0 := by omega
  have h4 := zqz m 0 l (zfG m) gF u u k e2 e4 e3 hinv hum hk0 hkn hak hke hkmin;simp only [Nat.zero_add] at h4
  (refine Fun.of_bodyW Tryz.func28 rfl (by simp) fun Γ hn => ?_); simp only [entry, ziC, ziN, maC, maN, oA, Tryz.ntmps28]
  simp only [consU, ints, zqU, zgN, List.map_map] at h0 h1 h2 h3 h4 ⊢
  repeat' (first
  | ((first | refine zag ?_ | refine zaj ?_ | refine zah ?_ | refine zai ?_ | refine zaA ?_ | fail); simp [hneg])
  | (refine zap ?_; simp only [zan])
  | (refine CallP.fE (h0) (by first | rfl | fail) (by first | simp [hneg] <;> rfl | fail) ?_; (try simp [hneg]))
  | (refine CallP.fE (h1) (by first | rfl | fail) (by first | simp [hneg] <;> rfl | fail) ?_; (try simp [hneg]))
  | (refine CallP.zut (h2) (by rfl) (by first | assumption | simp) (by rfl) (by simp) ?_; rintro d o n' hn' ⟨rfl, rfl, rfl⟩; (try simp at hn'); (try simp [hneg]))
  | (refine CallP.zs4 (h3) (by rfl) (by first | assumption | simp) (by rfl) (by simp) ?_; rintro d o n' hn' ⟨rfl, rfl, rfl⟩; (try simp at hn'); (try simp [hneg]))
  | fail)
  refine zb2 (α := { j : Nat // j <= m }) [0, 7, 28] (fun j => [(8, .u (.int .i64 (it l gF j.1 R))), (29, .u (.int .i64 j.1))]) (fun j => m - j.1) ⟨0, by omega⟩ ?_ ?_
  ·exact (Wk.cut rfl (by simp [hn, St.lp]) (by simp [wkO, St.lp, zaa, getK, Ob.under, D.under, zad, zae, zav, zao, zaw, zau, it]) (by simp [wkU, St.lp, zal, zaa, getK, D.under, zav, zao, zaw, zau, it]) (by simp [wkE, St.lp, zal, zaa, getK, zav, zao, zaw, zau, it] <;> (try (intros; simp_all; done)) <;> (try (intros; omega)) <;> (try grind)))
  rintro ⟨j, hj⟩;simp [St.lp, St.only, zal, zaa, getK];by_cases hji : j < m
  case pos =>
   have hxi : it l gF j R < m := zou e4 j (by omega);obtain ⟨I, c, q1, q2, q3, q4⟩ := zo3 (-1) e4 hinv hxi (zsK ha hji);have q5 := zot l gF j R;rw [<- q5] at q3
   repeat' (first
  | ((first | refine zag ?_ | refine zaj ?_ | fail); simp [hji, zaH, zaW, zbd, zba, hxi, q1, q2, q3, q4])
  | (refine ⟨by omega, ?_⟩)
  | ((first | refine zah ?_ | refine zaq ?_ | fail); simp [hji, zaH, zaW, zbd, zba, hxi, q1, q2, q3, q4])
  | (refine zap ?_; simp only [zan])
  | fail)
   refine LoopW.next ⟨j + 1, by omega⟩ (by simp; omega) ?_
   exact (Wk.cut rfl (by simp [hn, St.lp]) (by simp [wkO, St.lp, zaa, getK, Ob.under, D.under, zad, zae, zav, zao, zaw, zau]) (by simp [wkU, St.lp, zal, zaa, getK, D.under, zav, zao, zaw, zau]) (by simp [wkE, St.lp, zal, zaa, getK, zav, zao, zaw, zau] <;> (try (intros; simp_all; done)) <;> (try (intros; omega)) <;> (try grind)))
  obtain rfl : j = m := by omega
  rw [hu]
  repeat' (first
  | ((first | refine zag ?_ | refine zaj ?_ | refine zah ?_ | fail); simp [hji])
  | (refine zar ?_; simp only [zan])
  | (refine zaZ ?_; simp [zan])
  | (refine CallP.zs4 (h4) (by rfl) (by first | assumption | simp) (by rfl) (by simp) ?_; rintro d o n' hn' ⟨rfl, rfl, rfl⟩; (try simp at hn'); (try simp [hji]))
  | fail)
  refine EndW.norm (EndW.here ?_)
  (refine EndOK.val (.inr rfl) ?_; simp [zaK, zaf, zas, Tryz.results28, zaC, zaD, zch, zci, frz, zbc, frzS, fv, zaV, za8, za9, frzObS, zay, zat, zbZ, zcd, zce, zbg])
end Go.Proofs.YtepiegcjnaohjaaGreatDoor.Df
namespace Go.Proofs.YtepiegcjnaohjaaGreatDoor
open Go Go.VL
attribute [local simp] HS zdf zcf evPure opd uOf zaI St.put St.at getK binD binI binS binB nilD aggD zgQ zhI lookD lookR zcE Go.VL.nextD zcI zhV zhU zfX zb8 mkV zbo zbh zbf zbe zda zbb zbx zbJ mapEff zdm zfI Key.kk shiftI arith unD convD zdP loadD cellsAt fieldAddrD fieldD indexAddrD indexD sliceD cutD lenD minmaxD nilCheckD buildD fillD zb3 zdi zeX setAll zc1 zeI zcD zg3 zcy St.add zaO zbU rowsOf zdJ zcJ zam zac zaa zbm zcS zaN entry zbH zbL valD zcb zcp zgK zdr zds zcc zbN zaz za1 zbn delAll effD St.effS zc7 zbi za3 zc8 zbj za5 zcn za4 zaT zco zc4 zbM zcl zbw zcj zck zaY mkD zbq zbG zb0 zaz zcC D.ids Op.operands Call.operands zby makeIfD makeFuncD typeAssertD zhG zdG zdH zhb zcG IntKind.bits zcg zaS List.take_of_length_le List.range_succ
attribute [local irreducible] V G H HD HD2 HD4 znh RetX zan Eff CallP CallV EndOK Fun Ret FinOK LoopI LoopW EndW
theorem zcv (l : List Tok) (p : Nat) (t : Tok) (hp : l[p]? = some t) (hl : l.length <= 1000000) : Fun Tryz.prog 127 [.u (zqW l p)] (· = .u (.agg [.int .i64 t.kind, .str t.text, .int .i64 t.n, .int .i64 t.pos])) := by
 have hlt := (lGE.1 hp).1;unfold zqW znw
 (refine Fun.of_body Tryz.func127 rfl (by simp) fun Γ hn => ?_); simp only [entry, ziC, ziN, maC, maN, oA, Tryz.ntmps127]
 repeat' (first
  | ((first | refine zag ?_ | refine zbW rfl ?_ | refine zdt rfl ?_ | refine zaj ?_ | refine zah ?_ | fail); simp [hp])
  | (refine zcu (hC _ (by kernel_rfl)) (hk _ ?_); clear hC hk C k; simp only [zan])
  | (refine zbV rfl (by kernel_rfl) (by first | (simp [hn]; done) | (simp [hn]; omega) | fail) fun C k hC hk => ?_; simp [hp])
  | (refine zar ?_; simp only [zan])
  | fail)
 (refine EndOK.val (.inr rfl) ?_; simp [zaK, zaf, zas, Tryz.results127])
theorem zd1 (l : List Tok) (p : Nat) (w : List UInt8) (hp : p < l.length) (hl : l.length <= 1000000) : Fun Tryz.prog 124 [.u (zqW l p), .u (.str w)] (· = .u (.bool (isB l p w))) := by
 obtain ⟨t, ht⟩ : ∃ t, l[p]? = some t := ⟨_, List.getElem?_eq_getElem hp⟩;have hnx := zcv l p t ht hl;unfold isB;rw [ht];unfold zqW znw at *;by_cases h1 : t.kind = 0
 ·(refine Fun.of_body Tryz.func124 rfl (by simp) fun Γ hn => ?_); simp only [entry, ziC, ziN, maC, maN, oA, Tryz.ntmps124]
  repeat' (first
  | ((first | refine zag ?_ | refine zaj ?_ | refine zah ?_ | fail); simp [h1])
  | (refine zar ?_; simp only [zan])
  | (refine CallP.fE (hnx) (by first | rfl | fail) (by first | simp [h1] <;> rfl | fail) ?_; (try simp [h1]))
  | fail)
  all_goals
    (refine EndOK.val (.inr rfl) ?_; simp [zaK, zaf, zas, Tryz.results124])
  all_goals simp [h1]
 ·(refine Fun.of_body Tryz.func124 rfl (by simp) fun Γ hn => ?_); simp only [entry, ziC, ziN, maC, maN, oA, Tryz.ntmps124]
  repeat' (first
  | ((first | refine zag ?_ | refine zaj ?_ | refine zah ?_ | fail); simp [h1])
  | (refine zar ?_; simp only [zan])
  | (refine CallP.fE (hnx) (by first | rfl | fail) (by first | simp [h1] <;> rfl | fail) ?_; (try simp [h1]))
  | fail)
  all_goals
    (refine EndOK.val (.inr rfl) ?_; simp [zaK, zaf, zas, Tryz.results124])
  all_goals simp [h1]
theorem zbt (l : List Tok) (p : Nat) (w : List UInt8) (i nx : Nat) (hi : i < nx) (hp : p < l.length) (hl : l.length <= 1000000) :
  RetX Tryz.prog 200 [.ptr i 0, .u (.str w)] [(i, pOb l p)] nx (fun r o n => r = .val (.u (.bool (isB l p w))) /\ o = [(i, pOb l (if isB l p w = true then p + 1 else p))] /\ n = nx) := by
 have h1 := zd1 l p w hp hl;unfold pOb zqW znw at *;cases hb : isB l p w with
 | false =>
  rw [hb] at h1
  (refine RetX.of_bodyW Tryz.func200 rfl (by simp) fun Γ hn hpan => ?_); simp only [entry, ziC, ziN, maC, maN, oA, Tryz.ntmps200]
  repeat' (first
  | ((first | refine zag ?_ | refine zaj ?_ | refine zah ?_ | refine zai ?_ | fail); simp)
  | (refine zar ?_; simp only [zan])
  | (refine CallP.fE (h1) (by first | rfl | fail) (by first | (simp; done) | (simp; rfl) | fail) ?_; (try simp))
  | fail)
  (refine EndW.here ?_; (first | (refine EndOK.fin (.inr rfl) ?_) | (refine EndOK.fin (.inl rfl) ?_)); simp [zaK, zaf, Tryz.results200]; refine FinOK.here (by simp) ?_; try simp)
 | true =>
  rw [hb] at h1
  (refine RetX.of_bodyW Tryz.func200 rfl (by simp) fun Γ hn hpan => ?_); simp only [entry, ziC, ziN, maC, maN, oA, Tryz.ntmps200]
  repeat' (first
  | ((first | refine zag ?_ | refine zaj ?_ | fail); simp)
  | (refine ⟨by omega, ?_⟩)
  | ((first | refine zah ?_ | refine zai ?_ | fail); simp)
  | ((first | refine zar ?_ | refine zap ?_ | fail); simp only [zan])
  | (refine CallP.fE (h1) (by first | rfl | fail) (by first | (simp; done) | (simp; rfl) | fail) ?_; (try simp))
  | fail)
  (refine EndW.here ?_; (first | (refine EndOK.fin (.inr rfl) ?_) | (refine EndOK.fin (.inl rfl) ?_)); simp [zaK, zaf, Tryz.results200]; refine FinOK.here (by simp) ?_; try simp)
def chP (pos e : Int) : List PanicEntry := [{ v := .iface 194 (.agg #[.int .i64 pos, .int .i64 e]), recovered := false }]
def isP (l : List Tok) (ob : Ob) : Prop := ∃ q : Nat, ob = pOb l q
theorem zfq (l : List Tok) (p : Nat) (e : Int) (i nx : Nat) (hi : i < nx) :
  RetX Tryz.prog 123 [.ptr i 0, .u (.bool true), .u (.int .i64 e)] [(i, pOb l p)] nx (fun r o n => r = .val (.tup []) /\ o = [(i, pOb l p)] /\ n = nx) := by
 (refine RetX.of_bodyW Tryz.func123 rfl (by simp) fun Γ hn hpan => ?_); simp only [entry, ziC, ziN, maC, maN, oA, Tryz.ntmps123]
 repeat' (first
  | ((first | refine zag ?_ | refine zaj ?_ | refine zah ?_ | refine zai ?_ | fail); simp)
  | (refine zap ?_; simp only [zan])
  | fail)
 (refine EndW.here ?_; (first | (refine EndOK.fin (.inr rfl) ?_) | (refine EndOK.fin (.inl rfl) ?_)); simp [zaK, zaf, Tryz.results123]; refine FinOK.here (by simp) ?_; try simp)
theorem zdW (l : List Tok) (p : Nat) (t : Tok) (e : Int) (i nx : Nat) (hi : i < nx) (hp : l[p]? = some t) (hl : l.length <= 1000000) :
  RetX Tryz.prog 123 [.ptr i 0, .u (.bool false), .u (.int .i64 e)] [(i, pOb l p)] nx (fun r o n => r = .pan (chP t.pos e) /\ (∃ ob', isP l ob' /\ o = [(i, ob')]) /\ n = nx) := by
 have h1 := zcv l p t hp hl
 (refine RetX.of_bodyW Tryz.func123 rfl (by simp) fun Γ hn hpan => ?_); simp only [entry, ziC, ziN, maC, maN, oA, Tryz.ntmps123]
 repeat' (first
  | ((first | refine zag ?_ | refine zaj ?_ | refine zah ?_ | refine zai ?_ | refine zaq ?_ | fail); simp)
  | (refine CallP.fE (h1) (by first | rfl | fail) (by first | (simp; done) | (simp; rfl) | fail) ?_; (try simp))
  | fail)
 all_goals
  (refine hpan _ _ ⟨{ n := _, env := [], obs := [(i, pOb l p)], next := nx }, (Wk.cut rfl (by simp [hn]) (by simp [wkO, zaa, getK, zab, zac, Ob.under, D.under, zad, zae, hi]) (by simp [wkU, zal, zaa, getK, D.under, hi]) (by simp [wkE, zal, zaa, getK, hi])), by simp [hn], ?_⟩; try simp)
  all_goals exact ⟨rfl, p, rfl⟩
inductive PR (α : Type) where
 | ok (a : α) (p : Nat)
 | stop (pos e : Int)
def zdO (l : List Tok) (p : Nat) : Int := match l[p]? with | some t => t.pos | none => 0
def zb7 (l : List Tok) : Nat -> List (List UInt8) -> PR Unit
 | p, [] => .ok () p
 | p, w :: ws => if isB l p w = true then zb7 l (p + 1) ws else .stop (zdO l p) 12
def PPost {α : Type} (l : List Tok) (i nx : Nat) (val : α -> D) : PR α -> Out -> List (Nat × Ob) -> Nat -> Prop
 | .ok a q, o, obs, n => o = .val (val a) /\ obs = [(i, pOb l q)] /\ n = nx
 | .stop pos e, o, obs, n => o = .pan (chP pos e) /\ (∃ ob', isP l ob' /\ obs = [(i, ob')]) /\ n = nx
theorem ziS (l : List Tok) (p : Nat) (ws : List (List UInt8)) (i nx : Nat) (hi : i < nx) (hp : p < l.length) (hl : TokOK l) (hw : ws.length <= 100) :
  RetX Tryz.prog 129 [.ptr i 0, .u (.sl (ws.map fun w => [.str w]))] [(i, pOb l p)] nx (PPost l i nx (fun _ => .tup []) (zb7 l p ws)) := by
 (refine RetX.of_bodyW Tryz.func129 rfl (by simp) fun Γ hn hpan => ?_); simp only [entry, ziC, ziN, maC, maN, oA, Tryz.ntmps129]
 repeat' (first
  | ((first | refine zag ?_ | refine zaj ?_ | refine zah ?_ | refine zaA ?_ | fail); simp)
  | fail)
 refine zb4 (α := { x : Nat × Nat // x.1 <= ws.length /\ x.2 < l.length /\ zb7 l p ws = zb7 l x.2 (ws.drop x.1) }) [0, 6, 7] (fun x => [(8, .u (.int .i64 x.1.1))]) (fun x => [(i, pOb l x.1.2)]) nx (fun x => ws.length - x.1.1) ⟨(0, p), by simp, hp, by simp⟩ ?_ ?_
 ·exact (Wk.cut rfl (by simp [hn, St.lp]) (by simp [wkO, St.lp, zaa, getK, Ob.under, D.under, zad, zae, hi]) (by simp [wkU, St.lp, zal, zaa, getK, D.under, hi]) (by simp [wkE, St.lp, zal, zaa, getK, hi] <;> (try (intros; simp_all; done)) <;> (try (intros; omega)) <;> (try grind)))
 rintro ⟨⟨k, q⟩, h1, h2, h3⟩;simp only at h1 h2 h3;simp [St.lp, St.only, zal, zaa, getK];rcases hx : ws[k]? with _ | w
 ·have hge : ws.length <= k := by simpa using hx
  obtain rfl : k = ws.length := by omega
  rw [List.drop_length, zb7] at h3
  repeat' (first
  | ((first | refine zag ?_ | refine zaj ?_ | refine zah ?_ | fail); simp [hx])
  | (refine zaZ ?_; simp [zan])
  | fail)
  rw [h3]
  (refine EndW.here ?_; (first | (refine EndOK.fin (.inr rfl) ?_) | (refine EndOK.fin (.inl rfl) ?_)); simp [zaK, zaf, Tryz.results129]; refine FinOK.here (by simp) ?_; try simp)
  simp [PPost]
 ·have hlt : k < ws.length := (lGE.1 hx).1;have hd : ws.drop k = w :: ws.drop (k + 1) := by
   obtain ⟨h5, h6⟩ := lGE.1 hx;rw [<- h6, List.getElem_cons_drop]
  rw [hd, zb7] at h3;have hh := zbt l q w i nx hi h2 hl.len;by_cases hb : isB l q w = true
  ·rw [if_pos hb] at h3;rw [hb, if_pos rfl] at hh;have hq := zbr hl hb;have hck := zfq l (q + 1) 12 i nx hi
   repeat' (first
  | ((first | refine zag ?_ | refine zaj ?_ | fail); simp [hx])
  | (refine ⟨by omega, ?_⟩)
  | ((first | refine zah ?_ | refine zaq ?_ | fail); simp [hx])
  | (refine zap ?_; simp only [zan])
  | (refine ⟨?_, by omega⟩)
  | (intro hc <;> (try (exfalso; omega)))
  | (refine CallP.ok1 (hh) (by first | (simp [hx, zaa, getK, zab, zac]; done) | fail) (by rfl) (by rfl) ?_; (try simp [hx]))
  | (refine CallP.ok1 (hck) (by first | (simp [hx, zaa, getK, zab, zac]; done) | fail) (by rfl) (by rfl) ?_; (try simp [hx]))
  | fail)
   refine LoopW.next ⟨(k + 1, q + 1), by omega, hq, h3⟩ (by simp; omega) ?_
   exact (Wk.cut rfl (by simp [hn, St.lp]) (by simp [wkO, St.lp, zaa, getK, Ob.under, D.under, zad, zae, hi, zab, zac, zaa, getK]) (by simp [wkU, St.lp, zal, zaa, getK, D.under, hi, zab, zac, zaa, getK]) (by simp [wkE, St.lp, zal, zaa, getK, hi, zab, zac, zaa, getK] <;> (try (intros; simp_all; done)) <;> (try (intros; omega)) <;> (try grind)))
  ·have hb2 : isB l q w = false := by simpa using hb
   rw [if_neg hb] at h3;rw [hb2, if_neg (by simp)] at hh;obtain ⟨t, ht⟩ : ∃ t, l[q]? = some t := ⟨_, List.getElem?_eq_getElem h2⟩;have hck := zdW l q t 12 i nx hi ht hl.len
   repeat' (first
  | ((first | refine zag ?_ | refine zaj ?_ | refine zah ?_ | refine zaq ?_ | fail); simp [hx])
  | (refine zap ?_; simp only [zan])
  | (refine ⟨?_, by omega⟩)
  | (intro hc <;> (try (exfalso; omega)))
  | (refine CallP.ok1 (hh) (by first | (simp [hx, zaa, getK, zab, zac]; done) | fail) (by rfl) (by rfl) ?_; (try simp [hx]))
  | (refine CallP.zeN (hck) (by first | (simp [hx, zaa, getK, zab, zac]; done) | fail) (by rfl) (by first | assumption | (simp; done) | fail) (by rfl) (by simp) ?_; rintro ob' ⟨q', rfl⟩; refine ⟨_, Wk.refl _, ?_⟩)
  | fail)
   rw [h3] at hpan
   (refine hpan _ _ ⟨{ n := _, env := [], obs := [(i, pOb l q')], next := nx }, (Wk.cut rfl (by simp [hn]) (by simp [wkO, zaa, getK, zab, zac, Ob.under, D.under, zad, zae, hi, zab, zac, zaa, getK]) (by simp [wkU, zal, zaa, getK, D.under, hi, zab, zac, zaa, getK]) (by simp [wkE, zal, zaa, getK, hi, zab, zac, zaa, getK])), by simp [hn], ?_⟩; try simp)
   all_goals exact ⟨by simp [zdO, ht], ⟨_, ⟨q', rfl⟩, rfl⟩, rfl⟩
theorem znY {c : UInt8} {r : List UInt8} {e : Int} (h : zh0 (c :: r) = .error e) : e ≠ 0 := by
 unfold zh0 at h;simp only at h;split at h
 ·split at h <;> cases h;omega
 ·split at h
  ·split at h <;> cases h;omega
  ·split at h <;> cases h;omega
theorem zlR {s : List UInt8} : ∀ (f p : Nat) (q : Nat) (e : Int), zoc f s p = .error (q, e) -> p <= s.length -> e ≠ 0 /\ q <= s.length
 | 0, p, q, e, h, _ => by simp [zoc] at h
 | f + 1, p, q, e, h, h3 => by
  rw [zoc] at h;have hle := zdY zcr (s.drop p);rw [List.length_drop] at hle;split at h
  ·cases h
  ·rename_i c r hd;have hdl : (s.drop (p + zcT zcr (s.drop p))).length = r.length + 1 := by rw [hd]; rfl
   rw [List.length_drop] at hdl;split at h
   ·rename_i ht;cases h;exact ⟨znY ht, by omega⟩
   ·rename_i t ht;obtain ⟨ht1, ht2⟩ := zgn ht;simp only [List.length_cons] at ht2;split at h
    ·rename_i x hx;cases h;exact zlR f _ q e hx (by omega)
    ·cases h
theorem zpK {s : List UInt8} {q : Nat} {e : Int} (h : zmF s = .error (q, e)) : e ≠ 0 /\ q <= s.length := by
 unfold zmF at h;split at h
 ·cases h; exact ⟨by decide, by omega⟩
 ·exact zlR _ _ _ _ h (by omega)
end Go.Proofs.YtepiegcjnaohjaaGreatDoor
namespace Go.Proofs.YtepiegcjnaohjaaGreatDoor
open Go Go.VL
def PR.bind {α β : Type} : PR α -> (α -> Nat -> PR β) -> PR β
 | .ok a p, f => f a p
 | .stop pos e, _ => .stop pos e
theorem PR.bind_ok {α β : Type} {a : α} {p : Nat} {f : α -> Nat -> PR β} : (PR.ok a p).bind f = f a p := rfl
theorem PR.zaP {α β : Type} {pos e : Int} {f : α -> Nat -> PR β} : (PR.stop pos e : PR α).bind f = .stop pos e := rfl
theorem PR.zaB {α β : Type} {r : PR α} {f : α -> Nat -> PR β} {b : β} {q : Nat} (h : r.bind f = .ok b q) : ∃ a p, r = .ok a p /\ f a p = .ok b q := by
 cases r with
 | ok a p => exact ⟨a, p, rfl, h⟩
 | stop => cases h
theorem PPost.zcQ {α : Type} {l i nx} {val : α -> D} {r : PR α} {a : α} {q : Nat} (h : r = .ok a q) {d : D} (hd : d = val a) {o : List (Nat × Ob)} (ho : o = [(i, pOb l q)]) : PPost l i nx val r (.val d) o nx := by
 subst h; subst hd; subst ho; exact ⟨rfl, rfl, rfl⟩
theorem PPost.zaG {α : Type} {l i nx} {val : α -> D} {r : PR α} {pos e : Int} {q : Nat} (h : r = .stop pos e) : PPost l i nx val r (.pan (chP pos e)) [(i, pOb l q)] nx := by
 subst h; exact ⟨rfl, ⟨_, ⟨q, rfl⟩, rfl⟩, rfl⟩
structure Opr where
 text : List UInt8
 op : Int
 form : Int
def oprs : List Opr := [⟨[111, 114], 11, 1⟩, ⟨[97, 110, 100], 10, 2⟩, ⟨[61, 61], 9, 4⟩, ⟨[60], 8, 4⟩, ⟨[43], 2, 5⟩, ⟨[45], 3, 5⟩, ⟨[42], 4, 6⟩, ⟨[47], 5, 6⟩]
def zst (l : List Tok) (p : Nat) : Option Opr := oprs.find? fun o => isB l p o.text
def zmg (l : List Tok) (p : Nat) : PR Int :=
 if isB l p [99, 111, 105, 110, 115] = true then .ok 3 (p + 1)
 else if isB l p [100, 97, 121, 115] = true then .ok 2 (p + 1)
 else if isB l p [112, 101, 114] = true then (zb7 l (p + 1) [[109, 105, 108, 108, 101]]).bind fun _ q => .ok 4 q
 else .ok 1 p
mutual
def zeM (l : List Tok) : Nat -> Nat -> Int -> PR Exp
 | 0, _, _ => .stop 0 0
 | f + 1, p, form => (zbS l f p form).bind fun e q => zfu l f form e.1 e.2 q
def zfu (l : List Tok) : Nat -> Int -> Exp -> Int -> Nat -> PR Exp
 | 0, _, _, _, _ => .stop 0 0
 | f + 1, form, e, own, q => match zst l q with
  | none => .ok e q
  | some x => if x.form < form \/ own < x.form \/ (own = 4 /\ x.form = 4) then .ok e q
   else (zeM l f (q + 1) (x.form + 1)).bind fun e2 r => zfu l f form (.mk x.op 0 0 [] [e, e2]) x.form r
def zbS (l : List Tok) : Nat -> Nat -> Int -> PR (Exp × Int)
 | 0, _, _ => .stop 0 0
 | f + 1, p, form =>
  if form = 0 /\ isB l p [105, 102] = true then
   (zeM l f (p + 1) 0).bind fun a q1 => (zb7 l q1 [[116, 104, 101, 110]]).bind fun _ q2 => (zeM l f q2 0).bind fun b q3 =>
   (zb7 l q3 [[101, 108, 115, 101]]).bind fun _ q4 => (zeM l f q4 0).bind fun c q5 => .ok (.mk 13 0 0 [] [a, b, c], 0) q5
  else if form <= 3 /\ isB l p [110, 111, 116] = true then (zeM l f (p + 1) 3).bind fun a q => .ok (.mk 12 0 0 [] [a], 3) q
  else (zbk l f p).bind fun e q => .ok (e, 7) q
def zbk (l : List Tok) : Nat -> Nat -> PR Exp
 | 0, _ => .stop 0 0
 | f + 1, p => match l[p]? with
  | none => .stop 0 0
  | some t =>
   if t.kind = 2 then (zmg l (p + 1)).bind fun u q => .ok (.mk 0 t.n u [] []) q
   else if isB l p [116, 114, 117, 101] = true then .ok (.mk 0 1 0 [] []) (p + 1)
   else if isB l p [102, 97, 108, 115, 101] = true then .ok (.mk 0 0 0 [] []) (p + 1)
   else if isB l p [109, 105, 110] = true \/ isB l p [109, 97, 120] = true then
    (zb7 l (p + 1) [[40]]).bind fun _ q1 => (zeM l f q1 0).bind fun a q2 => (zb7 l q2 [[44]]).bind fun _ q3 => (zeM l f q3 0).bind fun b q4 =>
    (zb7 l q4 [[41]]).bind fun _ q5 => .ok (.mk (if isB l p [109, 97, 120] = true then 7 else 6) 0 0 [] [a, b]) q5
   else if isB l p [40] = true then (zeM l f (p + 1) 0).bind fun e q1 => (zb7 l q1 [[41]]).bind fun _ q2 => .ok e q2
   else if t.kind = 1 /\ zeA t.text = true then .ok (.mk 1 0 0 t.text []) (p + 1)
   else .stop t.pos 12
end
theorem za6 {l : List Tok} (hl : TokOK l) : ∀ (ws : List (List UInt8)) {p q : Nat}, zb7 l p ws = .ok () q -> p < l.length -> p <= q /\ q < l.length
 | [], p, q, h, hp => by rw [zb7] at h; cases h; exact ⟨Nat.le_refl _, hp⟩
 | w :: ws, p, q, h, hp => by
  rw [zb7] at h;split at h
  ·rename_i hb;have := za6 hl ws h (zbr hl hb);exact ⟨by omega, this.2⟩
  ·cases h
theorem zpr {l : List Tok} (hl : TokOK l) {p q : Nat} {u : Int} (h : zmg l p = .ok u q) (hp : p < l.length) : p <= q /\ q < l.length := by
 unfold zmg at h;split at h
 ·rename_i hb; cases h; exact ⟨by omega, zbr hl hb⟩
 ·split at h
  ·rename_i hb; cases h; exact ⟨by omega, zbr hl hb⟩
  ·split at h
   ·rename_i hb;obtain ⟨a, r, h1, h2⟩ := PR.zaB h;cases h2;have := za6 hl _ h1 (zbr hl hb);exact ⟨by omega, this.2⟩
   ·cases h; exact ⟨by omega, hp⟩
theorem zcz {l : List Tok} (hl : TokOK l) : ∀ (f : Nat),
  (∀ p form e q, zeM l f p form = .ok e q -> p < l.length -> p <= q /\ q < l.length) /\
  (∀ form e own p e' q, zfu l f form e own p = .ok e' q -> p < l.length -> p <= q /\ q < l.length) /\
  (∀ p form e q, zbS l f p form = .ok e q -> p < l.length -> p <= q /\ q < l.length) /\
  (∀ p e q, zbk l f p = .ok e q -> p < l.length -> p <= q /\ q < l.length)
 | 0 => ⟨fun _ _ _ _ h => by simp [zeM] at h, fun _ _ _ _ _ _ h => by simp [zfu] at h, fun _ _ _ _ h => by simp [zbS] at h, fun _ _ _ h => by simp [zbk] at h⟩
 | f + 1 => by
  obtain ⟨he, hlo, hpr, hpm⟩ := zcz hl f;refine ⟨fun p form e q h hp => ?_, fun form e own p e' q h hp => ?_, fun p form e q h hp => ?_, fun p e q h hp => ?_⟩
  ·rw [zeM] at h;obtain ⟨a, r, h1, h2⟩ := PR.zaB h;have g1 := hpr _ _ _ _ h1 hp;have g2 := hlo _ _ _ _ _ _ h2 g1.2;exact ⟨by omega, g2.2⟩
  ·rw [zfu] at h;split at h
   ·cases h; exact ⟨by omega, hp⟩
   ·rename_i x hx;have hb := List.find?_some hx;have hp2 := zbr hl hb;split at h
    ·cases h; exact ⟨by omega, hp⟩
    ·obtain ⟨a, r, h1, h2⟩ := PR.zaB h;have g1 := he _ _ _ _ h1 hp2;have g2 := hlo _ _ _ _ _ _ h2 g1.2;exact ⟨by omega, g2.2⟩
  ·rw [zbS] at h;split at h
   ·rename_i hb;have hp2 := zbr hl hb.2;obtain ⟨a, r, h1, h⟩ := PR.zaB h;have g1 := he _ _ _ _ h1 hp2;obtain ⟨_, r2, h2, h⟩ := PR.zaB h;have g2 := za6 hl _ h2 g1.2;obtain ⟨a, r3, h3, h⟩ := PR.zaB h;have g3 := he _ _ _ _ h3 g2.2;obtain ⟨_, r4, h4, h⟩ := PR.zaB h;have g4 := za6 hl _ h4 g3.2;obtain ⟨a, r5, h5, h⟩ := PR.zaB h;have g5 := he _ _ _ _ h5 g4.2;cases h;exact ⟨by omega, g5.2⟩
   ·split at h
    ·rename_i hb;have hp2 := zbr hl hb.2;obtain ⟨a, r, h1, h⟩ := PR.zaB h;have g1 := he _ _ _ _ h1 hp2;cases h;exact ⟨by omega, g1.2⟩
    ·obtain ⟨a, r, h1, h⟩ := PR.zaB h;have g1 := hpm _ _ _ h1 hp;cases h;exact g1
  ·rw [zbk] at h;split at h
   ·cases h
   ·rename_i t ht;split at h
    ·rename_i hk;have hp2 := hl.fin p t ht (by omega);obtain ⟨a, r, h1, h⟩ := PR.zaB h;have g1 := zpr hl h1 hp2;cases h;exact ⟨by omega, g1.2⟩
    split at h
    ·rename_i hb; cases h; exact ⟨by omega, zbr hl hb⟩
    split at h
    ·rename_i hb; cases h; exact ⟨by omega, zbr hl hb⟩
    split at h
    ·rename_i hb;have hp2 : p + 1 < l.length := hb.elim (zbr hl) (zbr hl);obtain ⟨_, r2, h2, h⟩ := PR.zaB h;have g2 := za6 hl _ h2 hp2;obtain ⟨a, r3, h3, h⟩ := PR.zaB h;have g3 := he _ _ _ _ h3 g2.2;obtain ⟨_, r4, h4, h⟩ := PR.zaB h;have g4 := za6 hl _ h4 g3.2;obtain ⟨a, r5, h5, h⟩ := PR.zaB h;have g5 := he _ _ _ _ h5 g4.2;obtain ⟨_, r6, h6, h⟩ := PR.zaB h;have g6 := za6 hl _ h6 g5.2;cases h;exact ⟨by omega, g6.2⟩
    split at h
    ·rename_i hb;have hp2 := zbr hl hb;obtain ⟨a, r3, h3, h⟩ := PR.zaB h;have g3 := he _ _ _ _ h3 hp2;obtain ⟨_, r4, h4, h⟩ := PR.zaB h;have g4 := za6 hl _ h4 g3.2;cases h;exact ⟨by omega, g4.2⟩
    split at h
    ·rename_i hk;cases h;exact ⟨by omega, hl.fin p t ht (by omega)⟩
    ·cases h
end Go.Proofs.YtepiegcjnaohjaaGreatDoor
namespace Go.Proofs.YtepiegcjnaohjaaGreatDoor
open Go Go.VL
abbrev W8 := List UInt8
def zmN : W8 -> Int
 | [] => 0
 | c :: _ => if zdv c = true then 1 else if zbC c = true then 2 else 3
theorem zpU {w : W8} (h : w ≠ []) : zmN w ≠ 0 := by
 cases w with
 | nil => exact absurd rfl h
 | cons c w => rw [zmN]; split <;> (try split) <;> decide
def zs6 (w : W8) : Int := if zmN w = 2 then (zgl w).getD 0 else 0
def Reads (l : List Tok) (p : Nat) (ws : List W8) : Prop := ∀ i w, ws[i]? = some w -> w ≠ [] /\ ∃ t, l[p + i]? = some t /\ t.text = w /\ t.kind = zmN w /\ t.n = zs6 w
theorem Reads.left {l p} {a b : List W8} (h : Reads l p (a ++ b)) : Reads l p a := fun i w hi => h i w (by rw [List.getElem?_append_left (lGE.1 hi).1]; exact hi)
theorem Reads.right {l p} {a b : List W8} (h : Reads l p (a ++ b)) : Reads l (p + a.length) b := fun i w hi => by
 have := h (a.length + i) w (by rw [List.getElem?_append_right (by omega), Nat.add_sub_cancel_left]; exact hi)
 rwa [<- nAA] at this
theorem Reads.head {l p} {w : W8} {b : List W8} (h : Reads l p (w :: b)) : w ≠ [] /\ ∃ t, l[p]? = some t /\ t.text = w /\ t.kind = zmN w /\ t.n = zs6 w := h 0 w rfl
theorem Reads.tail {l p} {w : W8} {b : List W8} (h : Reads l p (w :: b)) : Reads l (p + 1) b := Reads.right (a := [w]) h
theorem Reads.isB {l p} {w : W8} {b : List W8} (h : Reads l p (w :: b)) (v : W8) : isB l p v = decide (w = v) := by
 obtain ⟨hw, t, ht, h1, h2, h3⟩ := h.head;have := zpU hw;simp [Go.Proofs.YtepiegcjnaohjaaGreatDoor.isB, ht, h1, h2, this]
theorem Reads.want {l p} {w : W8} {b : List W8} (h : Reads l p (w :: b)) : zb7 l p [w] = .ok () (p + 1) := by
 rw [zb7, if_pos (by rw [h.isB]; simp), zb7]
def Ev {α : Type} (g : Nat -> PR α) (r : PR α) : Prop := ∃ f0, ∀ f, f0 <= f -> g f = r
theorem Ev.succ {α : Type} {g : Nat -> PR α} {r : PR α} (h : Ev (fun f => g (f + 1)) r) : Ev g r := by
 obtain ⟨f0, h⟩ := h;refine ⟨f0 + 1, fun f hf => ?_⟩;obtain ⟨f, rfl⟩ : ∃ k, f = k + 1 := ⟨f - 1, by omega⟩;exact h f (by omega)
theorem Ev.const {α : Type} {r : PR α} : Ev (fun _ => r) r := ⟨0, fun _ _ => rfl⟩
theorem Ev.of {α : Type} {g : Nat -> PR α} {r : PR α} (h : ∀ f, g f = r) : Ev g r := ⟨0, fun f _ => h f⟩
theorem Ev.bind {α β : Type} {g : Nat -> PR α} {a : α} {q : Nat} {F : Nat -> α -> Nat -> PR β} {r : PR β} (h : Ev g (.ok a q)) (h2 : Ev (fun f => F f a q) r) : Ev (fun f => (g f).bind (F f)) r := by
 obtain ⟨f0, h⟩ := h;obtain ⟨f1, h2⟩ := h2;refine ⟨max f0 f1, fun f hf => ?_⟩;show (g f).bind (F f) = r;rw [h f (by omega), PR.bind_ok];exact h2 f (by omega)
end Go.Proofs.YtepiegcjnaohjaaGreatDoor
namespace Go.Proofs.YtepiegcjnaohjaaGreatDoor
open Go Go.VL
end Go.Proofs.YtepiegcjnaohjaaGreatDoor
namespace Go.Proofs.YtepiegcjnaohjaaGreatDoor
open Go Go.VL
end Go.Proofs.YtepiegcjnaohjaaGreatDoor
namespace Go.Proofs.YtepiegcjnaohjaaGreatDoor
open Go Go.VL
end Go.Proofs.YtepiegcjnaohjaaGreatDoor
namespace Go.Proofs.YtepiegcjnaohjaaGreatDoor
open Go Go.VL
end Go.Proofs.YtepiegcjnaohjaaGreatDoor
namespace Go.Proofs.YtepiegcjnaohjaaGreatDoor
open Go Go.VL
end Go.Proofs.YtepiegcjnaohjaaGreatDoor
namespace Go.Proofs.YtepiegcjnaohjaaGreatDoor
open Go Go.VL
def ztU (r : W8) : Prop := ∀ c t, r = c :: t -> zcr c = true
structure GoodW (w : W8) : Prop where
 next : ∀ r, ztU r -> zh0 (w ++ r) = .ok ⟨zmN w, w, zs6 w, 0⟩
 ne : w ≠ []
 head : ∀ c t, w = c :: t -> zcr c = false
def Spaced : List (W8 × W8) -> Prop
 | [] => True
 | [x] => GoodW x.1 /\ ∀ c ∈ x.2, zcr c = true
 | x :: y :: l => GoodW x.1 /\ (∀ c ∈ x.2, zcr c = true) /\ x.2 ≠ [] /\ Spaced (y :: l)
theorem Spaced.good {x : W8 × W8} {l : List (W8 × W8)} (h : Spaced (x :: l)) : GoodW x.1 /\ (∀ c ∈ x.2, zcr c = true) /\ (l ≠ [] -> x.2 ≠ []) /\ Spaced l := by
 cases l with
 | nil => exact ⟨h.1, h.2, fun h => absurd rfl h, trivial⟩
 | cons y l => exact ⟨h.1, h.2.1, fun _ => h.2.2.1, h.2.2.2⟩
end Go.Proofs.YtepiegcjnaohjaaGreatDoor
namespace Go.Proofs.YtepiegcjnaohjaaGreatDoor
open Go Go.VL
theorem PR.zcP {α β : Type} {r : PR α} {F G : α -> Nat -> PR β} (h : ∀ a q, r = .ok a q -> F a q = G a q) : r.bind F = r.bind G := by
 cases r with
 | ok a q => exact h a q rfl
 | stop => rfl
theorem zlV {l : List Tok} (hl : TokOK l) : ∀ (f : Nat),
  (∀ p form, p < l.length -> 4 * (l.length - p) + 3 <= f -> zeM l (f + 1) p form = zeM l f p form) /\
  (∀ p form e own, p < l.length -> 4 * (l.length - p) + 2 <= f -> zfu l (f + 1) form e own p = zfu l f form e own p) /\
  (∀ p form, p < l.length -> 4 * (l.length - p) + 2 <= f -> zbS l (f + 1) p form = zbS l f p form) /\
  (∀ p, p < l.length -> 4 * (l.length - p) + 1 <= f -> zbk l (f + 1) p = zbk l f p)
 | 0 => ⟨fun _ _ _ h => by omega, fun _ _ _ _ _ h => by omega, fun _ _ _ h => by omega, fun _ _ h => by omega⟩
 | f + 1 => by
  obtain ⟨he, hlo, hpr, hpm⟩ := zlV hl f;obtain ⟨le, llo, lpr, lpm⟩ := zcz hl f;refine ⟨fun p form hp hf => ?_, fun p form e own hp hf => ?_, fun p form hp hf => ?_, fun p hp hf => ?_⟩
  ·simp only [zeM];rw [hpr p form hp (by omega)];refine PR.zcP fun a q hq => ?_;have g := lpr _ _ _ _ hq hp;exact hlo _ _ _ _ g.2 (by omega)
  ·rw [zfu, zfu];split
   ·rfl
   ·rename_i x hx;have hb := List.find?_some hx;have hp2 := zbr hl hb;split
    ·rfl
    ·rw [he (p + 1) _ hp2 (by omega)];refine PR.zcP fun a q hq => ?_;have g := le _ _ _ _ hq hp2;exact hlo _ _ _ _ g.2 (by omega)
  ·simp only [zbS];split
   ·rename_i hb;have hp2 := zbr hl hb.2;rw [he (p + 1) _ hp2 (by omega)];refine PR.zcP fun a q1 hq1 => ?_;have g1 := le _ _ _ _ hq1 hp2;refine PR.zcP fun _ q2 hq2 => ?_;have g2 := za6 hl _ hq2 g1.2;rw [he q2 _ g2.2 (by omega)];refine PR.zcP fun b q3 hq3 => ?_;have g3 := le _ _ _ _ hq3 g2.2;refine PR.zcP fun _ q4 hq4 => ?_;have g4 := za6 hl _ hq4 g3.2;rw [he q4 _ g4.2 (by omega)]
   ·split
    ·rename_i hb;rw [he (p + 1) _ (zbr hl hb.2) (by omega)]
    ·rw [hpm p hp (by omega)]
  ·simp only [zbk];split
   ·rfl
   ·split
    ·rfl
    ·split
     ·rfl
     ·split
      ·rfl
      ·split
       ·rename_i hb;have hp2 : p + 1 < l.length := hb.elim (zbr hl) (zbr hl);refine PR.zcP fun _ q1 hq1 => ?_;have g1 := za6 hl _ hq1 hp2;rw [he q1 _ g1.2 (by omega)];refine PR.zcP fun a q2 hq2 => ?_;have g2 := le _ _ _ _ hq2 g1.2;refine PR.zcP fun _ q3 hq3 => ?_;have g3 := za6 hl _ hq3 g2.2;rw [he q3 _ g3.2 (by omega)]
       ·split
        ·rename_i hb;rw [he (p + 1) _ (zbr hl hb) (by omega)]
        ·rfl
theorem zkk {l : List Tok} (hl : TokOK l) {p f : Nat} {form : Int} (hp : p < l.length) (hf : 4 * (l.length - p) + 3 <= f) : ∀ g, zeM l (f + g) p form = zeM l f p form
 | 0 => rfl
 | g + 1 => by rw [<- nAA, (zlV hl (f + g)).1 p form hp (by omega), zkk hl hp hf g]
theorem Ev.fuel {l : List Tok} (hl : TokOK l) {p f : Nat} {form : Int} {r : PR Exp} (h : Ev (fun f => zeM l f p form) r) (hp : p < l.length) (hf : 4 * (l.length - p) + 3 <= f) : zeM l f p form = r := by
 obtain ⟨f0, h⟩ := h;rw [<- zkk hl hp hf f0];exact h (f + f0) (by omega)
end Go.Proofs.YtepiegcjnaohjaaGreatDoor
namespace Go.Proofs.YtepiegcjnaohjaaGreatDoor
open Go Go.VL
def AllGood (ws : List W8) : Prop := ∀ w ∈ ws, GoodW w
theorem AllGood.nil : AllGood [] := fun _ h => by cases h
theorem AllGood.cons {w : W8} {ws : List W8} (h : GoodW w) (h2 : AllGood ws) : AllGood (w :: ws) := fun x hx => by
 rcases List.mem_cons.1 hx with rfl | hx
 ·exact h
 ·exact h2 x hx
theorem AllGood.app {a b : List W8} (h : AllGood a) (h2 : AllGood b) : AllGood (a ++ b) := fun x hx => by
 rcases List.mem_append.1 hx with hx | hx
 ·exact h x hx
 ·exact h2 x hx
end Go.Proofs.YtepiegcjnaohjaaGreatDoor
namespace Go.Proofs.YtepiegcjnaohjaaGreatDoor
open Go Go.VL
end Go.Proofs.YtepiegcjnaohjaaGreatDoor
namespace Go.Proofs.YtepiegcjnaohjaaGreatDoor
open Go Go.VL
attribute [local simp] zdf zcf evPure opd uOf zaI St.put St.at getK binD binI binS binB nilD aggD zgQ zhI lookD lookR zcE Go.VL.nextD zcI zhV zhU zfX zb8 mkV zbo zbh zbf zbe zda zbb zbx zbJ mapEff zdm zfI Key.kk shiftI arith unD convD zdP loadD cellsAt fieldAddrD fieldD indexAddrD indexD sliceD cutD lenD minmaxD nilCheckD buildD fillD zb3 zdi zeX setAll zc1 zeI zcD zg3 zcy St.add zaO zbU rowsOf zdJ zcJ zam zac zaa zbm zcS zaN entry zbH zbL valD zcb zcp zgK zdr zds zcc zbN zaz za1 zbn delAll effD St.effS zc7 zbi za3 zc8 zbj za5 zcn za4 zaT zco zc4 zbM zcl zbw zcj zck zaY mkD zbq zbG zb0 zaz zcC D.ids Op.operands Call.operands zby makeIfD makeFuncD typeAssertD zhG zdG zdH zhb zcG IntKind.bits zcg zaS List.take_of_length_le List.range_succ
attribute [local irreducible] V G H HD HD2 zan Eff CallP CallV EndOK Fun Ret FinOK LoopI LoopW EndW
theorem zoa (s : List UInt8) : Fun Tryz.prog 121 [.u (.str s)] (· = ziy (zmF s)) := by
 unfold zmF;by_cases hlong : 2000 < s.length
 ·have hlong2 : 2000 < (s.length : Int) := by omega
  rw [if_pos hlong]
  (refine Fun.of_bodyW Tryz.func121 rfl (by simp) fun Γ hn => ?_); simp only [entry, ziC, ziN, maC, maN, oA, Tryz.ntmps121]
  repeat' (first
  | ((first | refine zag ?_ | refine zaj ?_ | refine zah ?_ | refine zai ?_ | fail); simp [hlong, hlong2])
  | (refine zar ?_; simp only [zan])
  | fail)
  refine EndW.norm (EndW.here ?_)
  (refine EndOK.val (.inr rfl) ?_; simp [zaK, zaf, zas, Tryz.results121, zaC, zaD, zch, zci, frz, zbc, frzS, fv, zaV, za8, za9, frzObS, zay, zat, zbZ, zcd, zce, zbg])
  simp [ziy]
 rw [if_neg hlong];have hlong2 : ¬ 2000 < (s.length : Int) := by omega
 obtain ⟨R, hR⟩ : ∃ R, R = zoc (s.length + 1) s 0 := ⟨_, rfl⟩;rw [<- hR]
 (refine Fun.of_bodyW Tryz.func121 rfl (by simp) fun Γ hn => ?_); simp only [entry, ziC, ziN, maC, maN, oA, Tryz.ntmps121]
 repeat' (first
  | ((first | refine zag ?_ | refine zaj ?_ | refine zah ?_ | refine zai ?_ | refine zaA ?_ | fail); simp [hlong, hlong2])
  | (refine zap ?_; simp only [zan])
  | fail)
 refine zlt _ (Wk.own 5 201 4 (by decide) rfl) ?_;simp [St.own];refine zb4 (α := { x : List Tok × Nat × Nat // x.2.1 <= s.length /\ s.length < x.2.1 + x.2.2 /\ x.1.length <= x.2.1 /\ R = zmt x.1 (zoc x.2.2 s x.2.1) }) [0] (fun x => [(5, .vec 0 x.1.1.length), (6, .u (.int .i64 x.1.2.1))]) (fun x => [(0, .vec 201 4 (zi1 x.1.1))]) 1 (fun x => x.1.2.2) ⟨([], 0, s.length + 1), by simp, by simp, by simp, by rw [znJ, hR]⟩ ?_ ?_
 ·exact (Wk.cut rfl (by simp [hn, St.lp]) (by simp [wkO, St.lp, zaa, getK, Ob.under, D.under, zad, zae, zi1]) (by simp [wkU, St.lp, zal, zaa, getK, D.under, zi1]) (by simp [wkE, St.lp, zal, zaa, getK, zi1] <;> (try (intros; simp_all; done)) <;> (try (intros; omega)) <;> (try grind)))
 rintro ⟨⟨acc, p, f⟩, h1, h2, h3, h4⟩;simp only at h1 h2 h3 h4;simp [St.lp, St.only, zal, zaa, getK];obtain ⟨f', rfl⟩ : ∃ f', f = f' + 1 := ⟨f - 1, by omega⟩;rw [zoc] at h4;have hsp := zfS (s.drop p) (by rw [List.length_drop]; omega) 198 zcr (fun c _ => zoZ c) (by simp);have hle := zdY zcr (s.drop p);rw [List.length_drop] at hle;obtain ⟨b, hb⟩ : ∃ b, b = zcT zcr (s.drop p) := ⟨_, rfl⟩;rw [<- hb] at hsp hle h4;have hp1 : (p : Int) <= s.length := by omega
 have hpb : (p : Int) + b <= s.length := by omega
 rcases hd : s.drop (p + b) with _ | ⟨c, r⟩
 ·have hdl : (s.drop (p + b)).length = 0 := by rw [hd]; rfl
  rw [List.length_drop] at hdl;have hpe : p + b = s.length := by omega
  have hpe2 : (p : Int) + b = s.length := by omega
  rw [hd] at h4;simp only at h4;have hap : zi1 acc ++ [[D.u (.int .i64 0), D.u (.str []), D.u (.int .i64 0), D.u (.int .i64 (s.length : Int))]] = zi1 (acc ++ [⟨0, [], 0, s.length⟩]) := by simp [zi1]
  have hlr : zh2 4 (zi1 acc) := fun r hr => by obtain ⟨t, _, rfl⟩ := List.mem_map.1 hr; rfl
  rw [hpe] at h4
  repeat' (first
  | ((first | refine zag ?_ | refine zaj ?_ | fail); simp [h1, hp1, hpe2, zcZ, hap, hlr])
  | (refine ⟨by omega, ?_⟩)
  | ((first | refine zah ?_ | refine zai ?_ | refine zaA ?_ | fail); simp [h1, hp1, hpe2, zcZ, hap, hlr])
  | (refine zar ?_; simp only [zan])
  | (refine CallP.fE (hsp) (by first | rfl | fail) (by first | simp [h1, hp1, hpe2, zcZ, hap, hlr] <;> rfl | fail) ?_; (try simp [h1, hp1, hpe2, zcZ, hap, hlr]))
  | fail)
  (refine EndW.frzN 3 ?_; simp [frzN, frz1, zaD, zaC, St.frz, St.frzS, frzS, fv, zaV, za8, za9, frzObS, zay, zat, del, frz, zbc, zlF, zcZ, List.length_append])
  refine EndW.norm (EndW.here ?_)
  (refine EndOK.val (.inr rfl) ?_; simp [zaK, zaf, zas, Tryz.results121, zaC, zaD, zch, zci, frz, zbc, frzS, fv, zaV, za8, za9, frzObS, zay, zat, zbZ, zcd, zce, zbg, zlF, zcZ, List.length_append])
  rw [h4];simp [zmt, ziy]
 ·have hdl : (s.drop (p + b)).length = r.length + 1 := by rw [hd]; rfl
  rw [List.length_drop] at hdl;have hpe : ¬ p + b = s.length := by omega
  have hpe2 : ¬ (p : Int) + b = s.length := by omega
  have hnx := zpE (s.drop (p + b)) (by rw [hd]; simp) (by rw [List.length_drop]; omega);unfold nextD at hnx;rw [hd] at h4;simp only at h4;rw [hd] at hnx;have hpb2 : ((p : Int) + b).toNat = p + b := by omega
  have hpb3 : p + b <= s.length := by omega
  cases hno : zh0 (c :: r) with
  | error e =>
   rw [hno] at h4 hnx;have he : e ≠ 0 := by
    unfold zh0 at hno;simp only at hno;split at hno
    ·split at hno <;> cases hno;omega
    ·split at hno
     ·split at hno <;> cases hno;omega
     ·split at hno <;> cases hno;omega
   repeat' (first
  | ((first | refine zag ?_ | refine zaj ?_ | fail); simp [h1, hp1, hpe, hpe2, hd, he, hpb, hpb2, hpb3])
  | (refine ⟨by omega, ?_⟩)
  | ((first | refine zah ?_ | refine zai ?_ | refine zaA ?_ | fail); simp [h1, hp1, hpe, hpe2, hd, he, hpb, hpb2, hpb3])
  | ((first | refine zar ?_ | refine zap ?_ | fail); simp only [zan])
  | (refine CallP.fE (hsp) (by first | rfl | fail) (by first | simp [h1, hp1, hpe, hpe2, hd, he, hpb, hpb2, hpb3] <;> rfl | fail) ?_; (try simp [h1, hp1, hpe, hpe2, hd, he, hpb, hpb2, hpb3]))
  | (refine CallP.fE (hnx) (by first | rfl | fail) (by first | simp [h1, hp1, hpe, hpe2, hd, he, hpb, hpb2, hpb3] <;> rfl | fail) ?_; (try simp [h1, hp1, hpe, hpe2, hd, he, hpb, hpb2, hpb3]))
  | fail)
   refine EndW.norm (EndW.here ?_)
   (refine EndOK.val (.inr rfl) ?_; simp [zaK, zaf, zas, Tryz.results121, zaC, zaD, zch, zci, frz, zbc, frzS, fv, zaV, za8, za9, frzObS, zay, zat, zbZ, zcd, zce, zbg])
   rw [h4];simp [zmt, ziy]
  | ok t =>
   rw [hno] at h4 hnx;obtain ⟨ht1, ht2⟩ := zgn hno;simp only [List.length_cons] at ht2;have hap : zi1 acc ++ [[D.u (.int .i64 t.kind), D.u (.str t.text), D.u (.int .i64 t.n), D.u (.int .i64 ((p : Int) + b))]] = zi1 (acc ++ [{ t with pos := ((p + b : Nat) : Int) }]) := by simp [zi1]
   have hlr : zh2 4 (zi1 acc) := fun r hr => by obtain ⟨t, _, rfl⟩ := List.mem_map.1 hr; rfl
   repeat' (first
  | ((first | refine zag ?_ | refine zaj ?_ | fail); simp [h1, hp1, hpe, hpe2, hd, hpb, hpb2, hpb3, zcZ, hap, hlr])
  | (refine ⟨by omega, ?_⟩)
  | ((first | refine zah ?_ | refine zai ?_ | refine zaA ?_ | refine zaq ?_ | fail); simp [h1, hp1, hpe, hpe2, hd, hpb, hpb2, hpb3, zcZ, hap, hlr])
  | (refine zap ?_; simp only [zan])
  | (refine CallP.fE (hsp) (by first | rfl | fail) (by first | simp [h1, hp1, hpe, hpe2, hd, hpb, hpb2, hpb3, zcZ, hap, hlr] <;> rfl | fail) ?_; (try simp [h1, hp1, hpe, hpe2, hd, hpb, hpb2, hpb3, zcZ, hap, hlr]))
  | (refine CallP.fE (hnx) (by first | rfl | fail) (by first | simp [h1, hp1, hpe, hpe2, hd, hpb, hpb2, hpb3, zcZ, hap, hlr] <;> rfl | fail) ?_; (try simp [h1, hp1, hpe, hpe2, hd, hpb, hpb2, hpb3, zcZ, hap, hlr]))
  | fail)
   refine LoopW.next ⟨(acc ++ [{ t with pos := ((p + b : Nat) : Int) }], p + b + t.text.length, f'), by simp; omega, by simp; omega, by simp; omega, ?_⟩ (by simp) ?_
   ·rw [h4];simp only;cases zoc f' s (p + b + t.text.length) <;> simp [zmt]
   ·skip
    exact (Wk.ren ((fun i => if i = 0 then 3 else i)) rfl (by first | (simp [hn]; done) | (intro i hi; rw [hn] at hi; constructor <;> (try simp) <;> (try (intro _)) <;> omega)) (by simp [zhW, St.lp, zal, zaa, getK, zac, zam, D.under, D.le, D.ren, zhj, zge] <;> (try (intros; simp_all; done)) <;> (try omega)) (by simp [wkR, St.lp, zaa, getK, zac, zam, obR, leU, zbR, zaX, Ob.under, D.under, D.le, D.ren, zhj, zge] <;> (try (intros; simp_all; done)) <;> (try omega)) (by simp [zhj, zge]))
abbrev zsY (o : Opr) : D := .u (.agg [.str o.text, .int .i64 o.op, .int .i64 o.form])
abbrev znS (l : List Opr) : U := .sl (l.map fun o => [.str o.text, .int .i64 o.op, .int .i64 o.form])
theorem zi7 : Fun Tryz.prog 139 [] (· = .u (znS oprs)) := by
 unfold znS oprs
 (refine Fun.of_bodyW Tryz.func139 rfl (by simp) fun Γ hn => ?_); simp only [entry, ziC, ziN, maC, maN, oA, Tryz.ntmps139]
 repeat' (first
  | ((first | refine zag ?_ | refine zaj ?_ | refine zah ?_ | fail); simp [zbL, zbH])
  | (refine zar ?_; simp only [zan])
  | fail)
 (refine EndW.frzN 1 ?_; simp [frzN, frz1, zaD, zaC, St.frz, St.frzS, frzS, fv, zaV, za8, za9, frzObS, zay, zat, del, frz, zbc])
 refine EndW.here ?_
 (refine EndOK.val (.inr rfl) ?_; simp [zaK, zaf, zas, Tryz.results139])
theorem zqa (l : List Tok) (q : Nat) (o : Opr) (hq : q < l.length) (hl : l.length <= 1000000) : Fun Tryz.prog 248 (zsY o :: [U.row [zqW l q] 0].map .u) (· = .u (.bool (isB l q o.text))) := by
 have h1 := zd1 l q o.text hq hl;simp only [List.map_cons, List.map_nil, zsY]
 (refine Fun.of_body Tryz.func248 rfl (by simp) fun Γ hn => ?_); simp only [entry, ziC, ziN, maC, maN, oA, Tryz.ntmps248]
 repeat' (first
  | ((first | refine zag ?_ | refine zaj ?_ | refine zah ?_ | fail); simp)
  | (refine zar ?_; simp only [zan])
  | (refine CallP.fE (h1) (by first | rfl | fail) (by first | (simp; done) | (simp; rfl) | fail) ?_; (try simp))
  | fail)
 (refine EndOK.val (.inr rfl) ?_; simp [zaK, zaf, zas, Tryz.results248])
theorem zmS (l : List (Opr)) (f : FuncId) (caps : List U) (p : Opr -> Bool) (hf : ∀ n ∈ l, Fun Tryz.prog f (zsY n :: caps.map .u) (· = .u (.bool (p n)))) (hcl : zak Tryz.prog f = true)
  (hca : ∀ o, zcp o (caps.map .u) = some (caps.map .u, [])) : Fun Tryz.prog 140 [.u (znS l), .fnc (.func f) (caps.map .u)] (· = .u (.int .i64 (zfj p l 0))) := by
 (refine Fun.of_body Tryz.func140 rfl (by simp) fun Γ hn => ?_); simp only [entry, ziC, ziN, maC, maN, oA, Tryz.ntmps140]
 simp only [znS];refine zgR (x := 0) rfl fun hl => ?_;simp at hl
 repeat' (first
  | ((first | refine zag ?_ | refine zaj ?_ | refine zah ?_ | refine zaA ?_ | fail); simp)
  | fail)
 refine zb2 (α := { i : Nat // i <= l.length /\ ∀ c ∈ l.take i, p c = false }) [0, 1, 7] (fun i => [(8, .u (.int .i64 i.1))]) (fun i => l.length - i.1) ⟨0, by omega, by simp⟩ ?_ ?_
 ·exact (Wk.env rfl rfl rfl (by simp [wkE, St.lp, zal, zaa, getK] <;> (try (intros; simp_all; done)) <;> (try (intros; omega)) <;> (try grind)))
 rintro ⟨i, hi, hb⟩;simp [St.lp, St.only, zal, zaa, getK];rcases hx : l[i]? with _ | n
 ·have hge : l.length <= i := by simpa using hx
  repeat' (first
  | ((first | refine zag ?_ | refine zaj ?_ | fail); simp [hx])
  | (refine ⟨by omega, ?_⟩)
  | (refine zah ?_; simp [hx])
  | (refine zar ?_; simp only [zan])
  | (refine zaZ ?_; simp [zan])
  | (intro hc <;> (try (exfalso; omega)))
  | fail)
  (refine EndOK.val (.inr rfl) ?_; simp [zaK, zaf, zas, Tryz.results140])
  rw [List.take_of_length_le hge] at hb;exact (zdA hb).symm
 ·have hlt : i < l.length := (lGE.1 hx).1;have h1 := hf n (List.mem_of_getElem? hx);simp only [zsY] at h1;cases hp : p n
  ·rw [hp] at h1
   repeat' (first
  | ((first | refine zag ?_ | refine zaj ?_ | fail); simp [hx, hca])
  | (refine ⟨by omega, ?_⟩)
  | ((first | refine zah ?_ | refine zai ?_ | refine zaq ?_ | fail); simp [hx, hca])
  | (refine zap ?_; simp only [zan])
  | (refine ⟨?_, by omega⟩)
  | (intro hc <;> (try (exfalso; omega)))
  | (refine CallP.fE (h1) (by first | rfl | fail) (by first | simp [hx, hca] <;> rfl | fail) ?_; (try simp [hcl, hx, hca]))
  | fail)
   refine LoopW.next ⟨i + 1, by omega, za7 hx hb hp⟩ (by simp; omega) ?_
   exact (Wk.env rfl rfl rfl (by simp [wkE, St.lp, zal, zaa, getK] <;> (try (intros; simp_all; done)) <;> (try (intros; omega)) <;> (try grind)))
  ·rw [hp] at h1
   repeat' (first
  | ((first | refine zag ?_ | refine zaj ?_ | refine zah ?_ | refine zai ?_ | fail); simp [hx, hca])
  | ((first | refine zar ?_ | refine zap ?_ | fail); simp only [zan])
  | (refine ⟨?_, by omega⟩)
  | (intro hc <;> (try (exfalso; omega)))
  | (refine CallP.fE (h1) (by first | rfl | fail) (by first | simp [hx, hca] <;> rfl | fail) ?_; (try simp [hcl, hx, hca]))
  | fail)
   (refine EndOK.val (.inr rfl) ?_; simp [zaK, zaf, zas, Tryz.results140])
   rw [ze2 hb hx hp];omega
theorem zhz {p : Opr -> Bool} : ∀ (L : List Opr) (k : Int), (L.find? p = none -> zfj p L k = -1) /\ ∀ x, L.find? p = some x -> ∃ j : Nat, L[j]? = some x /\ zfj p L k = k + j
 | [], k => ⟨fun _ => rfl, fun x h => by simp at h⟩
 | a :: L, k => by
  by_cases h : p a = true
  ·refine ⟨fun h1 => by simp [h] at h1, fun x h1 => ?_⟩;rw [List.find?_cons, h] at h1;cases h1;exact ⟨0, rfl, by rw [zfj, if_pos h]; simp⟩
  ·have h' : p a = false := by simpa using h
   obtain ⟨h1, h2⟩ := zhz L (k + 1);refine ⟨fun h3 => ?_, fun x h3 => ?_⟩
   ·rw [List.find?_cons, h'] at h3;rw [zfj, if_neg h];exact h1 h3
   ·rw [List.find?_cons, h'] at h3;obtain ⟨j, h4, h5⟩ := h2 x h3;exact ⟨j + 1, h4, by rw [zfj, if_neg h, h5]; omega⟩
theorem zmR (l : List Tok) (q : Nat) (hq : q < l.length) (hl : l.length <= 1000000) : Fun Tryz.prog 140 [.u (znS oprs), .fnc (.func 248) [.u (.row [zqW l q] 0)]]
  (· = .u (.int .i64 (zfj (fun o => isB l q o.text) oprs 0))) :=
 zmS oprs 248 [U.row [zqW l q] 0] (fun o => isB l q o.text) (fun o _ => zqa l q o hq hl) rfl (fun o => rfl)
end Go.Proofs.YtepiegcjnaohjaaGreatDoor
namespace Go.Proofs.YtepiegcjnaohjaaGreatDoor
open Go Go.VL
attribute [local simp] HS zdf zcf evPure opd uOf zaI St.put St.at getK binD binI binS binB nilD aggD zgQ zhI lookD lookR zcE Go.VL.nextD zcI zhV zhU zfX zb8 mkV zbo zbh zbf zbe zda zbb zbx zbJ mapEff zdm zfI Key.kk shiftI arith unD convD zdP loadD cellsAt fieldAddrD fieldD indexAddrD indexD sliceD cutD lenD minmaxD nilCheckD buildD fillD zb3 zdi zeX setAll zc1 zeI zcD zg3 zcy St.add zaO zbU rowsOf zdJ zcJ zam zac zaa zbm zcS zaN entry zbH zbL valD zcb zcp zgK zdr zds zcc zbN zaz za1 zbn delAll effD St.effS zc7 zbi za3 zc8 zbj za5 zcn za4 zaT zco zc4 zbM zcl zbw zcj zck zaY mkD zbq zbG zb0 zaz zcC D.ids Op.operands Call.operands zby makeIfD makeFuncD typeAssertD zhG zdG zdH zhb zcG IntKind.bits zcg zaS List.take_of_length_le List.range_succ
attribute [local irreducible] V G H HD HD2 HD4 znh RetX zan Eff CallP CallV EndOK Fun Ret FinOK LoopI LoopW EndW
abbrev zeP (e : Exp) : D := .u (.agg e.row)
abbrev zjf (n : Int) : D := .u (.int .i64 n)
theorem za0 {i nx : Nat} (h : i < nx) : ¬ i = nx /\ ¬ nx = i /\ (∀ k, ¬ i = nx + k) /\ ∀ k, ¬ nx + k = i := ⟨by omega, by omega, fun k => by omega, fun k => by omega⟩
theorem zpq (l : List Tok) (p : Nat) (i nx : Nat) (hi : i < nx) (hp : p < l.length) (hl : TokOK l) :
  RetX Tryz.prog 303 [.ptr i 0] [(i, pOb l p)] nx (PPost l i nx zjf (zmg l p)) := by
 have hne := za0 hi;have hh1 := fun nx' (h : nx <= nx') => zbt l p [99, 111, 105, 110, 115] i nx' (by omega) hp hl.len;have hh2 := fun nx' (h : nx <= nx') => zbt l p [100, 97, 121, 115] i nx' (by omega) hp hl.len;have hh3 := fun nx' (h : nx <= nx') => zbt l p [112, 101, 114] i nx' (by omega) hp hl.len;unfold zmg;by_cases h1 : isB l p [99, 111, 105, 110, 115] = true
 ·simp only [h1, if_true] at hh1 ⊢
  (refine RetX.of_bodyW Tryz.func303 rfl (by simp) fun Γ hn hpan => ?_); simp only [entry, ziC, ziN, maC, maN, oA, Tryz.ntmps303]
  repeat' (first
  | ((first | refine zag ?_ | refine zaj ?_ | refine zah ?_ | refine zai ?_ | fail); simp [hne])
  | (refine zar ?_; simp only [zan])
  | (refine CallP.ok1 (hh1 _ (by first | omega | simp <;> omega | fail)) (by first | (simp [hne, zaa, getK, zab, zac]; done) | fail) (by rfl) (by rfl) ?_; (try simp [hne]))
  | fail)
  (refine EndW.here ?_; (first | (refine EndOK.fin (.inr rfl) ?_) | (refine EndOK.fin (.inl rfl) ?_)); simp [zaK, zaf, Tryz.results303]; refine FinOK.here (by simp) ?_; try simp)
  exact PPost.zcQ rfl rfl (by first | rfl | simp [del])
 ·simp only [h1, Bool.false_eq_true, if_false] at hh1 ⊢;by_cases h2 : isB l p [100, 97, 121, 115] = true
  ·simp only [h2, if_true] at hh2 ⊢
   (refine RetX.of_bodyW Tryz.func303 rfl (by simp) fun Γ hn hpan => ?_); simp only [entry, ziC, ziN, maC, maN, oA, Tryz.ntmps303]
   repeat' (first
  | ((first | refine zag ?_ | refine zaj ?_ | refine zah ?_ | refine zai ?_ | fail); simp [hne])
  | (refine zar ?_; simp only [zan])
  | (refine CallP.ok1 (hh1 _ (by first | omega | simp <;> omega | fail)) (by first | (simp [hne, zaa, getK, zab, zac]; done) | fail) (by rfl) (by rfl) ?_; (try simp [hne]))
  | (refine CallP.ok1 (hh2 _ (by first | omega | simp <;> omega | fail)) (by first | (simp [hne, zaa, getK, zab, zac]; done) | fail) (by rfl) (by rfl) ?_; (try simp [hne]))
  | fail)
   (refine EndW.here ?_; (first | (refine EndOK.fin (.inr rfl) ?_) | (refine EndOK.fin (.inl rfl) ?_)); simp [zaK, zaf, Tryz.results303]; refine FinOK.here (by simp) ?_; try simp)
   exact PPost.zcQ rfl rfl (by first | rfl | simp [del])
  ·simp only [h2, Bool.false_eq_true, if_false] at hh2 ⊢;by_cases h3 : isB l p [112, 101, 114] = true
   ·simp only [h3, if_true] at hh3 ⊢;have hw := fun nx' (h : nx <= nx') => ziS l (p + 1) [[109, 105, 108, 108, 101]] i nx' (by omega) (zbr hl h3) hl (by simp);cases hr : zb7 l (p + 1) [[109, 105, 108, 108, 101]] with
    | ok a q =>
     simp only [hr, List.map_cons, List.map_nil] at hw
     (refine RetX.of_bodyW Tryz.func303 rfl (by simp) fun Γ hn hpan => ?_); simp only [entry, ziC, ziN, maC, maN, oA, Tryz.ntmps303]
     repeat' (first
  | ((first | refine zag ?_ | refine zaj ?_ | refine zah ?_ | refine zai ?_ | fail); simp [hne])
  | (refine zar ?_; simp only [zan])
  | (refine CallP.ok1 (hh1 _ (by first | omega | simp <;> omega | fail)) (by first | (simp [hne, zaa, getK, zab, zac]; done) | fail) (by rfl) (by rfl) ?_; (try simp [hne]))
  | (refine CallP.ok1 (hh2 _ (by first | omega | simp <;> omega | fail)) (by first | (simp [hne, zaa, getK, zab, zac]; done) | fail) (by rfl) (by rfl) ?_; (try simp [hne]))
  | (refine CallP.ok1 (hh3 _ (by first | omega | simp <;> omega | fail)) (by first | (simp [hne, zaa, getK, zab, zac]; done) | fail) (by rfl) (by rfl) ?_; (try simp [hne]))
  | (refine CallP.ok1 (hw _ (by first | omega | simp <;> omega | fail)) (by first | (simp [hne, zaa, getK, zab, zac]; done) | fail) (by rfl) (by rfl) ?_; (try simp [hne]))
  | (refine zaJ (by first | rfl | fail) ?_; simp [hne, frzN, frz1, zaD, zaC, St.frz, St.frzS, frzS, fv, zaV, za8, za9, frzObS, zay, zat, del, frz, zbc])
  | fail)
     (refine EndW.wk { n := _, env := [(2, zjf 4)], obs := [(i, pOb l q)], next := nx } (Wk.cut rfl (by simp [hn]) (by simp [wkO, zaa, getK, zab, zac, Ob.under, D.under, zad, zae, hne, hi]) (by simp [wkU, zal, zaa, getK, D.under, hne, hi]) (by simp [wkE, zal, zaa, getK, hne, hi])) (EndW.here ?_); (first | (refine EndOK.fin (.inr rfl) ?_) | (refine EndOK.fin (.inl rfl) ?_)); simp [zaK, zaf, Tryz.results303]; refine FinOK.here (by simp) ?_; try simp)
     exact PPost.zcQ rfl rfl (by first | rfl | simp [del])
    | stop pos e =>
     simp only [hr, List.map_cons, List.map_nil] at hw
     (refine RetX.of_bodyW Tryz.func303 rfl (by simp) fun Γ hn hpan => ?_); simp only [entry, ziC, ziN, maC, maN, oA, Tryz.ntmps303]
     repeat' (first
  | ((first | refine zag ?_ | refine zaj ?_ | refine zah ?_ | refine zai ?_ | fail); simp [hne])
  | (refine CallP.ok1 (hh1 _ (by first | omega | simp <;> omega | fail)) (by first | (simp [hne, zaa, getK, zab, zac]; done) | fail) (by rfl) (by rfl) ?_; (try simp [hne]))
  | (refine CallP.ok1 (hh2 _ (by first | omega | simp <;> omega | fail)) (by first | (simp [hne, zaa, getK, zab, zac]; done) | fail) (by rfl) (by rfl) ?_; (try simp [hne]))
  | (refine CallP.ok1 (hh3 _ (by first | omega | simp <;> omega | fail)) (by first | (simp [hne, zaa, getK, zab, zac]; done) | fail) (by rfl) (by rfl) ?_; (try simp [hne]))
  | (refine CallP.zeN (hw _ (by first | omega | simp <;> omega | fail)) (by first | (simp [hne, zaa, getK, zab, zac]; done) | fail) (by rfl) (by first | assumption | (simp; done) | fail) (by rfl) (by simp) ?_; rintro ob' ⟨q', rfl⟩; refine ⟨_, Wk.refl _, ?_⟩)
  | (refine zaJ (by first | rfl | fail) ?_; simp [hne, frzN, frz1, zaD, zaC, St.frz, St.frzS, frzS, fv, zaV, za8, za9, frzObS, zay, zat, del, frz, zbc])
  | fail)
     (refine hpan _ _ ⟨{ n := _, env := [], obs := [(i, pOb l q')], next := nx }, (Wk.cut rfl (by simp [hn]) (by simp [wkO, zaa, getK, zab, zac, Ob.under, D.under, zad, zae, hi, zab, zac, zaa, getK]) (by simp [wkU, zal, zaa, getK, D.under, hi, zab, zac, zaa, getK]) (by simp [wkE, zal, zaa, getK, hi, zab, zac, zaa, getK])), by simp [hn], ?_⟩; try simp)
     exact PPost.zaG rfl
   ·simp only [h3, Bool.false_eq_true, if_false] at hh3 ⊢
    (refine RetX.of_bodyW Tryz.func303 rfl (by simp) fun Γ hn hpan => ?_); simp only [entry, ziC, ziN, maC, maN, oA, Tryz.ntmps303]
    repeat' (first
  | ((first | refine zag ?_ | refine zaj ?_ | refine zah ?_ | refine zai ?_ | fail); simp [hne])
  | ((first | refine zar ?_ | refine zap ?_ | fail); simp only [zan])
  | (refine CallP.ok1 (hh1 _ (by first | omega | simp <;> omega | fail)) (by first | (simp [hne, zaa, getK, zab, zac]; done) | fail) (by rfl) (by rfl) ?_; (try simp [hne]))
  | (refine CallP.ok1 (hh2 _ (by first | omega | simp <;> omega | fail)) (by first | (simp [hne, zaa, getK, zab, zac]; done) | fail) (by rfl) (by rfl) ?_; (try simp [hne]))
  | (refine CallP.ok1 (hh3 _ (by first | omega | simp <;> omega | fail)) (by first | (simp [hne, zaa, getK, zab, zac]; done) | fail) (by rfl) (by rfl) ?_; (try simp [hne]))
  | fail)
    (refine EndW.here ?_; (first | (refine EndOK.fin (.inr rfl) ?_) | (refine EndOK.fin (.inl rfl) ?_)); simp [zaK, zaf, Tryz.results303]; refine FinOK.here (by simp) ?_; try simp)
    exact PPost.zcQ rfl rfl (by first | rfl | simp [del])
abbrev zj2 (e : Exp × Int) : D := .tup [.u (.agg e.1.row), .u (.int .i64 e.2)]
def zhS (l : List Tok) (f : Nat) : Prop := ∀ (p : Nat) (form : Int) (i nx : Nat), i < nx -> p < l.length -> 4 * (l.length - p) + 3 <= f -> 0 <= form -> form <= 7 ->
 RetX Tryz.prog 203 [.ptr i 0, zjf form] [(i, pOb l p)] nx (PPost l i nx zeP (zeM l f p form))
def zrZ (l : List Tok) (f : Nat) : Prop := ∀ (p : Nat) (form : Int) (i nx : Nat), i < nx -> p < l.length -> 4 * (l.length - p) + 2 <= f -> 0 <= form -> form <= 7 ->
 RetX Tryz.prog 247 [.ptr i 0, zjf form] [(i, pOb l p)] nx (PPost l i nx zj2 (zbS l f p form))
def ziQ (l : List Tok) (f : Nat) : Prop := ∀ (p : Nat) (i nx : Nat), i < nx -> p < l.length -> 4 * (l.length - p) + 1 <= f ->
 RetX Tryz.prog 283 [.ptr i 0] [(i, pOb l p)] nx (PPost l i nx zeP (zbk l f p))
theorem zeO {l : List Tok} (hl : TokOK l) (w : List UInt8) {q i nx : Nat} (hi : i < nx) (hq : q < l.length) :
  RetX Tryz.prog 129 [.ptr i 0, .u (.sl [[.str w]])] [(i, pOb l q)] nx (PPost l i nx (fun _ => .tup []) (zb7 l q [w])) := ziS l q [w] i nx hi hq hl (by simp)
theorem zkY {l : List Tok} (hl : TokOK l) {f p : Nat} {t : Tok} (ht : l[p]? = some t) (hk : t.kind = 2) {i nx : Nat} (hi : i < nx) :
  RetX Tryz.prog 283 [.ptr i 0] [(i, pOb l p)] nx (PPost l i nx zeP (zbk l (f + 1) p)) := by
 have hne := za0 hi;have hp := (lGE.1 ht).1;have hnx := zcv l p t ht hl.len;have hp2 := hl.fin p t ht (by omega);have hll := hl.len;rw [zbk, ht];simp only [hk, if_true] at hnx ⊢;have hu := fun nx' (h : nx <= nx') => zpq l (p + 1) i nx' (by omega) hp2 hl;cases hr : zmg l (p + 1) with
 | ok a q =>
  simp only [hr] at hu
  (refine RetX.of_bodyW Tryz.func283 rfl (by simp) fun Γ hn hpan => ?_); simp only [entry, ziC, ziN, maC, maN, oA, Tryz.ntmps283]
  repeat' (first
  | (refine zhP (fun nx' h' => hu nx' (by simp at h'; omega)) (by first | (simp [hne, zaa, getK, zab, zac, zam, zaY]; done) | fail) (by rfl) (by first | assumption | simp) (by rfl) (by simp [D.under, Ob.under]) (by simp) ?_; (try simp [hne]))
  | ((first | refine zag ?_ | refine zbW rfl ?_ | refine zdt rfl ?_ | refine zaj ?_ | fail); simp [hne])
  | (refine ⟨by omega, ?_⟩)
  | ((first | refine zah ?_ | refine zai ?_ | fail); simp [hne])
  | (refine zcu (hC _ (zdu [i] nx (by simp <;> omega) (by simp <;> omega) (by apply Exists.intro; apply And.intro; (focus (repeat' (first | exact KF.nil | exact KL.nil | apply KF.cons | apply KL.cons 0 rfl | apply KL.cons 1 rfl | apply KL.cons 2 rfl | apply KL.cons 3 rfl | apply KL.cons 4 rfl | apply KL.cons 5 rfl | apply KL.cons 6 rfl | apply KL.cons 7 rfl | apply KL.cons 8 rfl | apply KL.cons 9 rfl))); kernel_rfl))) (hk _ ?_); clear hC hk C k; simp only [zan])
  | (refine zbV rfl (by kernel_rfl) (by first | (simp [hn]; done) | (simp [hn]; omega) | fail) fun C k hC hk => ?_; simp [hne])
  | (refine zar ?_; simp only [zan])
  | (refine CallP.fE (hnx) (by first | rfl | fail) (by first | simp [hne] <;> rfl | fail) ?_; (try simp [hne]))
  | fail)
  refine EndW.norm ?_;simp [St.norm, zbg, zbZ, zcd, zce, hne]
  (refine EndW.here ?_; (first | (refine EndOK.fin (.inr rfl) ?_) | (refine EndOK.fin (.inl rfl) ?_)); simp [zaK, zaf, Tryz.results283, hne, hi]; refine FinOK.cut [(i, pOb l q)] (nx) (by simp [zaa, getK, zab, zac, Ob.under, D.under, zad, zae, hne, hi] <;> omega) (by simp [D.under]) (by simp [hn]) ?_; try simp)
  exact PPost.zcQ rfl (by simp [Exp.row]) rfl
 | stop pos e =>
  simp only [hr] at hu
  (refine RetX.of_bodyW Tryz.func283 rfl (by simp) fun Γ hn hpan => ?_); simp only [entry, ziC, ziN, maC, maN, oA, Tryz.ntmps283]
  repeat' (first
  | (refine zgb (fun nx' h' => hu nx' (by simp at h'; omega)) (by first | (simp [hne, zaa, getK, zab, zac, zam, zaY]; done) | fail) (by rfl) (by first | assumption | simp) (by rfl) (by simp) ?_ ?_; rintro env' ob' n' hn' ⟨q', rfl⟩; refine ⟨_, Wk.refl _, ?_⟩)
  | (refine zfc rfl (by simp) ?_; simp)
  | ((first | refine zag ?_ | refine zbW rfl ?_ | refine zaj ?_ | fail); simp [hne])
  | (refine ⟨by omega, ?_⟩)
  | ((first | refine zah ?_ | refine zai ?_ | fail); simp [hne])
  | (refine zgc (hC _ (zdu [i] nx (by simp <;> omega) (by simp <;> omega) (by apply Exists.intro; apply And.intro; (focus (repeat' (first | exact KF.nil | exact KL.nil | apply KF.cons | apply KL.cons 0 rfl | apply KL.cons 1 rfl | apply KL.cons 2 rfl | apply KL.cons 3 rfl | apply KL.cons 4 rfl | apply KL.cons 5 rfl | apply KL.cons 6 rfl | apply KL.cons 7 rfl | apply KL.cons 8 rfl | apply KL.cons 9 rfl))); kernel_rfl))) rfl; done)
  | (refine zbV rfl (by kernel_rfl) (by first | (simp [hn]; done) | (simp [hn]; omega) | fail) fun C k hC hk => ?_; simp [hne])
  | (refine CallP.fE (hnx) (by first | rfl | fail) (by first | simp [hne] <;> rfl | fail) ?_; (try simp [hne]))
  | fail)
  (refine hpan _ _ ⟨{ n := _, env := [], obs := [(i, pOb l q')], next := nx }, (Wk.cut rfl (by simp [hn]) (by simp [wkO, zaa, getK, zab, zac, Ob.under, D.under, zad, zae, hi, hne, zab, zac, zaa, getK]) (by simp [wkU, zal, zaa, getK, D.under, hi, hne, zab, zac, zaa, getK]) (by simp [wkE, zal, zaa, getK, hi, hne, zab, zac, zaa, getK])), by simp [hn], ?_⟩; try simp)
  exact PPost.zaG (by simp [PR.bind])
theorem zjS {l : List Tok} (hl : TokOK l) {f p : Nat} {t : Tok} (ht : l[p]? = some t) (hk : ¬ t.kind = 2) (h1 : isB l p [116, 114, 117, 101] = true) {i nx : Nat} (hi : i < nx) :
  RetX Tryz.prog 283 [.ptr i 0] [(i, pOb l p)] nx (PPost l i nx zeP (zbk l (f + 1) p)) := by
 have hne := za0 hi;have hp := (lGE.1 ht).1;have hnx := zcv l p t ht hl.len;have hll := hl.len;rw [zbk, ht];have hh1 := fun nx' (h : nx <= nx') => zbt l p [116, 114, 117, 101] i nx' (by omega) hp hl.len;simp only [hk, h1, if_false, if_true] at hh1 ⊢
 (refine RetX.of_bodyW Tryz.func283 rfl (by simp) fun Γ hn hpan => ?_); simp only [entry, ziC, ziN, maC, maN, oA, Tryz.ntmps283]
 repeat' (first
  | ((first | refine zag ?_ | refine zaj ?_ | refine zah ?_ | refine zai ?_ | fail); simp [hne, hk, del])
  | (refine zar ?_; simp only [zan])
  | (refine CallP.fE (hnx) (by first | rfl | fail) (by first | simp [hne, hk, del] <;> rfl | fail) ?_; (try simp [hne, hk, del]))
  | (refine CallP.ok1 (hh1 _ (by first | omega | simp <;> omega | fail)) (by first | (simp [hne, hk, del, zaa, getK, zab, zac]; done) | fail) (by rfl) (by rfl) ?_; (try simp [hne, hk, del]))
  | fail)
 refine EndW.norm ?_;simp [St.norm, zbg, zbZ, zcd, zce, hne]
 (refine EndW.here ?_; (first | (refine EndOK.fin (.inr rfl) ?_) | (refine EndOK.fin (.inl rfl) ?_)); simp [zaK, zaf, Tryz.results283, hne, hi]; refine FinOK.cut [(i, pOb l (p + 1))] (nx) (by simp [zaa, getK, zab, zac, Ob.under, D.under, zad, zae, hne, hi] <;> omega) (by simp [D.under]) (by simp [hn]) ?_; try simp)
 exact PPost.zcQ rfl (by simp [Exp.row]) rfl
theorem zi6 {l : List Tok} (hl : TokOK l) {f p : Nat} {t : Tok} (ht : l[p]? = some t) (hk : ¬ t.kind = 2) (h1 : isB l p [116, 114, 117, 101] = false) (h2 : isB l p [102, 97, 108, 115, 101] = true) {i nx : Nat} (hi : i < nx) :
  RetX Tryz.prog 283 [.ptr i 0] [(i, pOb l p)] nx (PPost l i nx zeP (zbk l (f + 1) p)) := by
 have hne := za0 hi;have hp := (lGE.1 ht).1;have hnx := zcv l p t ht hl.len;have hll := hl.len;rw [zbk, ht];have hh1 := fun nx' (h : nx <= nx') => zbt l p [116, 114, 117, 101] i nx' (by omega) hp hl.len;have hh2 := fun nx' (h : nx <= nx') => zbt l p [102, 97, 108, 115, 101] i nx' (by omega) hp hl.len;simp only [hk, h1, h2, if_false, if_true, Bool.false_eq_true] at hh1 hh2 ⊢
 (refine RetX.of_bodyW Tryz.func283 rfl (by simp) fun Γ hn hpan => ?_); simp only [entry, ziC, ziN, maC, maN, oA, Tryz.ntmps283]
 repeat' (first
  | ((first | refine zag ?_ | refine zaj ?_ | refine zah ?_ | refine zai ?_ | fail); simp [hne, hk, del])
  | (refine zar ?_; simp only [zan])
  | (refine CallP.fE (hnx) (by first | rfl | fail) (by first | simp [hne, hk, del] <;> rfl | fail) ?_; (try simp [hne, hk, del]))
  | (refine CallP.ok1 (hh1 _ (by first | omega | simp <;> omega | fail)) (by first | (simp [hne, hk, del, zaa, getK, zab, zac]; done) | fail) (by rfl) (by rfl) ?_; (try simp [hne, hk, del]))
  | (refine CallP.ok1 (hh2 _ (by first | omega | simp <;> omega | fail)) (by first | (simp [hne, hk, del, zaa, getK, zab, zac]; done) | fail) (by rfl) (by rfl) ?_; (try simp [hne, hk, del]))
  | fail)
 refine EndW.norm ?_;simp [St.norm, zbg, zbZ, zcd, zce, hne]
 (refine EndW.here ?_; (first | (refine EndOK.fin (.inr rfl) ?_) | (refine EndOK.fin (.inl rfl) ?_)); simp [zaK, zaf, Tryz.results283, hne, hi]; refine FinOK.cut [(i, pOb l (p + 1))] (nx) (by simp [zaa, getK, zab, zac, Ob.under, D.under, zad, zae, hne, hi] <;> omega) (by simp [D.under]) (by simp [hn]) ?_; try simp)
 exact PPost.zcQ rfl (by simp [Exp.row]) rfl
theorem zdB {l : List Tok} {F : FuncId} {r : PR Exp} {e : Exp} {q i nx : Nat} {ds : List D} {obs : List (Nat × Ob)} (h : RetX Tryz.prog F ds obs nx (PPost l i nx zeP r)) (hr : r = .ok e q) :
  RetX Tryz.prog F ds obs nx fun r o n => r = .val (.u (.agg [.int .i64 e.op, .int .i64 e.n, .int .i64 e.unit, .str e.s, .sl (e.args.map Exp.row)])) /\ o = [(i, pOb l q)] /\ n = nx := by
 subst hr;rw [<- Exp.row_eq];exact h
theorem zi5 {l : List Tok} (hl : TokOK l) {f p : Nat} (hE : zhS l f) (hf : 4 * (l.length - p) <= f) {t : Tok} (ht : l[p]? = some t) (hk : ¬ t.kind = 2) (h1 : isB l p [116, 114, 117, 101] = false) (h2 : isB l p [102, 97, 108, 115, 101] = false)
  (h3 : isB l p [109, 105, 110] = false) (h4 : isB l p [109, 97, 120] = false) (h5 : isB l p [40] = true) {i nx : Nat} (hi : i < nx) :
  RetX Tryz.prog 283 [.ptr i 0] [(i, pOb l p)] nx (PPost l i nx zeP (zbk l (f + 1) p)) := by
 have hne := za0 hi;have hp := (lGE.1 ht).1;have hnx := zcv l p t ht hl.len;have hll := hl.len;have hp2 := zbr hl h5;rw [zbk, ht];have hh1 := fun nx' (h : nx <= nx') => zbt l p [116, 114, 117, 101] i nx' (by omega) hp hl.len;have hh2 := fun nx' (h : nx <= nx') => zbt l p [102, 97, 108, 115, 101] i nx' (by omega) hp hl.len;have hm1 := zd1 l p [109, 105, 110] hp hl.len;have hm2 := zd1 l p [109, 97, 120] hp hl.len;have hh3 := fun nx' (h : nx <= nx') => zbt l p [40] i nx' (by omega) hp hl.len;simp only [hk, h1, h2, h3, h4, h5, if_false, if_true, Bool.false_eq_true, or_self] at hh1 hh2 hm1 hm2 hh3 ⊢;have he := fun nx' (h : nx <= nx') => hE (p + 1) 0 i nx' (by omega) hp2 (by omega) (by omega) (by omega);cases hr : zeM l f (p + 1) 0 with
 | stop pos e =>
  simp only [hr] at he
  (refine RetX.of_bodyW Tryz.func283 rfl (by simp) fun Γ hn hpan => ?_); simp only [entry, ziC, ziN, maC, maN, oA, Tryz.ntmps283]
  repeat' (first
  | ((first | refine zag ?_ | refine zaj ?_ | refine zah ?_ | refine zai ?_ | fail); simp [hne, hk, del, nAA])
  | (refine CallP.fE (hnx) (by first | rfl | fail) (by first | simp [hne, hk, del, nAA] <;> rfl | fail) ?_; (try simp [hne, hk, del, nAA]))
  | (refine CallP.fE (hm1) (by first | rfl | fail) (by first | simp [hne, hk, del, nAA] <;> rfl | fail) ?_; (try simp [hne, hk, del, nAA]))
  | (refine CallP.fE (hm2) (by first | rfl | fail) (by first | simp [hne, hk, del, nAA] <;> rfl | fail) ?_; (try simp [hne, hk, del, nAA]))
  | (refine CallP.ok1 (hh1 _ (by first | omega | simp <;> omega | fail)) (by first | (simp [hne, hk, del, nAA, zaa, getK, zab, zac]; done) | fail) (by rfl) (by rfl) ?_; (try simp [hne, hk, del, nAA]))
  | (refine CallP.ok1 (hh2 _ (by first | omega | simp <;> omega | fail)) (by first | (simp [hne, hk, del, nAA, zaa, getK, zab, zac]; done) | fail) (by rfl) (by rfl) ?_; (try simp [hne, hk, del, nAA]))
  | (refine CallP.ok1 (hh3 _ (by first | omega | simp <;> omega | fail)) (by first | (simp [hne, hk, del, nAA, zaa, getK, zab, zac]; done) | fail) (by rfl) (by rfl) ?_; (try simp [hne, hk, del, nAA]))
  | (refine CallP.zeN (he _ (by first | omega | simp <;> omega | fail)) (by first | (simp [hne, hk, del, nAA, zaa, getK, zab, zac]; done) | fail) (by rfl) (by first | assumption | (simp; done) | fail) (by rfl) (by simp) ?_; rintro ob' ⟨q', rfl⟩; refine ⟨_, Wk.refl _, ?_⟩)
  | fail)
  (refine hpan _ _ ⟨{ n := _, env := [], obs := [(i, pOb l q')], next := nx }, (Wk.cut rfl (by simp [hn]) (by simp [wkO, zaa, getK, zab, zac, Ob.under, D.under, zad, zae, hi, hne, zab, zac, zaa, getK]) (by simp [wkU, zal, zaa, getK, D.under, hi, hne, zab, zac, zaa, getK]) (by simp [wkE, zal, zaa, getK, hi, hne, zab, zac, zaa, getK])), by simp [hn], ?_⟩; try simp)
  exact PPost.zaG (by simp [PR.bind, *])
 | ok e1 q1 =>
  have he := fun nx' h => zdB (he nx' h) hr;obtain ⟨g1, g2⟩ := (zcz hl f).1 _ _ _ _ hr hp2;have hw := fun nx' (h : nx <= nx') => zeO hl [41] (q := q1) (i := i) (nx := nx') (by omega) g2;cases hr2 : zb7 l q1 [[41]] with
  | stop pos e =>
   simp only [hr2] at hw
   (refine RetX.of_bodyW Tryz.func283 rfl (by simp) fun Γ hn hpan => ?_); simp only [entry, ziC, ziN, maC, maN, oA, Tryz.ntmps283]
   repeat' (first
  | ((first | refine zag ?_ | refine zaj ?_ | refine zah ?_ | refine zai ?_ | fail); simp [hne, hk, del, nAA])
  | (refine CallP.fE (hnx) (by first | rfl | fail) (by first | simp [hne, hk, del, nAA] <;> rfl | fail) ?_; (try simp [hne, hk, del, nAA]))
  | (refine CallP.fE (hm1) (by first | rfl | fail) (by first | simp [hne, hk, del, nAA] <;> rfl | fail) ?_; (try simp [hne, hk, del, nAA]))
  | (refine CallP.fE (hm2) (by first | rfl | fail) (by first | simp [hne, hk, del, nAA] <;> rfl | fail) ?_; (try simp [hne, hk, del, nAA]))
  | (refine CallP.ok1 (hh1 _ (by first | omega | simp <;> omega | fail)) (by first | (simp [hne, hk, del, nAA, zaa, getK, zab, zac]; done) | fail) (by rfl) (by rfl) ?_; (try simp [hne, hk, del, nAA]))
  | (refine CallP.ok1 (hh2 _ (by first | omega | simp <;> omega | fail)) (by first | (simp [hne, hk, del, nAA, zaa, getK, zab, zac]; done) | fail) (by rfl) (by rfl) ?_; (try simp [hne, hk, del, nAA]))
  | (refine CallP.ok1 (hh3 _ (by first | omega | simp <;> omega | fail)) (by first | (simp [hne, hk, del, nAA, zaa, getK, zab, zac]; done) | fail) (by rfl) (by rfl) ?_; (try simp [hne, hk, del, nAA]))
  | (refine CallP.ok1 (he _ (by first | omega | simp <;> omega | fail)) (by first | (simp [hne, hk, del, nAA, zaa, getK, zab, zac]; done) | fail) (by rfl) (by rfl) ?_; (try simp [hne, hk, del, nAA]))
  | (refine CallP.zeN (hw _ (by first | omega | simp <;> omega | fail)) (by first | (simp [hne, hk, del, nAA, zaa, getK, zab, zac]; done) | fail) (by rfl) (by first | assumption | (simp; done) | fail) (by rfl) (by simp) ?_; rintro ob' ⟨q', rfl⟩; refine ⟨_, Wk.refl _, ?_⟩)
  | (refine zaJ (by first | rfl | fail) ?_; simp [hne, hk, del, nAA, frzN, frz1, zaD, zaC, St.frz, St.frzS, frzS, fv, zaV, za8, za9, frzObS, zay, zat, del, frz, zbc])
  | fail)
   (refine hpan _ _ ⟨{ n := _, env := [], obs := [(i, pOb l q')], next := nx }, (Wk.cut rfl (by simp [hn]) (by simp [wkO, zaa, getK, zab, zac, Ob.under, D.under, zad, zae, hi, hne, zab, zac, zaa, getK]) (by simp [wkU, zal, zaa, getK, D.under, hi, hne, zab, zac, zaa, getK]) (by simp [wkE, zal, zaa, getK, hi, hne, zab, zac, zaa, getK])), by simp [hn], ?_⟩; try simp)
   exact PPost.zaG (by simp [PR.bind, *])
  | ok u2 q =>
   simp only [hr2] at hw
   (refine RetX.of_bodyW Tryz.func283 rfl (by simp) fun Γ hn hpan => ?_); simp only [entry, ziC, ziN, maC, maN, oA, Tryz.ntmps283]
   repeat' (first
  | ((first | refine zag ?_ | refine zaj ?_ | refine zah ?_ | refine zai ?_ | fail); simp [hne, hk, del, nAA])
  | (refine zar ?_; simp only [zan])
  | (refine CallP.fE (hnx) (by first | rfl | fail) (by first | simp [hne, hk, del, nAA] <;> rfl | fail) ?_; (try simp [hne, hk, del, nAA]))
  | (refine CallP.fE (hm1) (by first | rfl | fail) (by first | simp [hne, hk, del, nAA] <;> rfl | fail) ?_; (try simp [hne, hk, del, nAA]))
  | (refine CallP.fE (hm2) (by first | rfl | fail) (by first | simp [hne, hk, del, nAA] <;> rfl | fail) ?_; (try simp [hne, hk, del, nAA]))
  | (refine CallP.ok1 (hh1 _ (by first | omega | simp <;> omega | fail)) (by first | (simp [hne, hk, del, nAA, zaa, getK, zab, zac]; done) | fail) (by rfl) (by rfl) ?_; (try simp [hne, hk, del, nAA]))
  | (refine CallP.ok1 (hh2 _ (by first | omega | simp <;> omega | fail)) (by first | (simp [hne, hk, del, nAA, zaa, getK, zab, zac]; done) | fail) (by rfl) (by rfl) ?_; (try simp [hne, hk, del, nAA]))
  | (refine CallP.ok1 (hh3 _ (by first | omega | simp <;> omega | fail)) (by first | (simp [hne, hk, del, nAA, zaa, getK, zab, zac]; done) | fail) (by rfl) (by rfl) ?_; (try simp [hne, hk, del, nAA]))
  | (refine CallP.ok1 (he _ (by first | omega | simp <;> omega | fail)) (by first | (simp [hne, hk, del, nAA, zaa, getK, zab, zac]; done) | fail) (by rfl) (by rfl) ?_; (try simp [hne, hk, del, nAA]))
  | (refine CallP.ok1 (hw _ (by first | omega | simp <;> omega | fail)) (by first | (simp [hne, hk, del, nAA, zaa, getK, zab, zac]; done) | fail) (by rfl) (by rfl) ?_; (try simp [hne, hk, del, nAA]))
  | (refine zaJ (by first | rfl | fail) ?_; simp [hne, hk, del, nAA, frzN, frz1, zaD, zaC, St.frz, St.frzS, frzS, fv, zaV, za8, za9, frzObS, zay, zat, del, frz, zbc])
  | fail)
   refine EndW.norm ?_;simp [St.norm, zbg, zbZ, zcd, zce, hne]
   (refine EndW.here ?_; (first | (refine EndOK.fin (.inr rfl) ?_) | (refine EndOK.fin (.inl rfl) ?_)); simp [zaK, zaf, Tryz.results283, hne, hi]; refine FinOK.cut [(i, pOb l q)] (nx) (by simp [zaa, getK, zab, zac, Ob.under, D.under, zad, zae, hne, hi] <;> omega) (by simp [D.under]) (by simp [hn]) ?_; try simp)
   exact PPost.zcQ (by simp [PR.bind, *]; rfl) (by simp [Exp.row_eq]) rfl
theorem zk0 {l : List Tok} (hl : TokOK l) {f p : Nat} (hE : zhS l f) (hf : 4 * (l.length - p) <= f) {t : Tok} (ht : l[p]? = some t) (hk : ¬ t.kind = 2) (h1 : isB l p [116, 114, 117, 101] = false) (h2 : isB l p [102, 97, 108, 115, 101] = false)
  (h3 : isB l p [109, 105, 110] = false) (h4 : isB l p [109, 97, 120] = true) {i nx : Nat} (hi : i < nx) :
  RetX Tryz.prog 283 [.ptr i 0] [(i, pOb l p)] nx (PPost l i nx zeP (zbk l (f + 1) p)) := by
 have hne := za0 hi;have hp := (lGE.1 ht).1;have hnx := zcv l p t ht hl.len;have hll := hl.len;have hp2 := zbr hl h4;rw [zbk, ht];have hh1 := fun nx' (h : nx <= nx') => zbt l p [116, 114, 117, 101] i nx' (by omega) hp hl.len;have hh2 := fun nx' (h : nx <= nx') => zbt l p [102, 97, 108, 115, 101] i nx' (by omega) hp hl.len;have hm1 := zd1 l p [109, 105, 110] hp hl.len;have hm2 := zd1 l p [109, 97, 120] hp hl.len;simp only [hk, h1, h2, h3, h4, if_false, if_true, Bool.false_eq_true, or_true, true_or] at hh1 hh2 hm1 hm2 ⊢;have hw1 := fun nx' (h : nx <= nx') => zeO hl [40] (q := (p + 1)) (i := i) (nx := nx') (by omega) hp2;cases hr0 : zb7 l (p + 1) [[40]] with
 | stop pos e =>
  simp only [hr0] at hw1
  (refine RetX.of_bodyW Tryz.func283 rfl (by simp) fun Γ hn hpan => ?_); simp only [entry, ziC, ziN, maC, maN, oA, Tryz.ntmps283]
  repeat' (first
  | ((first | refine zag ?_ | refine zaj ?_ | fail); simp [hne, hk, del, nAA])
  | (refine ⟨by omega, ?_⟩)
  | ((first | refine zah ?_ | refine zai ?_ | refine zaq ?_ | fail); simp [hne, hk, del, nAA])
  | (refine CallP.fE (hnx) (by first | rfl | fail) (by first | simp [hne, hk, del, nAA] <;> rfl | fail) ?_; (try simp [hne, hk, del, nAA]))
  | (refine CallP.fE (hm1) (by first | rfl | fail) (by first | simp [hne, hk, del, nAA] <;> rfl | fail) ?_; (try simp [hne, hk, del, nAA]))
  | (refine CallP.fE (hm2) (by first | rfl | fail) (by first | simp [hne, hk, del, nAA] <;> rfl | fail) ?_; (try simp [hne, hk, del, nAA]))
  | (refine CallP.ok1 (hh1 _ (by first | omega | simp <;> omega | fail)) (by first | (simp [hne, hk, del, nAA, zaa, getK, zab, zac]; done) | fail) (by rfl) (by rfl) ?_; (try simp [hne, hk, del, nAA]))
  | (refine CallP.ok1 (hh2 _ (by first | omega | simp <;> omega | fail)) (by first | (simp [hne, hk, del, nAA, zaa, getK, zab, zac]; done) | fail) (by rfl) (by rfl) ?_; (try simp [hne, hk, del, nAA]))
  | (refine CallP.zeN (hw1 _ (by first | omega | simp <;> omega | fail)) (by first | (simp [hne, hk, del, nAA, zaa, getK, zab, zac]; done) | fail) (by rfl) (by first | assumption | (simp; done) | fail) (by rfl) (by simp) ?_; rintro ob' ⟨q', rfl⟩; refine ⟨_, Wk.refl _, ?_⟩)
  | (refine zaJ (by first | rfl | fail) ?_; simp [hne, hk, del, nAA, frzN, frz1, zaD, zaC, St.frz, St.frzS, frzS, fv, zaV, za8, za9, frzObS, zay, zat, del, frz, zbc])
  | fail)
  (refine hpan _ _ ⟨{ n := _, env := [], obs := [(i, pOb l q')], next := nx }, (Wk.cut rfl (by simp [hn]) (by simp [wkO, zaa, getK, zab, zac, Ob.under, D.under, zad, zae, hi, hne, zab, zac, zaa, getK]) (by simp [wkU, zal, zaa, getK, D.under, hi, hne, zab, zac, zaa, getK]) (by simp [wkE, zal, zaa, getK, hi, hne, zab, zac, zaa, getK])), by simp [hn], ?_⟩; try simp)
  exact PPost.zaG (by simp [PR.bind, *])
 | ok v0 q0 =>
  simp only [hr0] at hw1;obtain ⟨g0a, g0b⟩ := za6 hl _ hr0 hp2;have ha := fun nx' (h : nx <= nx') => hE q0 0 i nx' (by omega) g0b (by omega) (by omega) (by omega);cases hr1 : zeM l f q0 0 with
  | stop pos e =>
   simp only [hr1] at ha
   (refine RetX.of_bodyW Tryz.func283 rfl (by simp) fun Γ hn hpan => ?_); simp only [entry, ziC, ziN, maC, maN, oA, Tryz.ntmps283]
   repeat' (first
  | ((first | refine zag ?_ | refine zaj ?_ | fail); simp [hne, hk, del, nAA])
  | (refine ⟨by omega, ?_⟩)
  | ((first | refine zah ?_ | refine zai ?_ | refine zaq ?_ | fail); simp [hne, hk, del, nAA])
  | (refine CallP.fE (hnx) (by first | rfl | fail) (by first | simp [hne, hk, del, nAA] <;> rfl | fail) ?_; (try simp [hne, hk, del, nAA]))
  | (refine CallP.fE (hm1) (by first | rfl | fail) (by first | simp [hne, hk, del, nAA] <;> rfl | fail) ?_; (try simp [hne, hk, del, nAA]))
  | (refine CallP.fE (hm2) (by first | rfl | fail) (by first | simp [hne, hk, del, nAA] <;> rfl | fail) ?_; (try simp [hne, hk, del, nAA]))
  | (refine CallP.ok1 (hh1 _ (by first | omega | simp <;> omega | fail)) (by first | (simp [hne, hk, del, nAA, zaa, getK, zab, zac]; done) | fail) (by rfl) (by rfl) ?_; (try simp [hne, hk, del, nAA]))
  | (refine CallP.ok1 (hh2 _ (by first | omega | simp <;> omega | fail)) (by first | (simp [hne, hk, del, nAA, zaa, getK, zab, zac]; done) | fail) (by rfl) (by rfl) ?_; (try simp [hne, hk, del, nAA]))
  | (refine CallP.ok1 (hw1 _ (by first | omega | simp <;> omega | fail)) (by first | (simp [hne, hk, del, nAA, zaa, getK, zab, zac]; done) | fail) (by rfl) (by rfl) ?_; (try simp [hne, hk, del, nAA]))
  | (refine CallP.zeN (ha _ (by first | omega | simp <;> omega | fail)) (by first | (simp [hne, hk, del, nAA, zaa, getK, zab, zac]; done) | fail) (by rfl) (by first | assumption | (simp; done) | fail) (by rfl) (by simp) ?_; rintro ob' ⟨q', rfl⟩; refine ⟨_, Wk.refl _, ?_⟩)
  | (refine zaJ (by first | rfl | fail) ?_; simp [hne, hk, del, nAA, frzN, frz1, zaD, zaC, St.frz, St.frzS, frzS, fv, zaV, za8, za9, frzObS, zay, zat, del, frz, zbc])
  | fail)
   (refine hpan _ _ ⟨{ n := _, env := [], obs := [(i, pOb l q')], next := nx }, (Wk.cut rfl (by simp [hn]) (by simp [wkO, zaa, getK, zab, zac, Ob.under, D.under, zad, zae, hi, hne, zab, zac, zaa, getK]) (by simp [wkU, zal, zaa, getK, D.under, hi, hne, zab, zac, zaa, getK]) (by simp [wkE, zal, zaa, getK, hi, hne, zab, zac, zaa, getK])), by simp [hn], ?_⟩; try simp)
   exact PPost.zaG (by simp [PR.bind, *])
  | ok v1 q1 =>
   have ha := fun nx' h => zdB (ha nx' h) hr1;obtain ⟨g1a, g1b⟩ := (zcz hl f).1 _ _ _ _ hr1 g0b;have hw2 := fun nx' (h : nx <= nx') => zeO hl [44] (q := q1) (i := i) (nx := nx') (by omega) g1b;cases hr2 : zb7 l q1 [[44]] with
   | stop pos e =>
    simp only [hr2] at hw2
    (refine RetX.of_bodyW Tryz.func283 rfl (by simp) fun Γ hn hpan => ?_); simp only [entry, ziC, ziN, maC, maN, oA, Tryz.ntmps283]
    repeat' (first
  | ((first | refine zag ?_ | refine zaj ?_ | fail); simp [hne, hk, del, nAA])
  | (refine ⟨by omega, ?_⟩)
  | ((first | refine zah ?_ | refine zai ?_ | refine zaq ?_ | fail); simp [hne, hk, del, nAA])
  | (refine CallP.fE (hnx) (by first | rfl | fail) (by first | simp [hne, hk, del, nAA] <;> rfl | fail) ?_; (try simp [hne, hk, del, nAA]))
  | (refine CallP.fE (hm1) (by first | rfl | fail) (by first | simp [hne, hk, del, nAA] <;> rfl | fail) ?_; (try simp [hne, hk, del, nAA]))
  | (refine CallP.fE (hm2) (by first | rfl | fail) (by first | simp [hne, hk, del, nAA] <;> rfl | fail) ?_; (try simp [hne, hk, del, nAA]))
  | (refine CallP.ok1 (hh1 _ (by first | omega | simp <;> omega | fail)) (by first | (simp [hne, hk, del, nAA, zaa, getK, zab, zac]; done) | fail) (by rfl) (by rfl) ?_; (try simp [hne, hk, del, nAA]))
  | (refine CallP.ok1 (hh2 _ (by first | omega | simp <;> omega | fail)) (by first | (simp [hne, hk, del, nAA, zaa, getK, zab, zac]; done) | fail) (by rfl) (by rfl) ?_; (try simp [hne, hk, del, nAA]))
  | (refine CallP.ok1 (hw1 _ (by first | omega | simp <;> omega | fail)) (by first | (simp [hne, hk, del, nAA, zaa, getK, zab, zac]; done) | fail) (by rfl) (by rfl) ?_; (try simp [hne, hk, del, nAA]))
  | (refine CallP.ok1 (ha _ (by first | omega | simp <;> omega | fail)) (by first | (simp [hne, hk, del, nAA, zaa, getK, zab, zac]; done) | fail) (by rfl) (by rfl) ?_; (try simp [hne, hk, del, nAA]))
  | (refine CallP.zeN (hw2 _ (by first | omega | simp <;> omega | fail)) (by first | (simp [hne, hk, del, nAA, zaa, getK, zab, zac]; done) | fail) (by rfl) (by first | assumption | (simp; done) | fail) (by rfl) (by simp) ?_; rintro ob' ⟨q', rfl⟩; refine ⟨_, Wk.refl _, ?_⟩)
  | (refine zaJ (by first | rfl | fail) ?_; simp [hne, hk, del, nAA, frzN, frz1, zaD, zaC, St.frz, St.frzS, frzS, fv, zaV, za8, za9, frzObS, zay, zat, del, frz, zbc])
  | fail)
    (refine hpan _ _ ⟨{ n := _, env := [], obs := [(i, pOb l q')], next := nx }, (Wk.cut rfl (by simp [hn]) (by simp [wkO, zaa, getK, zab, zac, Ob.under, D.under, zad, zae, hi, hne, zab, zac, zaa, getK]) (by simp [wkU, zal, zaa, getK, D.under, hi, hne, zab, zac, zaa, getK]) (by simp [wkE, zal, zaa, getK, hi, hne, zab, zac, zaa, getK])), by simp [hn], ?_⟩; try simp)
    exact PPost.zaG (by simp [PR.bind, *])
   | ok v2 q2 =>
    simp only [hr2] at hw2;obtain ⟨g2a, g2b⟩ := za6 hl _ hr2 g1b;have hb := fun nx' (h : nx <= nx') => hE q2 0 i nx' (by omega) g2b (by omega) (by omega) (by omega);cases hr3 : zeM l f q2 0 with
    | stop pos e =>
     simp only [hr3] at hb
     (refine RetX.of_bodyW Tryz.func283 rfl (by simp) fun Γ hn hpan => ?_); simp only [entry, ziC, ziN, maC, maN, oA, Tryz.ntmps283]
     repeat' (first
  | ((first | refine zag ?_ | refine zaj ?_ | fail); simp [hne, hk, del, nAA])
  | (refine ⟨by omega, ?_⟩)
  | ((first | refine zah ?_ | refine zai ?_ | refine zaq ?_ | fail); simp [hne, hk, del, nAA])
  | (refine CallP.fE (hnx) (by first | rfl | fail) (by first | simp [hne, hk, del, nAA] <;> rfl | fail) ?_; (try simp [hne, hk, del, nAA]))
  | (refine CallP.fE (hm1) (by first | rfl | fail) (by first | simp [hne, hk, del, nAA] <;> rfl | fail) ?_; (try simp [hne, hk, del, nAA]))
  | (refine CallP.fE (hm2) (by first | rfl | fail) (by first | simp [hne, hk, del, nAA] <;> rfl | fail) ?_; (try simp [hne, hk, del, nAA]))
  | (refine CallP.ok1 (hh1 _ (by first | omega | simp <;> omega | fail)) (by first | (simp [hne, hk, del, nAA, zaa, getK, zab, zac]; done) | fail) (by rfl) (by rfl) ?_; (try simp [hne, hk, del, nAA]))
  | (refine CallP.ok1 (hh2 _ (by first | omega | simp <;> omega | fail)) (by first | (simp [hne, hk, del, nAA, zaa, getK, zab, zac]; done) | fail) (by rfl) (by rfl) ?_; (try simp [hne, hk, del, nAA]))
  | (refine CallP.ok1 (hw1 _ (by first | omega | simp <;> omega | fail)) (by first | (simp [hne, hk, del, nAA, zaa, getK, zab, zac]; done) | fail) (by rfl) (by rfl) ?_; (try simp [hne, hk, del, nAA]))
  | (refine CallP.ok1 (ha _ (by first | omega | simp <;> omega | fail)) (by first | (simp [hne, hk, del, nAA, zaa, getK, zab, zac]; done) | fail) (by rfl) (by rfl) ?_; (try simp [hne, hk, del, nAA]))
  | (refine CallP.ok1 (hw2 _ (by first | omega | simp <;> omega | fail)) (by first | (simp [hne, hk, del, nAA, zaa, getK, zab, zac]; done) | fail) (by rfl) (by rfl) ?_; (try simp [hne, hk, del, nAA]))
  | (refine CallP.zeN (hb _ (by first | omega | simp <;> omega | fail)) (by first | (simp [hne, hk, del, nAA, zaa, getK, zab, zac]; done) | fail) (by rfl) (by first | assumption | (simp; done) | fail) (by rfl) (by simp) ?_; rintro ob' ⟨q', rfl⟩; refine ⟨_, Wk.refl _, ?_⟩)
  | (refine zaJ (by first | rfl | fail) ?_; simp [hne, hk, del, nAA, frzN, frz1, zaD, zaC, St.frz, St.frzS, frzS, fv, zaV, za8, za9, frzObS, zay, zat, del, frz, zbc])
  | fail)
     (refine hpan _ _ ⟨{ n := _, env := [], obs := [(i, pOb l q')], next := nx }, (Wk.cut rfl (by simp [hn]) (by simp [wkO, zaa, getK, zab, zac, Ob.under, D.under, zad, zae, hi, hne, zab, zac, zaa, getK]) (by simp [wkU, zal, zaa, getK, D.under, hi, hne, zab, zac, zaa, getK]) (by simp [wkE, zal, zaa, getK, hi, hne, zab, zac, zaa, getK])), by simp [hn], ?_⟩; try simp)
     exact PPost.zaG (by simp [PR.bind, *])
    | ok v3 q3 =>
     have hb := fun nx' h => zdB (hb nx' h) hr3;obtain ⟨g3a, g3b⟩ := (zcz hl f).1 _ _ _ _ hr3 g2b;have hw3 := fun nx' (h : nx <= nx') => zeO hl [41] (q := q3) (i := i) (nx := nx') (by omega) g3b;cases hr4 : zb7 l q3 [[41]] with
     | stop pos e =>
      simp only [hr4] at hw3
      (refine RetX.of_bodyW Tryz.func283 rfl (by simp) fun Γ hn hpan => ?_); simp only [entry, ziC, ziN, maC, maN, oA, Tryz.ntmps283]
      repeat' (first
  | ((first | refine zag ?_ | refine zaj ?_ | fail); simp [hne, hk, del, nAA])
  | (refine ⟨by omega, ?_⟩)
  | ((first | refine zah ?_ | refine zai ?_ | refine zaq ?_ | fail); simp [hne, hk, del, nAA])
  | (refine CallP.fE (hnx) (by first | rfl | fail) (by first | simp [hne, hk, del, nAA] <;> rfl | fail) ?_; (try simp [hne, hk, del, nAA]))
  | (refine CallP.fE (hm1) (by first | rfl | fail) (by first | simp [hne, hk, del, nAA] <;> rfl | fail) ?_; (try simp [hne, hk, del, nAA]))
  | (refine CallP.fE (hm2) (by first | rfl | fail) (by first | simp [hne, hk, del, nAA] <;> rfl | fail) ?_; (try simp [hne, hk, del, nAA]))
  | (refine CallP.ok1 (hh1 _ (by first | omega | simp <;> omega | fail)) (by first | (simp [hne, hk, del, nAA, zaa, getK, zab, zac]; done) | fail) (by rfl) (by rfl) ?_; (try simp [hne, hk, del, nAA]))
  | (refine CallP.ok1 (hh2 _ (by first | omega | simp <;> omega | fail)) (by first | (simp [hne, hk, del, nAA, zaa, getK, zab, zac]; done) | fail) (by rfl) (by rfl) ?_; (try simp [hne, hk, del, nAA]))
  | (refine CallP.ok1 (hw1 _ (by first | omega | simp <;> omega | fail)) (by first | (simp [hne, hk, del, nAA, zaa, getK, zab, zac]; done) | fail) (by rfl) (by rfl) ?_; (try simp [hne, hk, del, nAA]))
  | (refine CallP.ok1 (ha _ (by first | omega | simp <;> omega | fail)) (by first | (simp [hne, hk, del, nAA, zaa, getK, zab, zac]; done) | fail) (by rfl) (by rfl) ?_; (try simp [hne, hk, del, nAA]))
  | (refine CallP.ok1 (hw2 _ (by first | omega | simp <;> omega | fail)) (by first | (simp [hne, hk, del, nAA, zaa, getK, zab, zac]; done) | fail) (by rfl) (by rfl) ?_; (try simp [hne, hk, del, nAA]))
  | (refine CallP.ok1 (hb _ (by first | omega | simp <;> omega | fail)) (by first | (simp [hne, hk, del, nAA, zaa, getK, zab, zac]; done) | fail) (by rfl) (by rfl) ?_; (try simp [hne, hk, del, nAA]))
  | (refine CallP.zeN (hw3 _ (by first | omega | simp <;> omega | fail)) (by first | (simp [hne, hk, del, nAA, zaa, getK, zab, zac]; done) | fail) (by rfl) (by first | assumption | (simp; done) | fail) (by rfl) (by simp) ?_; rintro ob' ⟨q', rfl⟩; refine ⟨_, Wk.refl _, ?_⟩)
  | (refine zaJ (by first | rfl | fail) ?_; simp [hne, hk, del, nAA, frzN, frz1, zaD, zaC, St.frz, St.frzS, frzS, fv, zaV, za8, za9, frzObS, zay, zat, del, frz, zbc])
  | fail)
      (refine hpan _ _ ⟨{ n := _, env := [], obs := [(i, pOb l q')], next := nx }, (Wk.cut rfl (by simp [hn]) (by simp [wkO, zaa, getK, zab, zac, Ob.under, D.under, zad, zae, hi, hne, zab, zac, zaa, getK]) (by simp [wkU, zal, zaa, getK, D.under, hi, hne, zab, zac, zaa, getK]) (by simp [wkE, zal, zaa, getK, hi, hne, zab, zac, zaa, getK])), by simp [hn], ?_⟩; try simp)
      exact PPost.zaG (by simp [PR.bind, *])
     | ok v4 q4 =>
      simp only [hr4] at hw3;obtain ⟨g4a, g4b⟩ := za6 hl _ hr4 g3b
      (refine RetX.of_bodyW Tryz.func283 rfl (by simp) fun Γ hn hpan => ?_); simp only [entry, ziC, ziN, maC, maN, oA, Tryz.ntmps283]
      repeat' (first
  | ((first | refine zag ?_ | refine zaj ?_ | fail); simp [hne, hk, del, nAA])
  | (refine ⟨by omega, ?_⟩)
  | ((first | refine zah ?_ | refine zai ?_ | refine zaq ?_ | fail); simp [hne, hk, del, nAA])
  | (refine zar ?_; simp only [zan])
  | (refine CallP.fE (hnx) (by first | rfl | fail) (by first | simp [hne, hk, del, nAA] <;> rfl | fail) ?_; (try simp [hne, hk, del, nAA]))
  | (refine CallP.fE (hm1) (by first | rfl | fail) (by first | simp [hne, hk, del, nAA] <;> rfl | fail) ?_; (try simp [hne, hk, del, nAA]))
  | (refine CallP.fE (hm2) (by first | rfl | fail) (by first | simp [hne, hk, del, nAA] <;> rfl | fail) ?_; (try simp [hne, hk, del, nAA]))
  | (refine CallP.ok1 (hh1 _ (by first | omega | simp <;> omega | fail)) (by first | (simp [hne, hk, del, nAA, zaa, getK, zab, zac]; done) | fail) (by rfl) (by rfl) ?_; (try simp [hne, hk, del, nAA]))
  | (refine CallP.ok1 (hh2 _ (by first | omega | simp <;> omega | fail)) (by first | (simp [hne, hk, del, nAA, zaa, getK, zab, zac]; done) | fail) (by rfl) (by rfl) ?_; (try simp [hne, hk, del, nAA]))
  | (refine CallP.ok1 (hw1 _ (by first | omega | simp <;> omega | fail)) (by first | (simp [hne, hk, del, nAA, zaa, getK, zab, zac]; done) | fail) (by rfl) (by rfl) ?_; (try simp [hne, hk, del, nAA]))
  | (refine CallP.ok1 (ha _ (by first | omega | simp <;> omega | fail)) (by first | (simp [hne, hk, del, nAA, zaa, getK, zab, zac]; done) | fail) (by rfl) (by rfl) ?_; (try simp [hne, hk, del, nAA]))
  | (refine CallP.ok1 (hw2 _ (by first | omega | simp <;> omega | fail)) (by first | (simp [hne, hk, del, nAA, zaa, getK, zab, zac]; done) | fail) (by rfl) (by rfl) ?_; (try simp [hne, hk, del, nAA]))
  | (refine CallP.ok1 (hb _ (by first | omega | simp <;> omega | fail)) (by first | (simp [hne, hk, del, nAA, zaa, getK, zab, zac]; done) | fail) (by rfl) (by rfl) ?_; (try simp [hne, hk, del, nAA]))
  | (refine CallP.ok1 (hw3 _ (by first | omega | simp <;> omega | fail)) (by first | (simp [hne, hk, del, nAA, zaa, getK, zab, zac]; done) | fail) (by rfl) (by rfl) ?_; (try simp [hne, hk, del, nAA]))
  | (refine zaJ (by first | rfl | fail) ?_; simp [hne, hk, del, nAA, frzN, frz1, zaD, zaC, St.frz, St.frzS, frzS, fv, zaV, za8, za9, frzObS, zay, zat, del, frz, zbc])
  | fail)
      (refine EndW.frzN 1 ?_; simp [frzN, frz1, zaD, zaC, St.frz, St.frzS, frzS, fv, zaV, za8, za9, frzObS, zay, zat, del, frz, zbc, hne, nAA])
      refine EndW.norm ?_;simp [St.norm, zbg, zbZ, zcd, zce, hne, nAA]
      (refine EndW.here ?_; (first | (refine EndOK.fin (.inr rfl) ?_) | (refine EndOK.fin (.inl rfl) ?_)); simp [zaK, zaf, Tryz.results283, hne, hi]; refine FinOK.cut [(i, pOb l q4)] (nx) (by simp [zaa, getK, zab, zac, Ob.under, D.under, zad, zae, hne, hi] <;> omega) (by simp [D.under]) (by simp [hn]) ?_; try simp)
      exact PPost.zcQ (by simp [PR.bind, *]; rfl) (by simp [Exp.row_eq, Exp.op, Exp.n, Exp.unit, Exp.s, Exp.args]) rfl
theorem zkZ {l : List Tok} (hl : TokOK l) {f p : Nat} (hE : zhS l f) (hf : 4 * (l.length - p) <= f) {t : Tok} (ht : l[p]? = some t) (hk : ¬ t.kind = 2) (h1 : isB l p [116, 114, 117, 101] = false) (h2 : isB l p [102, 97, 108, 115, 101] = false)
  (h3 : isB l p [109, 105, 110] = true) (h4 : isB l p [109, 97, 120] = false) {i nx : Nat} (hi : i < nx) :
  RetX Tryz.prog 283 [.ptr i 0] [(i, pOb l p)] nx (PPost l i nx zeP (zbk l (f + 1) p)) := by
 have hne := za0 hi;have hp := (lGE.1 ht).1;have hnx := zcv l p t ht hl.len;have hll := hl.len;have hp2 := zbr hl h3;rw [zbk, ht];have hh1 := fun nx' (h : nx <= nx') => zbt l p [116, 114, 117, 101] i nx' (by omega) hp hl.len;have hh2 := fun nx' (h : nx <= nx') => zbt l p [102, 97, 108, 115, 101] i nx' (by omega) hp hl.len;have hm1 := zd1 l p [109, 105, 110] hp hl.len;have hm2 := zd1 l p [109, 97, 120] hp hl.len;simp only [hk, h1, h2, h3, h4, if_false, if_true, Bool.false_eq_true, or_true, true_or] at hh1 hh2 hm1 hm2 ⊢;have hw1 := fun nx' (h : nx <= nx') => zeO hl [40] (q := (p + 1)) (i := i) (nx := nx') (by omega) hp2;cases hr0 : zb7 l (p + 1) [[40]] with
 | stop pos e =>
  simp only [hr0] at hw1
  (refine RetX.of_bodyW Tryz.func283 rfl (by simp) fun Γ hn hpan => ?_); simp only [entry, ziC, ziN, maC, maN, oA, Tryz.ntmps283]
  repeat' (first
  | ((first | refine zag ?_ | refine zaj ?_ | fail); simp [hne, hk, del, nAA])
  | (refine ⟨by omega, ?_⟩)
  | ((first | refine zah ?_ | refine zai ?_ | fail); simp [hne, hk, del, nAA])
  | (refine zap ?_; simp only [zan])
  | (refine CallP.fE (hnx) (by first | rfl | fail) (by first | simp [hne, hk, del, nAA] <;> rfl | fail) ?_; (try simp [hne, hk, del, nAA]))
  | (refine CallP.fE (hm1) (by first | rfl | fail) (by first | simp [hne, hk, del, nAA] <;> rfl | fail) ?_; (try simp [hne, hk, del, nAA]))
  | (refine CallP.fE (hm2) (by first | rfl | fail) (by first | simp [hne, hk, del, nAA] <;> rfl | fail) ?_; (try simp [hne, hk, del, nAA]))
  | (refine CallP.ok1 (hh1 _ (by first | omega | simp <;> omega | fail)) (by first | (simp [hne, hk, del, nAA, zaa, getK, zab, zac]; done) | fail) (by rfl) (by rfl) ?_; (try simp [hne, hk, del, nAA]))
  | (refine CallP.ok1 (hh2 _ (by first | omega | simp <;> omega | fail)) (by first | (simp [hne, hk, del, nAA, zaa, getK, zab, zac]; done) | fail) (by rfl) (by rfl) ?_; (try simp [hne, hk, del, nAA]))
  | (refine CallP.zeN (hw1 _ (by first | omega | simp <;> omega | fail)) (by first | (simp [hne, hk, del, nAA, zaa, getK, zab, zac]; done) | fail) (by rfl) (by first | assumption | (simp; done) | fail) (by rfl) (by simp) ?_; rintro ob' ⟨q', rfl⟩; refine ⟨_, Wk.refl _, ?_⟩)
  | (refine zaJ (by first | rfl | fail) ?_; simp [hne, hk, del, nAA, frzN, frz1, zaD, zaC, St.frz, St.frzS, frzS, fv, zaV, za8, za9, frzObS, zay, zat, del, frz, zbc])
  | fail)
  (refine hpan _ _ ⟨{ n := _, env := [], obs := [(i, pOb l q')], next := nx }, (Wk.cut rfl (by simp [hn]) (by simp [wkO, zaa, getK, zab, zac, Ob.under, D.under, zad, zae, hi, hne, zab, zac, zaa, getK]) (by simp [wkU, zal, zaa, getK, D.under, hi, hne, zab, zac, zaa, getK]) (by simp [wkE, zal, zaa, getK, hi, hne, zab, zac, zaa, getK])), by simp [hn], ?_⟩; try simp)
  exact PPost.zaG (by simp [PR.bind, *])
 | ok v0 q0 =>
  simp only [hr0] at hw1;obtain ⟨g0a, g0b⟩ := za6 hl _ hr0 hp2;have ha := fun nx' (h : nx <= nx') => hE q0 0 i nx' (by omega) g0b (by omega) (by omega) (by omega);cases hr1 : zeM l f q0 0 with
  | stop pos e =>
   simp only [hr1] at ha
   (refine RetX.of_bodyW Tryz.func283 rfl (by simp) fun Γ hn hpan => ?_); simp only [entry, ziC, ziN, maC, maN, oA, Tryz.ntmps283]
   repeat' (first
  | ((first | refine zag ?_ | refine zaj ?_ | fail); simp [hne, hk, del, nAA])
  | (refine ⟨by omega, ?_⟩)
  | ((first | refine zah ?_ | refine zai ?_ | fail); simp [hne, hk, del, nAA])
  | (refine zap ?_; simp only [zan])
  | (refine CallP.fE (hnx) (by first | rfl | fail) (by first | simp [hne, hk, del, nAA] <;> rfl | fail) ?_; (try simp [hne, hk, del, nAA]))
  | (refine CallP.fE (hm1) (by first | rfl | fail) (by first | simp [hne, hk, del, nAA] <;> rfl | fail) ?_; (try simp [hne, hk, del, nAA]))
  | (refine CallP.fE (hm2) (by first | rfl | fail) (by first | simp [hne, hk, del, nAA] <;> rfl | fail) ?_; (try simp [hne, hk, del, nAA]))
  | (refine CallP.ok1 (hh1 _ (by first | omega | simp <;> omega | fail)) (by first | (simp [hne, hk, del, nAA, zaa, getK, zab, zac]; done) | fail) (by rfl) (by rfl) ?_; (try simp [hne, hk, del, nAA]))
  | (refine CallP.ok1 (hh2 _ (by first | omega | simp <;> omega | fail)) (by first | (simp [hne, hk, del, nAA, zaa, getK, zab, zac]; done) | fail) (by rfl) (by rfl) ?_; (try simp [hne, hk, del, nAA]))
  | (refine CallP.ok1 (hw1 _ (by first | omega | simp <;> omega | fail)) (by first | (simp [hne, hk, del, nAA, zaa, getK, zab, zac]; done) | fail) (by rfl) (by rfl) ?_; (try simp [hne, hk, del, nAA]))
  | (refine CallP.zeN (ha _ (by first | omega | simp <;> omega | fail)) (by first | (simp [hne, hk, del, nAA, zaa, getK, zab, zac]; done) | fail) (by rfl) (by first | assumption | (simp; done) | fail) (by rfl) (by simp) ?_; rintro ob' ⟨q', rfl⟩; refine ⟨_, Wk.refl _, ?_⟩)
  | (refine zaJ (by first | rfl | fail) ?_; simp [hne, hk, del, nAA, frzN, frz1, zaD, zaC, St.frz, St.frzS, frzS, fv, zaV, za8, za9, frzObS, zay, zat, del, frz, zbc])
  | fail)
   (refine hpan _ _ ⟨{ n := _, env := [], obs := [(i, pOb l q')], next := nx }, (Wk.cut rfl (by simp [hn]) (by simp [wkO, zaa, getK, zab, zac, Ob.under, D.under, zad, zae, hi, hne, zab, zac, zaa, getK]) (by simp [wkU, zal, zaa, getK, D.under, hi, hne, zab, zac, zaa, getK]) (by simp [wkE, zal, zaa, getK, hi, hne, zab, zac, zaa, getK])), by simp [hn], ?_⟩; try simp)
   exact PPost.zaG (by simp [PR.bind, *])
  | ok v1 q1 =>
   have ha := fun nx' h => zdB (ha nx' h) hr1;obtain ⟨g1a, g1b⟩ := (zcz hl f).1 _ _ _ _ hr1 g0b;have hw2 := fun nx' (h : nx <= nx') => zeO hl [44] (q := q1) (i := i) (nx := nx') (by omega) g1b;cases hr2 : zb7 l q1 [[44]] with
   | stop pos e =>
    simp only [hr2] at hw2
    (refine RetX.of_bodyW Tryz.func283 rfl (by simp) fun Γ hn hpan => ?_); simp only [entry, ziC, ziN, maC, maN, oA, Tryz.ntmps283]
    repeat' (first
  | ((first | refine zag ?_ | refine zaj ?_ | fail); simp [hne, hk, del, nAA])
  | (refine ⟨by omega, ?_⟩)
  | ((first | refine zah ?_ | refine zai ?_ | fail); simp [hne, hk, del, nAA])
  | (refine zap ?_; simp only [zan])
  | (refine CallP.fE (hnx) (by first | rfl | fail) (by first | simp [hne, hk, del, nAA] <;> rfl | fail) ?_; (try simp [hne, hk, del, nAA]))
  | (refine CallP.fE (hm1) (by first | rfl | fail) (by first | simp [hne, hk, del, nAA] <;> rfl | fail) ?_; (try simp [hne, hk, del, nAA]))
  | (refine CallP.fE (hm2) (by first | rfl | fail) (by first | simp [hne, hk, del, nAA] <;> rfl | fail) ?_; (try simp [hne, hk, del, nAA]))
  | (refine CallP.ok1 (hh1 _ (by first | omega | simp <;> omega | fail)) (by first | (simp [hne, hk, del, nAA, zaa, getK, zab, zac]; done) | fail) (by rfl) (by rfl) ?_; (try simp [hne, hk, del, nAA]))
  | (refine CallP.ok1 (hh2 _ (by first | omega | simp <;> omega | fail)) (by first | (simp [hne, hk, del, nAA, zaa, getK, zab, zac]; done) | fail) (by rfl) (by rfl) ?_; (try simp [hne, hk, del, nAA]))
  | (refine CallP.ok1 (hw1 _ (by first | omega | simp <;> omega | fail)) (by first | (simp [hne, hk, del, nAA, zaa, getK, zab, zac]; done) | fail) (by rfl) (by rfl) ?_; (try simp [hne, hk, del, nAA]))
  | (refine CallP.ok1 (ha _ (by first | omega | simp <;> omega | fail)) (by first | (simp [hne, hk, del, nAA, zaa, getK, zab, zac]; done) | fail) (by rfl) (by rfl) ?_; (try simp [hne, hk, del, nAA]))
  | (refine CallP.zeN (hw2 _ (by first | omega | simp <;> omega | fail)) (by first | (simp [hne, hk, del, nAA, zaa, getK, zab, zac]; done) | fail) (by rfl) (by first | assumption | (simp; done) | fail) (by rfl) (by simp) ?_; rintro ob' ⟨q', rfl⟩; refine ⟨_, Wk.refl _, ?_⟩)
  | (refine zaJ (by first | rfl | fail) ?_; simp [hne, hk, del, nAA, frzN, frz1, zaD, zaC, St.frz, St.frzS, frzS, fv, zaV, za8, za9, frzObS, zay, zat, del, frz, zbc])
  | fail)
    (refine hpan _ _ ⟨{ n := _, env := [], obs := [(i, pOb l q')], next := nx }, (Wk.cut rfl (by simp [hn]) (by simp [wkO, zaa, getK, zab, zac, Ob.under, D.under, zad, zae, hi, hne, zab, zac, zaa, getK]) (by simp [wkU, zal, zaa, getK, D.under, hi, hne, zab, zac, zaa, getK]) (by simp [wkE, zal, zaa, getK, hi, hne, zab, zac, zaa, getK])), by simp [hn], ?_⟩; try simp)
    exact PPost.zaG (by simp [PR.bind, *])
   | ok v2 q2 =>
    simp only [hr2] at hw2;obtain ⟨g2a, g2b⟩ := za6 hl _ hr2 g1b;have hb := fun nx' (h : nx <= nx') => hE q2 0 i nx' (by omega) g2b (by omega) (by omega) (by omega);cases hr3 : zeM l f q2 0 with
    | stop pos e =>
     simp only [hr3] at hb
     (refine RetX.of_bodyW Tryz.func283 rfl (by simp) fun Γ hn hpan => ?_); simp only [entry, ziC, ziN, maC, maN, oA, Tryz.ntmps283]
     repeat' (first
  | ((first | refine zag ?_ | refine zaj ?_ | fail); simp [hne, hk, del, nAA])
  | (refine ⟨by omega, ?_⟩)
  | ((first | refine zah ?_ | refine zai ?_ | fail); simp [hne, hk, del, nAA])
  | (refine zap ?_; simp only [zan])
  | (refine CallP.fE (hnx) (by first | rfl | fail) (by first | simp [hne, hk, del, nAA] <;> rfl | fail) ?_; (try simp [hne, hk, del, nAA]))
  | (refine CallP.fE (hm1) (by first | rfl | fail) (by first | simp [hne, hk, del, nAA] <;> rfl | fail) ?_; (try simp [hne, hk, del, nAA]))
  | (refine CallP.fE (hm2) (by first | rfl | fail) (by first | simp [hne, hk, del, nAA] <;> rfl | fail) ?_; (try simp [hne, hk, del, nAA]))
  | (refine CallP.ok1 (hh1 _ (by first | omega | simp <;> omega | fail)) (by first | (simp [hne, hk, del, nAA, zaa, getK, zab, zac]; done) | fail) (by rfl) (by rfl) ?_; (try simp [hne, hk, del, nAA]))
  | (refine CallP.ok1 (hh2 _ (by first | omega | simp <;> omega | fail)) (by first | (simp [hne, hk, del, nAA, zaa, getK, zab, zac]; done) | fail) (by rfl) (by rfl) ?_; (try simp [hne, hk, del, nAA]))
  | (refine CallP.ok1 (hw1 _ (by first | omega | simp <;> omega | fail)) (by first | (simp [hne, hk, del, nAA, zaa, getK, zab, zac]; done) | fail) (by rfl) (by rfl) ?_; (try simp [hne, hk, del, nAA]))
  | (refine CallP.ok1 (ha _ (by first | omega | simp <;> omega | fail)) (by first | (simp [hne, hk, del, nAA, zaa, getK, zab, zac]; done) | fail) (by rfl) (by rfl) ?_; (try simp [hne, hk, del, nAA]))
  | (refine CallP.ok1 (hw2 _ (by first | omega | simp <;> omega | fail)) (by first | (simp [hne, hk, del, nAA, zaa, getK, zab, zac]; done) | fail) (by rfl) (by rfl) ?_; (try simp [hne, hk, del, nAA]))
  | (refine CallP.zeN (hb _ (by first | omega | simp <;> omega | fail)) (by first | (simp [hne, hk, del, nAA, zaa, getK, zab, zac]; done) | fail) (by rfl) (by first | assumption | (simp; done) | fail) (by rfl) (by simp) ?_; rintro ob' ⟨q', rfl⟩; refine ⟨_, Wk.refl _, ?_⟩)
  | (refine zaJ (by first | rfl | fail) ?_; simp [hne, hk, del, nAA, frzN, frz1, zaD, zaC, St.frz, St.frzS, frzS, fv, zaV, za8, za9, frzObS, zay, zat, del, frz, zbc])
  | fail)
     (refine hpan _ _ ⟨{ n := _, env := [], obs := [(i, pOb l q')], next := nx }, (Wk.cut rfl (by simp [hn]) (by simp [wkO, zaa, getK, zab, zac, Ob.under, D.under, zad, zae, hi, hne, zab, zac, zaa, getK]) (by simp [wkU, zal, zaa, getK, D.under, hi, hne, zab, zac, zaa, getK]) (by simp [wkE, zal, zaa, getK, hi, hne, zab, zac, zaa, getK])), by simp [hn], ?_⟩; try simp)
     exact PPost.zaG (by simp [PR.bind, *])
    | ok v3 q3 =>
     have hb := fun nx' h => zdB (hb nx' h) hr3;obtain ⟨g3a, g3b⟩ := (zcz hl f).1 _ _ _ _ hr3 g2b;have hw3 := fun nx' (h : nx <= nx') => zeO hl [41] (q := q3) (i := i) (nx := nx') (by omega) g3b;cases hr4 : zb7 l q3 [[41]] with
     | stop pos e =>
      simp only [hr4] at hw3
      (refine RetX.of_bodyW Tryz.func283 rfl (by simp) fun Γ hn hpan => ?_); simp only [entry, ziC, ziN, maC, maN, oA, Tryz.ntmps283]
      repeat' (first
  | ((first | refine zag ?_ | refine zaj ?_ | fail); simp [hne, hk, del, nAA])
  | (refine ⟨by omega, ?_⟩)
  | ((first | refine zah ?_ | refine zai ?_ | fail); simp [hne, hk, del, nAA])
  | (refine zap ?_; simp only [zan])
  | (refine CallP.fE (hnx) (by first | rfl | fail) (by first | simp [hne, hk, del, nAA] <;> rfl | fail) ?_; (try simp [hne, hk, del, nAA]))
  | (refine CallP.fE (hm1) (by first | rfl | fail) (by first | simp [hne, hk, del, nAA] <;> rfl | fail) ?_; (try simp [hne, hk, del, nAA]))
  | (refine CallP.fE (hm2) (by first | rfl | fail) (by first | simp [hne, hk, del, nAA] <;> rfl | fail) ?_; (try simp [hne, hk, del, nAA]))
  | (refine CallP.ok1 (hh1 _ (by first | omega | simp <;> omega | fail)) (by first | (simp [hne, hk, del, nAA, zaa, getK, zab, zac]; done) | fail) (by rfl) (by rfl) ?_; (try simp [hne, hk, del, nAA]))
  | (refine CallP.ok1 (hh2 _ (by first | omega | simp <;> omega | fail)) (by first | (simp [hne, hk, del, nAA, zaa, getK, zab, zac]; done) | fail) (by rfl) (by rfl) ?_; (try simp [hne, hk, del, nAA]))
  | (refine CallP.ok1 (hw1 _ (by first | omega | simp <;> omega | fail)) (by first | (simp [hne, hk, del, nAA, zaa, getK, zab, zac]; done) | fail) (by rfl) (by rfl) ?_; (try simp [hne, hk, del, nAA]))
  | (refine CallP.ok1 (ha _ (by first | omega | simp <;> omega | fail)) (by first | (simp [hne, hk, del, nAA, zaa, getK, zab, zac]; done) | fail) (by rfl) (by rfl) ?_; (try simp [hne, hk, del, nAA]))
  | (refine CallP.ok1 (hw2 _ (by first | omega | simp <;> omega | fail)) (by first | (simp [hne, hk, del, nAA, zaa, getK, zab, zac]; done) | fail) (by rfl) (by rfl) ?_; (try simp [hne, hk, del, nAA]))
  | (refine CallP.ok1 (hb _ (by first | omega | simp <;> omega | fail)) (by first | (simp [hne, hk, del, nAA, zaa, getK, zab, zac]; done) | fail) (by rfl) (by rfl) ?_; (try simp [hne, hk, del, nAA]))
  | (refine CallP.zeN (hw3 _ (by first | omega | simp <;> omega | fail)) (by first | (simp [hne, hk, del, nAA, zaa, getK, zab, zac]; done) | fail) (by rfl) (by first | assumption | (simp; done) | fail) (by rfl) (by simp) ?_; rintro ob' ⟨q', rfl⟩; refine ⟨_, Wk.refl _, ?_⟩)
  | (refine zaJ (by first | rfl | fail) ?_; simp [hne, hk, del, nAA, frzN, frz1, zaD, zaC, St.frz, St.frzS, frzS, fv, zaV, za8, za9, frzObS, zay, zat, del, frz, zbc])
  | fail)
      (refine hpan _ _ ⟨{ n := _, env := [], obs := [(i, pOb l q')], next := nx }, (Wk.cut rfl (by simp [hn]) (by simp [wkO, zaa, getK, zab, zac, Ob.under, D.under, zad, zae, hi, hne, zab, zac, zaa, getK]) (by simp [wkU, zal, zaa, getK, D.under, hi, hne, zab, zac, zaa, getK]) (by simp [wkE, zal, zaa, getK, hi, hne, zab, zac, zaa, getK])), by simp [hn], ?_⟩; try simp)
      exact PPost.zaG (by simp [PR.bind, *])
     | ok v4 q4 =>
      simp only [hr4] at hw3;obtain ⟨g4a, g4b⟩ := za6 hl _ hr4 g3b
      (refine RetX.of_bodyW Tryz.func283 rfl (by simp) fun Γ hn hpan => ?_); simp only [entry, ziC, ziN, maC, maN, oA, Tryz.ntmps283]
      repeat' (first
  | ((first | refine zag ?_ | refine zaj ?_ | fail); simp [hne, hk, del, nAA])
  | (refine ⟨by omega, ?_⟩)
  | ((first | refine zah ?_ | refine zai ?_ | fail); simp [hne, hk, del, nAA])
  | ((first | refine zar ?_ | refine zap ?_ | fail); simp only [zan])
  | (refine CallP.fE (hnx) (by first | rfl | fail) (by first | simp [hne, hk, del, nAA] <;> rfl | fail) ?_; (try simp [hne, hk, del, nAA]))
  | (refine CallP.fE (hm1) (by first | rfl | fail) (by first | simp [hne, hk, del, nAA] <;> rfl | fail) ?_; (try simp [hne, hk, del, nAA]))
  | (refine CallP.fE (hm2) (by first | rfl | fail) (by first | simp [hne, hk, del, nAA] <;> rfl | fail) ?_; (try simp [hne, hk, del, nAA]))
  | (refine CallP.ok1 (hh1 _ (by first | omega | simp <;> omega | fail)) (by first | (simp [hne, hk, del, nAA, zaa, getK, zab, zac]; done) | fail) (by rfl) (by rfl) ?_; (try simp [hne, hk, del, nAA]))
  | (refine CallP.ok1 (hh2 _ (by first | omega | simp <;> omega | fail)) (by first | (simp [hne, hk, del, nAA, zaa, getK, zab, zac]; done) | fail) (by rfl) (by rfl) ?_; (try simp [hne, hk, del, nAA]))
  | (refine CallP.ok1 (hw1 _ (by first | omega | simp <;> omega | fail)) (by first | (simp [hne, hk, del, nAA, zaa, getK, zab, zac]; done) | fail) (by rfl) (by rfl) ?_; (try simp [hne, hk, del, nAA]))
  | (refine CallP.ok1 (ha _ (by first | omega | simp <;> omega | fail)) (by first | (simp [hne, hk, del, nAA, zaa, getK, zab, zac]; done) | fail) (by rfl) (by rfl) ?_; (try simp [hne, hk, del, nAA]))
  | (refine CallP.ok1 (hw2 _ (by first | omega | simp <;> omega | fail)) (by first | (simp [hne, hk, del, nAA, zaa, getK, zab, zac]; done) | fail) (by rfl) (by rfl) ?_; (try simp [hne, hk, del, nAA]))
  | (refine CallP.ok1 (hb _ (by first | omega | simp <;> omega | fail)) (by first | (simp [hne, hk, del, nAA, zaa, getK, zab, zac]; done) | fail) (by rfl) (by rfl) ?_; (try simp [hne, hk, del, nAA]))
  | (refine CallP.ok1 (hw3 _ (by first | omega | simp <;> omega | fail)) (by first | (simp [hne, hk, del, nAA, zaa, getK, zab, zac]; done) | fail) (by rfl) (by rfl) ?_; (try simp [hne, hk, del, nAA]))
  | (refine zaJ (by first | rfl | fail) ?_; simp [hne, hk, del, nAA, frzN, frz1, zaD, zaC, St.frz, St.frzS, frzS, fv, zaV, za8, za9, frzObS, zay, zat, del, frz, zbc])
  | fail)
      (refine EndW.frzN 1 ?_; simp [frzN, frz1, zaD, zaC, St.frz, St.frzS, frzS, fv, zaV, za8, za9, frzObS, zay, zat, del, frz, zbc, hne, nAA])
      refine EndW.norm ?_;simp [St.norm, zbg, zbZ, zcd, zce, hne, nAA]
      (refine EndW.here ?_; (first | (refine EndOK.fin (.inr rfl) ?_) | (refine EndOK.fin (.inl rfl) ?_)); simp [zaK, zaf, Tryz.results283, hne, hi]; refine FinOK.cut [(i, pOb l q4)] (nx) (by simp [zaa, getK, zab, zac, Ob.under, D.under, zad, zae, hne, hi] <;> omega) (by simp [D.under]) (by simp [hn]) ?_; try simp)
      exact PPost.zcQ (by simp [PR.bind, *]; rfl) (by simp [Exp.row_eq, Exp.op, Exp.n, Exp.unit, Exp.s, Exp.args]) rfl
theorem zjU {l : List Tok} (hl : TokOK l) {f p : Nat} {t : Tok} (ht : l[p]? = some t) (hk : ¬ t.kind = 2) (h1 : isB l p [116, 114, 117, 101] = false) (h2 : isB l p [102, 97, 108, 115, 101] = false)
  (h3 : isB l p [109, 105, 110] = false) (h4 : isB l p [109, 97, 120] = false) (h5 : isB l p [40] = false) {i nx : Nat} (hi : i < nx) :
  RetX Tryz.prog 283 [.ptr i 0] [(i, pOb l p)] nx (PPost l i nx zeP (zbk l (f + 1) p)) := by
 have hne := za0 hi;have hp := (lGE.1 ht).1;have hnx := zcv l p t ht hl.len;have hll := hl.len;rw [zbk, ht];have hh1 := fun nx' (h : nx <= nx') => zbt l p [116, 114, 117, 101] i nx' (by omega) hp hl.len;have hh2 := fun nx' (h : nx <= nx') => zbt l p [102, 97, 108, 115, 101] i nx' (by omega) hp hl.len;have hm1 := zd1 l p [109, 105, 110] hp hl.len;have hm2 := zd1 l p [109, 97, 120] hp hl.len;have hh3 := fun nx' (h : nx <= nx') => zbt l p [40] i nx' (by omega) hp hl.len;have hnm := zgX t.text;have hc1 := fun nx' (h : nx <= nx') => zfq l p 12 i nx' (by omega);have hc2 := fun nx' (h : nx <= nx') => zdW l p t 12 i nx' (by omega) ht hl.len;simp only [hk, h1, h2, h3, h4, h5, if_false, if_true, Bool.false_eq_true, or_self] at hh1 hh2 hm1 hm2 hh3 ⊢;by_cases hw : t.kind = 1
 ·cases hb : zeA t.text with
  | true =>
   simp only [hb, hw, and_self, if_true] at hnm ⊢
   (refine RetX.of_bodyW Tryz.func283 rfl (by simp) fun Γ hn hpan => ?_); simp only [entry, ziC, ziN, maC, maN, oA, Tryz.ntmps283]
   repeat' (first
  | ((first | refine zag ?_ | refine zaj ?_ | fail); simp [hne, hk, hw, del, nAA])
  | (refine ⟨by omega, ?_⟩)
  | ((first | refine zah ?_ | refine zai ?_ | fail); simp [hne, hk, hw, del, nAA])
  | ((first | refine zar ?_ | refine zap ?_ | fail); simp only [zan])
  | (refine CallP.fE (hnx) (by first | rfl | fail) (by first | simp [hne, hk, hw, del, nAA] <;> rfl | fail) ?_; (try simp [hne, hk, hw, del, nAA]))
  | (refine CallP.fE (hm1) (by first | rfl | fail) (by first | simp [hne, hk, hw, del, nAA] <;> rfl | fail) ?_; (try simp [hne, hk, hw, del, nAA]))
  | (refine CallP.fE (hm2) (by first | rfl | fail) (by first | simp [hne, hk, hw, del, nAA] <;> rfl | fail) ?_; (try simp [hne, hk, hw, del, nAA]))
  | (refine CallP.fE (hnm) (by first | rfl | fail) (by first | simp [hne, hk, hw, del, nAA] <;> rfl | fail) ?_; (try simp [hne, hk, hw, del, nAA]))
  | (refine CallP.ok1 (hh1 _ (by first | omega | simp <;> omega | fail)) (by first | (simp [hne, hk, hw, del, nAA, zaa, getK, zab, zac]; done) | fail) (by rfl) (by rfl) ?_; (try simp [hne, hk, hw, del, nAA]))
  | (refine CallP.ok1 (hh2 _ (by first | omega | simp <;> omega | fail)) (by first | (simp [hne, hk, hw, del, nAA, zaa, getK, zab, zac]; done) | fail) (by rfl) (by rfl) ?_; (try simp [hne, hk, hw, del, nAA]))
  | (refine CallP.ok1 (hh3 _ (by first | omega | simp <;> omega | fail)) (by first | (simp [hne, hk, hw, del, nAA, zaa, getK, zab, zac]; done) | fail) (by rfl) (by rfl) ?_; (try simp [hne, hk, hw, del, nAA]))
  | (refine CallP.ok1 (hc1 _ (by first | omega | simp <;> omega | fail)) (by first | (simp [hne, hk, hw, del, nAA, zaa, getK, zab, zac]; done) | fail) (by rfl) (by rfl) ?_; (try simp [hne, hk, hw, del, nAA]))
  | fail)
   refine EndW.norm ?_;simp [St.norm, zbg, zbZ, zcd, zce, hne]
   (refine EndW.here ?_; (first | (refine EndOK.fin (.inr rfl) ?_) | (refine EndOK.fin (.inl rfl) ?_)); simp [zaK, zaf, Tryz.results283, hne, hi]; refine FinOK.cut [(i, pOb l (p + 1))] (nx) (by simp [zaa, getK, zab, zac, Ob.under, D.under, zad, zae, hne, hi] <;> omega) (by simp [D.under]) (by simp [hn]) ?_; try simp)
   exact PPost.zcQ rfl (by simp [Exp.row]) rfl
  | false =>
   simp only [hb, hw, Bool.false_eq_true, and_false, if_false] at hnm ⊢
   (refine RetX.of_bodyW Tryz.func283 rfl (by simp) fun Γ hn hpan => ?_); simp only [entry, ziC, ziN, maC, maN, oA, Tryz.ntmps283]
   repeat' (first
  | ((first | refine zag ?_ | refine zaj ?_ | refine zah ?_ | refine zai ?_ | fail); simp [hne, hk, hw, del, nAA])
  | (refine zap ?_; simp only [zan])
  | (refine CallP.fE (hnx) (by first | rfl | fail) (by first | simp [hne, hk, hw, del, nAA] <;> rfl | fail) ?_; (try simp [hne, hk, hw, del, nAA]))
  | (refine CallP.fE (hm1) (by first | rfl | fail) (by first | simp [hne, hk, hw, del, nAA] <;> rfl | fail) ?_; (try simp [hne, hk, hw, del, nAA]))
  | (refine CallP.fE (hm2) (by first | rfl | fail) (by first | simp [hne, hk, hw, del, nAA] <;> rfl | fail) ?_; (try simp [hne, hk, hw, del, nAA]))
  | (refine CallP.fE (hnm) (by first | rfl | fail) (by first | simp [hne, hk, hw, del, nAA] <;> rfl | fail) ?_; (try simp [hne, hk, hw, del, nAA]))
  | (refine CallP.ok1 (hh1 _ (by first | omega | simp <;> omega | fail)) (by first | (simp [hne, hk, hw, del, nAA, zaa, getK, zab, zac]; done) | fail) (by rfl) (by rfl) ?_; (try simp [hne, hk, hw, del, nAA]))
  | (refine CallP.ok1 (hh2 _ (by first | omega | simp <;> omega | fail)) (by first | (simp [hne, hk, hw, del, nAA, zaa, getK, zab, zac]; done) | fail) (by rfl) (by rfl) ?_; (try simp [hne, hk, hw, del, nAA]))
  | (refine CallP.ok1 (hh3 _ (by first | omega | simp <;> omega | fail)) (by first | (simp [hne, hk, hw, del, nAA, zaa, getK, zab, zac]; done) | fail) (by rfl) (by rfl) ?_; (try simp [hne, hk, hw, del, nAA]))
  | (refine CallP.zeN (hc2 _ (by first | omega | simp <;> omega | fail)) (by first | (simp [hne, hk, hw, del, nAA, zaa, getK, zab, zac]; done) | fail) (by rfl) (by first | assumption | (simp; done) | fail) (by rfl) (by simp) ?_; rintro ob' ⟨q', rfl⟩; refine ⟨_, Wk.refl _, ?_⟩)
  | fail)
   (refine hpan _ _ ⟨{ n := _, env := [], obs := [(i, pOb l q')], next := nx }, (Wk.cut rfl (by simp [hn]) (by simp [wkO, zaa, getK, zab, zac, Ob.under, D.under, zad, zae, hi, hne, zab, zac, zaa, getK]) (by simp [wkU, zal, zaa, getK, D.under, hi, hne, zab, zac, zaa, getK]) (by simp [wkE, zal, zaa, getK, hi, hne, zab, zac, zaa, getK])), by simp [hn], ?_⟩; try simp)
   exact PPost.zaG rfl
 ·simp only [hw, false_and, if_false]
  (refine RetX.of_bodyW Tryz.func283 rfl (by simp) fun Γ hn hpan => ?_); simp only [entry, ziC, ziN, maC, maN, oA, Tryz.ntmps283]
  repeat' (first
  | ((first | refine zag ?_ | refine zaj ?_ | refine zah ?_ | refine zai ?_ | fail); simp [hne, hk, hw, del, nAA])
  | (refine zap ?_; simp only [zan])
  | (refine CallP.fE (hnx) (by first | rfl | fail) (by first | simp [hne, hk, hw, del, nAA] <;> rfl | fail) ?_; (try simp [hne, hk, hw, del, nAA]))
  | (refine CallP.fE (hm1) (by first | rfl | fail) (by first | simp [hne, hk, hw, del, nAA] <;> rfl | fail) ?_; (try simp [hne, hk, hw, del, nAA]))
  | (refine CallP.fE (hm2) (by first | rfl | fail) (by first | simp [hne, hk, hw, del, nAA] <;> rfl | fail) ?_; (try simp [hne, hk, hw, del, nAA]))
  | (refine CallP.ok1 (hh1 _ (by first | omega | simp <;> omega | fail)) (by first | (simp [hne, hk, hw, del, nAA, zaa, getK, zab, zac]; done) | fail) (by rfl) (by rfl) ?_; (try simp [hne, hk, hw, del, nAA]))
  | (refine CallP.ok1 (hh2 _ (by first | omega | simp <;> omega | fail)) (by first | (simp [hne, hk, hw, del, nAA, zaa, getK, zab, zac]; done) | fail) (by rfl) (by rfl) ?_; (try simp [hne, hk, hw, del, nAA]))
  | (refine CallP.ok1 (hh3 _ (by first | omega | simp <;> omega | fail)) (by first | (simp [hne, hk, hw, del, nAA, zaa, getK, zab, zac]; done) | fail) (by rfl) (by rfl) ?_; (try simp [hne, hk, hw, del, nAA]))
  | (refine CallP.zeN (hc2 _ (by first | omega | simp <;> omega | fail)) (by first | (simp [hne, hk, hw, del, nAA, zaa, getK, zab, zac]; done) | fail) (by rfl) (by first | assumption | (simp; done) | fail) (by rfl) (by simp) ?_; rintro ob' ⟨q', rfl⟩; refine ⟨_, Wk.refl _, ?_⟩)
  | fail)
  (refine hpan _ _ ⟨{ n := _, env := [], obs := [(i, pOb l q')], next := nx }, (Wk.cut rfl (by simp [hn]) (by simp [wkO, zaa, getK, zab, zac, Ob.under, D.under, zad, zae, hi, hne, zab, zac, zaa, getK]) (by simp [wkU, zal, zaa, getK, D.under, hi, hne, zab, zac, zaa, getK]) (by simp [wkE, zal, zaa, getK, hi, hne, zab, zac, zaa, getK])), by simp [hn], ?_⟩; try simp)
  exact PPost.zaG rfl
theorem zlU {l : List Tok} {p : Nat} {w : List UInt8} {t : Tok} (ht : l[p]? = some t) (h : isB l p w = true) : t.text = w := by
 unfold isB at h;rw [ht] at h;simp only [Bool.and_eq_true, decide_eq_true_eq] at h;exact h.2
theorem zjT {l : List Tok} (hl : TokOK l) {f : Nat} (hE : zhS l f) : ziQ l (f + 1) := by
 intro p i nx hi hp hf;obtain ⟨t, ht⟩ : ∃ t, l[p]? = some t := ⟨_, List.getElem?_eq_getElem hp⟩;by_cases hk : t.kind = 2
 ·exact zkY hl ht hk hi
 cases h1 : isB l p [116, 114, 117, 101] with
 | true => exact zjS hl ht hk h1 hi
 | false =>
 cases h2 : isB l p [102, 97, 108, 115, 101] with
 | true => exact zi6 hl ht hk h1 h2 hi
 | false =>
 cases h3 : isB l p [109, 105, 110] with
 | true =>
  cases h4 : isB l p [109, 97, 120] with
  | true => exact absurd ((zlU ht h3).symm.trans (zlU ht h4)) (by decide)
  | false => exact zkZ hl hE (by omega) ht hk h1 h2 h3 h4 hi
 | false =>
 cases h4 : isB l p [109, 97, 120] with
 | true => exact zk0 hl hE (by omega) ht hk h1 h2 h3 h4 hi
 | false =>
 cases h5 : isB l p [40] with
 | true => exact zi5 hl hE (by omega) ht hk h1 h2 h3 h4 h5 hi
 | false => exact zjU hl ht hk h1 h2 h3 h4 h5 hi
end Go.Proofs.YtepiegcjnaohjaaGreatDoor
