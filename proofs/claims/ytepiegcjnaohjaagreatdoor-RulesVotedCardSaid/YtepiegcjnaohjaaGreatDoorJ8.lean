import Derived.Test.YtepiegcjnaohjaaGreatDoorJ7
set_option linter.all false
set_option maxRecDepth 100000
set_option maxHeartbeats 8000000
namespace Go.Proofs.YtepiegcjnaohjaaGreatDoor
open Go Go.VL
attribute [local simp] HS zdf zcf evPure opd uOf zaI St.put St.at getK binD binI binS binB nilD aggD zgQ zhI lookD lookR zcE Go.VL.nextD zcI zhV zhU zfX zb8 mkV zbo zbh zbf zbe zda zbb zbx zbJ mapEff zdm zfI Key.kk shiftI arith unD convD zdP loadD cellsAt fieldAddrD fieldD indexAddrD indexD sliceD cutD lenD minmaxD nilCheckD buildD fillD zb3 zdi zeX setAll zc1 zeI zcD zg3 zcy St.add zaO zbU rowsOf zdJ zcJ zam zac zaa zbm zcS zaN entry zbH zbL valD zcb zcp zgK zdr zds zcc zbN zaz za1 zbn delAll effD St.effS zc7 zbi za3 zc8 zbj za5 zcn za4 zaT zco zc4 zbM zcl zbw zcj zck zaY mkD zbq zbG zb0 zaz zcC D.ids Op.operands Call.operands zby makeIfD makeFuncD typeAssertD zhG zdG zdH zhb zcG IntKind.bits zcg zaS List.take_of_length_le List.range_succ
attribute [local irreducible] V G H HD HD2 HD4 znh RetX zan Eff CallP CallV EndOK Fun Ret FinOK LoopI LoopW EndW
theorem zsC (l : List Lw) (n : Int) (h0 : 0 <= n) (hn1 : n <= 1000) : ∃ B : Bool, (B = true -> (l.length : Int) <= n) /\ Fun Tryz.prog 13 [.u (zdT l), .u (.int .i64 n)] (· = .u (.bool B)) := by
 obtain ⟨B, hB⟩ : ∃ B : Bool, B = zlf l n := ⟨_, rfl⟩;refine ⟨B, fun h => (zoJ (hB ▸ h)).1, ?_⟩;unfold zdT
 (refine Fun.of_body Tryz.func13 rfl (by simp) fun Γ hn => ?_); simp only [entry, ziC, ziN, maC, maN, oA, Tryz.ntmps13]
 refine zgR (x := 0) rfl fun hll => ?_;simp at hll
 repeat' (first
  | ((first | refine zag ?_ | refine zaj ?_ | refine zah ?_ | refine zaA ?_ | fail); simp)
  | fail)
 refine zb2 (α := { i : Nat // i <= l.length /\ (i : Int) <= n + 1 /\ ∀ x ∈ l.take i, x.text.length <= 500 }) [0, 1] (fun i => [(5, .u (.int .i64 i.1))]) (fun i => l.length - i.1) ⟨0, by omega, by omega, by simp⟩ ?_ ?_
 ·exact (Wk.env rfl rfl rfl (by simp [wkE, St.lp, zal, zaa, getK] <;> (try (intros; simp_all; done)) <;> (try (intros; omega)) <;> (try grind)))
 rintro ⟨i, hi, hin, hb⟩;simp [St.lp, St.only, zal, zaa, getK];rcases hx : l[i]? with _ | x
 ·have hge : l.length <= i := by simpa using hx
  obtain rfl : i = l.length := by omega
  rw [List.take_length] at hb;by_cases hle : (l.length : Int) <= n
  ·have e : B = true := by rw [hB]; simp [zlf, hle]; exact hb
   rw [e]
   repeat' (first
  | ((first | refine zag ?_ | refine zaj ?_ | refine zah ?_ | refine zai ?_ | fail); simp [hx, hle])
  | (refine zar ?_; simp only [zan])
  | (refine zaZ ?_; simp [zan])
  | fail)
   (refine EndOK.val (.inr rfl) ?_; simp [zaK, zaf, zas, Tryz.results13])
  ·have e : B = false := by rw [hB]; simp [zlf]; intro h; omega
   rw [e]
   repeat' (first
  | ((first | refine zag ?_ | refine zaj ?_ | refine zah ?_ | refine zai ?_ | fail); simp [hx, hle])
  | (refine zar ?_; simp only [zan])
  | (refine zaZ ?_; simp [zan])
  | fail)
   (refine EndOK.val (.inr rfl) ?_; simp [zaK, zaf, zas, Tryz.results13])
 ·have hlt : i < l.length := (lGE.1 hx).1;have hlt2 : (i : Int) < l.length := by omega
  by_cases hin2 : (i : Int) <= n
  ·by_cases hlx : 500 < x.text.length
   ·have hlx' : (500 : Int) < x.text.length := by omega
    have e : B = false := by
     rw [hB, zlf, Bool.and_eq_false_iff];right;rw [List.all_eq_false];exact ⟨x, List.mem_of_getElem? hx, by simp; omega⟩
    rw [e]
    repeat' (first
  | ((first | refine zag ?_ | refine zaj ?_ | refine zah ?_ | refine zai ?_ | fail); simp [hx, hlt2, hin2, hlx'])
  | ((first | refine zar ?_ | refine zap ?_ | fail); simp only [zan])
  | fail)
    (refine EndOK.val (.inr rfl) ?_; simp [zaK, zaf, zas, Tryz.results13])
   ·have hlx' : ¬ (500 : Int) < x.text.length := by omega
    repeat' (first
  | ((first | refine zag ?_ | refine zaj ?_ | fail); simp [hx, hlt2, hin2, hlx'])
  | (refine ⟨by omega, ?_⟩)
  | ((first | refine zah ?_ | refine zai ?_ | refine zaq ?_ | fail); simp [hx, hlt2, hin2, hlx'])
  | (refine zap ?_; simp only [zan])
  | fail)
    refine LoopW.next ⟨i + 1, by omega, by omega, fun y hy => ?_⟩ (by simp; omega) ?_
    ·rw [List.take_succ, hx] at hy;rcases List.mem_append.1 hy with h | h
     ·exact hb y h
     ·simp at h; subst h; omega
    exact (Wk.env rfl rfl rfl (by simp [wkE, St.lp, zal, zaa, getK] <;> (try (intros; simp_all; done)) <;> (try (intros; omega)) <;> (try grind)))
  ·have hle : ¬ (l.length : Int) <= n := by omega
   have e : B = false := by rw [hB]; simp [zlf]; intro h; omega
   rw [e]
   repeat' (first
  | ((first | refine zag ?_ | refine zaj ?_ | refine zah ?_ | refine zai ?_ | fail); simp [hx, hlt2, hin2, hle])
  | (refine zar ?_; simp only [zan])
  | (refine zaZ ?_; simp [zan])
  | fail)
   (refine EndOK.val (.inr rfl) ?_; simp [zaK, zaf, zas, Tryz.results13])
theorem zkV (t : W8) : Fun Tryz.prog 23 [.u (.str t)] (· = .tup [.u (.int .i64 (zcF t).1.voices), .u (.bool (decide ((zcF t).2.2 = 0)))]) := by
 have hp := zj0 t;generalize zcF t = PB at *;obtain ⟨b, at_, e⟩ := PB;simp only at hp ⊢;unfold byD zbu at hp;by_cases he : e = 0
 ·rw [decide_eq_true he]
  (refine Fun.of_body Tryz.func23 rfl (by simp) fun Γ hn => ?_); simp only [entry, ziC, ziN, maC, maN, oA, Tryz.ntmps23]
  repeat' (first
  | ((first | refine zag ?_ | refine zaj ?_ | refine zah ?_ | fail); simp [he])
  | (refine zar ?_; simp only [zan])
  | (refine CallP.fE (hp) (by first | rfl | fail) (by first | simp [he] <;> rfl | fail) ?_; (try simp [he]))
  | fail)
  (refine EndOK.val (.inr rfl) ?_; simp [zaK, zaf, zas, Tryz.results23])
 ·rw [decide_eq_false he]
  (refine Fun.of_body Tryz.func23 rfl (by simp) fun Γ hn => ?_); simp only [entry, ziC, ziN, maC, maN, oA, Tryz.ntmps23]
  repeat' (first
  | ((first | refine zag ?_ | refine zaj ?_ | refine zah ?_ | fail); simp [he])
  | (refine zar ?_; simp only [zan])
  | (refine CallP.fE (hp) (by first | rfl | fail) (by first | simp [he] <;> rfl | fail) ?_; (try simp [he]))
  | fail)
  (refine EndOK.val (.inr rfl) ?_; simp [zaK, zaf, zas, Tryz.results23])
theorem znp (s : List UInt8) (l : List Lw) (members ys : List Int) (hys : ∀ y ∈ ys, 0 <= y /\ y <= 255) : Fun Tryz.prog 6 [.u (.str s), .u (zdT l), .u (ints members), .u (u8s ys)] (· = .u (.bool true)) := by
 obtain ⟨B, hB1, hB⟩ := zsC l 6 (by omega) (by omega);have hs := znB;by_cases c1 : 500 < s.length
 ·have c1' : (500 : Int) < s.length := by omega
  simp only [zdT, ints, u8s] at *
  (refine Fun.of_bodyW Tryz.func6 rfl (by simp) fun Γ hn => ?_); simp only [entry, ziC, ziN, maC, maN, oA, Tryz.ntmps6]
  repeat' (first
  | ((first | refine zag ?_ | refine zaj ?_ | refine zah ?_ | refine zai ?_ | fail); simp [c1'])
  | (refine zar ?_; simp only [zan])
  | (refine CallP.fE (hs) (by first | rfl | fail) (by first | simp [c1'] <;> rfl | fail) ?_; (try simp [c1']))
  | fail)
  refine EndW.here ?_
  (refine EndOK.val (.inr rfl) ?_; simp [zaK, zaf, zas, Tryz.results6])
 have c1' : ¬ (500 : Int) < s.length := by omega
 cases B with
 | false =>
  simp only [zdT, ints, u8s] at *
  (refine Fun.of_bodyW Tryz.func6 rfl (by simp) fun Γ hn => ?_); simp only [entry, ziC, ziN, maC, maN, oA, Tryz.ntmps6]
  repeat' (first
  | ((first | refine zag ?_ | refine zaj ?_ | refine zah ?_ | refine zai ?_ | fail); simp [c1'])
  | (refine zar ?_; simp only [zan])
  | (refine CallP.fE (hs) (by first | rfl | fail) (by first | simp [c1'] <;> rfl | fail) ?_; (try simp [c1']))
  | (refine CallP.fE (hB) (by first | rfl | fail) (by first | simp [c1'] <;> rfl | fail) ?_; (try simp [c1']))
  | fail)
  refine EndW.here ?_
  (refine EndOK.val (.inr rfl) ?_; simp [zaK, zaf, zas, Tryz.results6])
 | true =>
  have hl6 : l.length <= 6 := by have := hB1 rfl; omega
  by_cases c2 : 12 < members.length
  ·have c2' : (12 : Int) < members.length := by omega
   simp only [zdT, ints, u8s] at *
   (refine Fun.of_bodyW Tryz.func6 rfl (by simp) fun Γ hn => ?_); simp only [entry, ziC, ziN, maC, maN, oA, Tryz.ntmps6]
   repeat' (first
  | ((first | refine zag ?_ | refine zaj ?_ | refine zah ?_ | refine zai ?_ | fail); simp [c1', c2'])
  | (refine zar ?_; simp only [zan])
  | (refine CallP.fE (hs) (by first | rfl | fail) (by first | simp [c1', c2'] <;> rfl | fail) ?_; (try simp [c1', c2']))
  | (refine CallP.fE (hB) (by first | rfl | fail) (by first | simp [c1', c2'] <;> rfl | fail) ?_; (try simp [c1', c2']))
  | fail)
   refine EndW.here ?_
   (refine EndOK.val (.inr rfl) ?_; simp [zaK, zaf, zas, Tryz.results6])
  have c2' : ¬ (12 : Int) < members.length := by omega
  by_cases c3 : ys.length < l.length
  ·have c3' : (ys.length : Int) < l.length := by omega
   simp only [zdT, ints, u8s] at *
   (refine Fun.of_bodyW Tryz.func6 rfl (by simp) fun Γ hn => ?_); simp only [entry, ziC, ziN, maC, maN, oA, Tryz.ntmps6]
   repeat' (first
  | ((first | refine zag ?_ | refine zaj ?_ | refine zah ?_ | refine zai ?_ | fail); simp [c1', c2', c3, c3'])
  | (refine zar ?_; simp only [zan])
  | (refine CallP.fE (hs) (by first | rfl | fail) (by first | simp [c1', c2', c3, c3'] <;> rfl | fail) ?_; (try simp [c1', c2', c3, c3']))
  | (refine CallP.fE (hB) (by first | rfl | fail) (by first | simp [c1', c2', c3, c3'] <;> rfl | fail) ?_; (try simp [c1', c2', c3, c3']))
  | fail)
   refine EndW.here ?_
   (refine EndOK.val (.inr rfl) ?_; simp [zaK, zaf, zas, Tryz.results6])
  have c3' : ¬ (ys.length : Int) < l.length := by omega
  have ht0 := zjH members [] 0 0 0 (by omega) (by simp);by_cases c4 : (zfR members [] 0 0 0).2 = 0
  case neg =>
   generalize zfR members [] 0 0 0 = TM at *;simp only [zdT, ints, u8s, voU, List.map_nil] at *
   (refine Fun.of_bodyW Tryz.func6 rfl (by simp) fun Γ hn => ?_); simp only [entry, ziC, ziN, maC, maN, oA, Tryz.ntmps6]
   repeat' (first
  | ((first | refine zag ?_ | refine zaj ?_ | refine zah ?_ | refine zai ?_ | fail); simp [c1', c2', c3, c3', c4])
  | ((first | refine zar ?_ | refine zap ?_ | fail); simp only [zan])
  | (refine CallP.fE (hs) (by first | rfl | fail) (by first | simp [c1', c2', c3, c3', c4] <;> rfl | fail) ?_; (try simp [c1', c2', c3, c3', c4]))
  | (refine CallP.fE (hB) (by first | rfl | fail) (by first | simp [c1', c2', c3, c3', c4] <;> rfl | fail) ?_; (try simp [c1', c2', c3, c3', c4]))
  | (refine CallP.fE (ht0) (by first | rfl | fail) (by first | simp [c1', c2', c3, c3', c4] <;> rfl | fail) ?_; (try simp [c1', c2', c3, c3', c4]))
  | fail)
   refine EndW.here ?_
   (refine EndOK.val (.inr rfl) ?_; simp [zaK, zaf, zas, Tryz.results6])
  have hv : zdw members = true := by
   cases hv : zdw members with
   | true => rfl
   | false => unfold zfR at c4; rw [if_pos (.inr hv)] at c4; cases c4
  have htl := fun n y (h1 : 0 <= n /\ n <= 1000) (h2 : 0 <= y) => zpt hv h1 h2 (y := y) (n := n);have htf := fun (L : List Vo) n (h : L.length <= 1000000) => zjH members L n 5 3 (by omega) h;have hnf := fun n => zip members.length n;rw [c4] at ht0;clear c4;generalize (zfR members [] 0 0 0).1 = T0 at *;simp only [zdT, ints, u8s, voU, List.map_nil] at *
  (refine Fun.of_bodyW Tryz.func6 rfl (by simp) fun Γ hn => ?_); simp only [entry, ziC, ziN, maC, maN, oA, Tryz.ntmps6]
  repeat' (first
  | ((first | refine zag ?_ | refine zaj ?_ | refine zah ?_ | refine zai ?_ | refine zaA ?_ | fail); simp [c1', c2', c3, c3'])
  | (refine zap ?_; simp only [zan])
  | (refine CallP.fE (hs) (by first | rfl | fail) (by first | simp [c1', c2', c3, c3'] <;> rfl | fail) ?_; (try simp [c1', c2', c3, c3']))
  | (refine CallP.fE (hB) (by first | rfl | fail) (by first | simp [c1', c2', c3, c3'] <;> rfl | fail) ?_; (try simp [c1', c2', c3, c3']))
  | (refine CallP.fE (ht0) (by first | rfl | fail) (by first | simp [c1', c2', c3, c3'] <;> rfl | fail) ?_; (try simp [c1', c2', c3, c3']))
  | fail)
  refine zlt _ (Wk.own 12 39 3 (by decide) rfl) ?_;simp [St.own];refine zb4 (α := { x : Nat × List Lw // x.1 <= l.length /\ x.2.length <= x.1 }) [0, 1, 2, 3, 9] (fun x => [(12, .vec 0 x.1.2.length), (13, .u (.int .i64 x.1.1))])
   (fun x => [(0, .vec 39 3 (zkL x.1.2))]) 1 (fun x => l.length - x.1.1) ⟨(0, []), by omega, by simp⟩ ?_ ?_
  ·exact (Wk.cut rfl (by simp [hn, St.lp]) (by simp [wkO, St.lp, zaa, getK, Ob.under, D.under, zad, zae, zkL]) (by simp [wkU, St.lp, zal, zaa, getK, D.under, zkL]) (by simp [wkE, St.lp, zal, zaa, getK, zkL] <;> (try (intros; simp_all; done)) <;> (try (intros; omega)) <;> (try grind)))
  rintro ⟨⟨i, A⟩, hi, hA⟩;simp only at hi hA;simp [St.lp, St.only, zal, zaa, getK];rcases hx : l[i]? with _ | x
  ·have hge : l.length <= i := by simpa using hx
   obtain rfl : i = l.length := by omega
   repeat' (first
  | ((first | refine zag ?_ | refine zaj ?_ | refine zah ?_ | refine zai ?_ | fail); simp [hx])
  | (refine zar ?_; simp only [zan])
  | (refine zaZ ?_; simp [zan])
  | fail)
   refine EndW.here ?_
   (refine EndOK.val (.inr rfl) ?_; simp [zaK, zaf, zas, Tryz.results6])
  ·have hlt : i < l.length := (lGE.1 hx).1;have hlt2 : (i : Int) < l.length := by omega
   obtain ⟨y, hy⟩ : ∃ y, ys[i]? = some y := ⟨_, List.getElem?_eq_getElem (by omega)⟩;obtain ⟨y0, y1⟩ := hys y (List.mem_of_getElem? hy);have k1 := zfT s 7 A (by omega);have k2 := zf2 7 A (by omega);have k3 := zkV (zeR s 7 A);have k4 := zjB (zeR s 7 A);have g1 := zm2 7 A x;have g2 := znx s 7 A x;have k5 := zfT s 7 (A ++ [x]) (by simp; omega);have k6 := zf2 7 (A ++ [x]) (by simp; omega);generalize zcF (zeR s 7 A) = PB at *;obtain ⟨b, pb, e⟩ := PB;simp only at k3 k4;generalize zeR s 7 A = TX at *;generalize zeR s 7 (A ++ [x]) = TX2 at *;generalize zem 7 A = FM at *;generalize zem 7 (A ++ [x]) = FM2 at *;generalize zmf 7 A = VD at *;generalize zmf 7 (A ++ [x]) = VD2 at *;simp only [zdT, ints, List.map_append, List.map_cons, List.map_nil] at k1 k2 k5 k6;by_cases c5 : e = 0
   case neg =>
    rw [decide_eq_false c5] at k3
    repeat' (first
  | ((first | refine zag ?_ | refine zaj ?_ | refine zah ?_ | refine zai ?_ | fail); simp [hx, hlt2, zaF, zaE])
  | ((first | refine zar ?_ | refine zap ?_ | fail); simp only [zan])
  | (refine CallP.fE (k1) (by first | rfl | fail) (by first | simp [hx, hlt2, zaF, zaE] <;> rfl | fail) ?_; (try simp [hx, hlt2, zaF, zaE]))
  | (refine CallP.fE (k3) (by first | rfl | fail) (by first | simp [hx, hlt2, zaF, zaE] <;> rfl | fail) ?_; (try simp [hx, hlt2, zaF, zaE]))
  | (refine CallP.zsX (k2) (by first | rfl | fail) (by first | assumption | (simp; done) | fail) (by first | simp [hx, hlt2, zaF, zaE] <;> rfl | fail) (by first | (simp; done) | fail) (fun d hd => ?_); subst hd; (try simp [hx, hlt2, zaF, zaE, zeg, zbn]))
  | fail)
    refine EndW.here ?_
    (refine EndOK.val (.inr rfl) ?_; simp [zaK, zaf, zas, Tryz.results6])
   rw [decide_eq_true c5] at k3;have hvr := k4;obtain ⟨t1, t2⟩ := htl b.voices y hvr y0;have t3 := htf (vlM members y members.length) b.voices (by rw [ziT]; omega);have t4 := hnf b.voices;rw [t2] at t3;rw [t1] at t4;generalize (zcU members.length b.voices).1 = ND at *
   repeat' (first
  | ((first | refine zag ?_ | refine zaj ?_ | refine zah ?_ | refine zai ?_ | refine zaA ?_ | fail); simp [hx, hlt2, zaF, zaE])
  | (refine zap ?_; simp only [zan])
  | (refine CallP.fE (k1) (by first | rfl | fail) (by first | simp [hx, hlt2, zaF, zaE] <;> rfl | fail) ?_; (try simp [hx, hlt2, zaF, zaE]))
  | (refine CallP.fE (k3) (by first | rfl | fail) (by first | simp [hx, hlt2, zaF, zaE] <;> rfl | fail) ?_; (try simp [hx, hlt2, zaF, zaE]))
  | (refine CallP.zsX (k2) (by first | rfl | fail) (by first | assumption | (simp; done) | fail) (by first | simp [hx, hlt2, zaF, zaE] <;> rfl | fail) (by first | (simp; done) | fail) (fun d hd => ?_); subst hd; (try simp [hx, hlt2, zaF, zaE, zeg, zbn]))
  | fail)
   refine zlt _ (Wk.own 19 49 4 (by decide) rfl) ?_;simp [St.own];refine zb4 (α := { k : Nat // k <= members.length }) [0, 1, 2, 3, 9, 12, 13, 14, 15, 17] (fun k => [(19, .vec 1 k.1), (20, .u (.int .i64 k.1))])
    (fun k => [(0, .vec 39 3 (zkL A)), (1, .vec 49 4 (voR (vlM members y k.1)))]) 2 (fun k => members.length - k.1) ⟨0, by omega⟩ ?_ ?_
   ·exact (Wk.cut rfl (by simp [hn, St.lp]) (by simp [wkO, St.lp, zaa, getK, Ob.under, D.under, zad, zae, vlM, voR, zbY, zbE]) (by simp [wkU, St.lp, zal, zaa, getK, D.under, vlM, voR, zbY, zbE]) (by simp [wkE, St.lp, zal, zaa, getK, vlM, voR, zbY, zbE] <;> (try (intros; simp_all; done)) <;> (try (intros; omega)) <;> (try grind)))
   rintro ⟨k, hk0⟩;simp [St.lp, St.only, zal, zaa, getK];rcases hm : members[k]? with _ | m
   case some =>
    have hkl : k < members.length := (lGE.1 hm).1;have hkl2 : (k : Int) < members.length := by omega
    have hsn := zpp members y k m hm;have hlr := zlC (vlM members y k);have hvs := zlA (vlM members y k) ⟨k, m, decide ((k : Int) < y), 0⟩;have hvl := ziT members y k
    repeat' (first
  | ((first | refine zag ?_ | refine zbW rfl ?_ | refine zdt rfl ?_ | refine zaj ?_ | fail); simp [hx, hlt2, hm, hkl2, hy, hvl, zaL, hlr, hvs])
  | (refine ⟨by omega, ?_⟩)
  | ((first | refine zah ?_ | refine zai ?_ | fail); simp [hx, hlt2, hm, hkl2, hy, hvl, zaL, hlr, hvs])
  | (refine zcu (hC _ (by kernel_rfl)) (hk _ ?_); clear hC hk C k; simp only [zan])
  | (refine zbV rfl (by kernel_rfl) (by first | (simp [hn]; done) | (simp [hn]; omega) | fail) fun C k hC hk => ?_; simp [hx, hlt2, hm, hkl2, hy, hvl, zaL, hlr, hvs])
  | (refine zaq ?_; simp [hx, hlt2, hm, hkl2, hy, hvl, zaL, hlr, hvs])
  | (refine zap ?_; simp only [zan])
  | fail)
    refine LoopW.next ⟨k + 1, by omega⟩ (by simp; omega) ?_
    exact (Wk.ren ((fun i => if i = 1 then 3 else i)) rfl (by first | (simp [hn]; done) | (intro i hi; rw [hn] at hi; constructor <;> (try simp) <;> (try (intro _)) <;> omega)) (by simp [zhW, St.lp, zal, zaa, getK, zac, zam, D.under, D.le, D.ren, hsn, zcq, zbX, zbY, zbE] <;> (try (intros; simp_all; done)) <;> (try omega)) (by simp [wkR, St.lp, zaa, getK, zac, zam, obR, leU, zbR, zaX, Ob.under, D.under, D.le, D.ren, hsn, zcq, zbX, zbY, zbE] <;> (try (intros; simp_all; done)) <;> (try omega)) (by simp [hsn, zcq, zbX, zbY, zbE]))
   case none =>
   have hkg : members.length <= k := by simpa using hm
   obtain rfl : k = members.length := by omega
   have hvl := ziT members y members.length;have hlrA := zoo A;have hsnA := zon A x;by_cases c6 : ND <= min y members.length
   ·rw [if_pos c6] at t3;have c6' : ND <= y /\ ND <= members.length := by omega
    by_cases c7 : x.base = FM
    ·rw [if_pos c7] at g1 g2
     repeat' (first
  | ((first | refine zag ?_ | refine zbW rfl ?_ | refine zfs rfl ?_ | refine zaj ?_ | fail); simp [hx, hlt2, hm, hy, zaQ, zaL, hvl, zaF, zaE, c6, c6', c7, g1, g2, hlrA, hsnA])
  | (refine ⟨by omega, ?_⟩)
  | ((first | refine zah ?_ | refine zai ?_ | fail); simp [hx, hlt2, hm, hy, zaQ, zaL, hvl, zaF, zaE, c6, c6', c7, g1, g2, hlrA, hsnA])
  | (refine zcu (hC _ (by kernel_rfl)) (hk _ ?_); clear hC hk C k; simp only [zan])
  | (refine zbV rfl (by kernel_rfl) (by first | (simp [hn]; done) | (simp [hn]; omega) | fail) fun C k hC hk => ?_; simp [hx, hlt2, hm, hy, zaQ, zaL, hvl, zaF, zaE, c6, c6', c7, g1, g2, hlrA, hsnA])
  | (refine zes rfl (by simp [hx, hlt2, hm, hy, zaQ, zaL, hvl, zaF, zaE, c6, c6', c7, g1, g2, hlrA, hsnA]) (fun hc => ?_) (fun hc => ?_) <;> (try simp [hx, hlt2, hm, hy, zaQ, zaL, hvl, zaF, zaE, c6, c6', c7, g1, g2, hlrA, hsnA] at hc) <;> (try (exfalso; omega)) <;> (try simp [hx, hlt2, hm, hy, zaQ, zaL, hvl, zaF, zaE, c6, c6', c7, g1, g2, hlrA, hsnA]))
  | (refine zaq ?_; simp [hx, hlt2, hm, hy, zaQ, zaL, hvl, zaF, zaE, c6, c6', c7, g1, g2, hlrA, hsnA])
  | (refine zap ?_; simp only [zan])
  | (refine zaZ ?_; simp [zan])
  | (refine CallP.fE (t4) (by first | rfl | fail) (by first | simp [hx, hlt2, hm, hy, zaQ, zaL, hvl, zaF, zaE, c6, c6', c7, g1, g2, hlrA, hsnA] <;> rfl | fail) ?_; (try simp [hx, hlt2, hm, hy, zaQ, zaL, hvl, zaF, zaE, c6, c6', c7, g1, g2, hlrA, hsnA]))
  | (refine CallP.fE (t3) (by first | rfl | fail) (by first | simp [hx, hlt2, hm, hy, zaQ, zaL, hvl, zaF, zaE, c6, c6', c7, g1, g2, hlrA, hsnA] <;> rfl | fail) ?_; (try simp [hx, hlt2, hm, hy, zaQ, zaL, hvl, zaF, zaE, c6, c6', c7, g1, g2, hlrA, hsnA]))
  | (refine CallV.fun_ (k5) (by first | rfl | fail) (by first | simp [hx, hlt2, hm, hy, zaQ, zaL, hvl, zaF, zaE, c6, c6', c7, g1, g2, hlrA, hsnA] <;> rfl | fail) ?_ <;> (try simp [hx, hlt2, hm, hy, zaQ, zaL, hvl, zaF, zaE, c6, c6', c7, g1, g2, hlrA, hsnA]))
  | (refine CallP.zsX (k6) (by first | rfl | fail) (by first | assumption | (simp; done) | fail) (by first | simp [hx, hlt2, hm, hy, zaQ, zaL, hvl, zaF, zaE, c6, c6', c7, g1, g2, hlrA, hsnA] <;> rfl | fail) (by first | (simp; done) | fail) (fun d hd => ?_); subst hd; (try simp [hx, hlt2, hm, hy, zaQ, zaL, hvl, zaF, zaE, c6, c6', c7, g1, g2, hlrA, hsnA, zeg, zbn]))
  | fail)
     refine LoopW.next ⟨(i + 1, A ++ [x]), by simp; omega, by simp; omega⟩ (by simp; omega) ?_
     exact (Wk.ren ((fun i => if i = 0 then 3 else i)) rfl (by first | (simp [hn]; done) | (intro i hi; rw [hn] at hi; constructor <;> (try simp) <;> (try (intro _)) <;> omega)) (by simp [zhW, St.lp, zal, zaa, getK, zac, zam, D.under, D.le, D.ren, zbY, zbE] <;> (try (intros; simp_all; done)) <;> (try omega)) (by simp [wkR, St.lp, zaa, getK, zac, zam, obR, leU, zbR, zaX, Ob.under, D.under, D.le, D.ren, zbY, zbE] <;> (try (intros; simp_all; done)) <;> (try omega)) (by simp [zbY, zbE]))
    ·rw [if_neg c7] at g1 g2
     repeat' (first
  | ((first | refine zag ?_ | refine zbW rfl ?_ | refine zfs rfl ?_ | refine zaj ?_ | fail); simp [hx, hlt2, hm, hy, zaQ, zaL, hvl, zaF, zaE, c6, c6', c7, g1, g2, hlrA, hsnA])
  | (refine ⟨by omega, ?_⟩)
  | ((first | refine zah ?_ | refine zai ?_ | fail); simp [hx, hlt2, hm, hy, zaQ, zaL, hvl, zaF, zaE, c6, c6', c7, g1, g2, hlrA, hsnA])
  | (refine zcu (hC _ (by kernel_rfl)) (hk _ ?_); clear hC hk C k; simp only [zan])
  | (refine zbV rfl (by kernel_rfl) (by first | (simp [hn]; done) | (simp [hn]; omega) | fail) fun C k hC hk => ?_; simp [hx, hlt2, hm, hy, zaQ, zaL, hvl, zaF, zaE, c6, c6', c7, g1, g2, hlrA, hsnA])
  | (refine zes rfl (by simp [hx, hlt2, hm, hy, zaQ, zaL, hvl, zaF, zaE, c6, c6', c7, g1, g2, hlrA, hsnA]) (fun hc => ?_) (fun hc => ?_) <;> (try simp [hx, hlt2, hm, hy, zaQ, zaL, hvl, zaF, zaE, c6, c6', c7, g1, g2, hlrA, hsnA] at hc) <;> (try (exfalso; omega)) <;> (try simp [hx, hlt2, hm, hy, zaQ, zaL, hvl, zaF, zaE, c6, c6', c7, g1, g2, hlrA, hsnA]))
  | (refine zaq ?_; simp [hx, hlt2, hm, hy, zaQ, zaL, hvl, zaF, zaE, c6, c6', c7, g1, g2, hlrA, hsnA])
  | (refine zap ?_; simp only [zan])
  | (refine zaZ ?_; simp [zan])
  | (refine CallP.fE (t4) (by first | rfl | fail) (by first | simp [hx, hlt2, hm, hy, zaQ, zaL, hvl, zaF, zaE, c6, c6', c7, g1, g2, hlrA, hsnA] <;> rfl | fail) ?_; (try simp [hx, hlt2, hm, hy, zaQ, zaL, hvl, zaF, zaE, c6, c6', c7, g1, g2, hlrA, hsnA]))
  | (refine CallP.fE (t3) (by first | rfl | fail) (by first | simp [hx, hlt2, hm, hy, zaQ, zaL, hvl, zaF, zaE, c6, c6', c7, g1, g2, hlrA, hsnA] <;> rfl | fail) ?_; (try simp [hx, hlt2, hm, hy, zaQ, zaL, hvl, zaF, zaE, c6, c6', c7, g1, g2, hlrA, hsnA]))
  | (refine CallV.fun_ (k5) (by first | rfl | fail) (by first | simp [hx, hlt2, hm, hy, zaQ, zaL, hvl, zaF, zaE, c6, c6', c7, g1, g2, hlrA, hsnA] <;> rfl | fail) ?_ <;> (try simp [hx, hlt2, hm, hy, zaQ, zaL, hvl, zaF, zaE, c6, c6', c7, g1, g2, hlrA, hsnA]))
  | (refine CallP.zsX (k6) (by first | rfl | fail) (by first | assumption | (simp; done) | fail) (by first | simp [hx, hlt2, hm, hy, zaQ, zaL, hvl, zaF, zaE, c6, c6', c7, g1, g2, hlrA, hsnA] <;> rfl | fail) (by first | (simp; done) | fail) (fun d hd => ?_); subst hd; (try simp [hx, hlt2, hm, hy, zaQ, zaL, hvl, zaF, zaE, c6, c6', c7, g1, g2, hlrA, hsnA, zeg, zbn]))
  | fail)
     refine LoopW.next ⟨(i + 1, A ++ [x]), by simp; omega, by simp; omega⟩ (by simp; omega) ?_
     exact (Wk.ren ((fun i => if i = 0 then 3 else i)) rfl (by first | (simp [hn]; done) | (intro i hi; rw [hn] at hi; constructor <;> (try simp) <;> (try (intro _)) <;> omega)) (by simp [zhW, St.lp, zal, zaa, getK, zac, zam, D.under, D.le, D.ren, zbY, zbE] <;> (try (intros; simp_all; done)) <;> (try omega)) (by simp [wkR, St.lp, zaa, getK, zac, zam, obR, leU, zbR, zaX, Ob.under, D.under, D.le, D.ren, zbY, zbE] <;> (try (intros; simp_all; done)) <;> (try omega)) (by simp [zbY, zbE]))
   ·rw [if_neg c6] at t3
    repeat' (first
  | ((first | refine zag ?_ | refine zbW rfl ?_ | refine zfs rfl ?_ | refine zaj ?_ | fail); simp [hx, hlt2, hm, hy, zaQ, zaL, hvl, zaF, zaE, c6])
  | (refine ⟨by omega, ?_⟩)
  | ((first | refine zah ?_ | refine zai ?_ | fail); simp [hx, hlt2, hm, hy, zaQ, zaL, hvl, zaF, zaE, c6])
  | (refine zcu (hC _ (by kernel_rfl)) (hk _ ?_); clear hC hk C k; simp only [zan])
  | (refine zbV rfl (by kernel_rfl) (by first | (simp [hn]; done) | (simp [hn]; omega) | fail) fun C k hC hk => ?_; simp [hx, hlt2, hm, hy, zaQ, zaL, hvl, zaF, zaE, c6])
  | (refine zes rfl (by simp [hx, hlt2, hm, hy, zaQ, zaL, hvl, zaF, zaE, c6]) (fun hc => ?_) (fun hc => ?_) <;> (try simp [hx, hlt2, hm, hy, zaQ, zaL, hvl, zaF, zaE, c6] at hc) <;> (try (exfalso; omega)) <;> (try simp [hx, hlt2, hm, hy, zaQ, zaL, hvl, zaF, zaE, c6]))
  | (refine zaq ?_; simp [hx, hlt2, hm, hy, zaQ, zaL, hvl, zaF, zaE, c6])
  | (refine zap ?_; simp only [zan])
  | (refine zaZ ?_; simp [zan])
  | (refine CallP.fE (t4) (by first | rfl | fail) (by first | simp [hx, hlt2, hm, hy, zaQ, zaL, hvl, zaF, zaE, c6] <;> rfl | fail) ?_; (try simp [hx, hlt2, hm, hy, zaQ, zaL, hvl, zaF, zaE, c6]))
  | (refine CallP.fE (t3) (by first | rfl | fail) (by first | simp [hx, hlt2, hm, hy, zaQ, zaL, hvl, zaF, zaE, c6] <;> rfl | fail) ?_; (try simp [hx, hlt2, hm, hy, zaQ, zaL, hvl, zaF, zaE, c6]))
  | (refine CallV.fun_ (k1) (by first | rfl | fail) (by first | simp [hx, hlt2, hm, hy, zaQ, zaL, hvl, zaF, zaE, c6] <;> rfl | fail) ?_ <;> (try simp [hx, hlt2, hm, hy, zaQ, zaL, hvl, zaF, zaE, c6]))
  | (refine CallP.zsX (k2) (by first | rfl | fail) (by first | assumption | (simp; done) | fail) (by first | simp [hx, hlt2, hm, hy, zaQ, zaL, hvl, zaF, zaE, c6] <;> rfl | fail) (by first | (simp; done) | fail) (fun d hd => ?_); subst hd; (try simp [hx, hlt2, hm, hy, zaQ, zaL, hvl, zaF, zaE, c6, zeg, zbn]))
  | fail)
    refine LoopW.next ⟨(i + 1, A), by simp; omega, by simp; omega⟩ (by simp; omega) ?_
    exact (Wk.cut rfl (by simp [hn, St.lp]) (by simp [wkO, St.lp, zaa, getK, Ob.under, D.under, zad, zae, zbY, zbE]) (by simp [wkU, St.lp, zal, zaa, getK, D.under, zbY, zbE]) (by simp [wkE, St.lp, zal, zaa, getK, zbY, zbE] <;> (try (intros; simp_all; done)) <;> (try (intros; omega)) <;> (try grind)))
end Go.Proofs.YtepiegcjnaohjaaGreatDoor
