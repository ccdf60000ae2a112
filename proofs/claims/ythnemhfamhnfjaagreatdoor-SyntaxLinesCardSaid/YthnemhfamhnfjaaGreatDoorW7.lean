import Derived.Test.YthnemhfamhnfjaaGreatDoorW6
set_option linter.all false
set_option maxRecDepth 100000
set_option maxHeartbeats 8000000
namespace Go.Proofs.YthnemhfamhnfjaaGreatDoor
open Go Go.VL
attribute [local simp] HS zc2 zck evPure opd uOf zaH St.put St.at getK binD binI binS binB nilD aggD zhr zh0 lookD lookR zcz Go.VL.nextD zcC ziz zia zgs zcu mkV zdn zbo zby mapEff zeb zgf Key.kk shiftI arith unD convD zdO loadD cellsAt fieldAddrD fieldD indexAddrD indexD sliceD cutD lenD minmaxD nilCheckD buildD fillD zbR zdd zeM setAll zcK zeS zcq zhB zcn St.add zaQ zbI rowsOf zdJ zcD zak zac zaa zbn zdb zba entry zbK zbT valD zb3 zcx zhn zdl zdm zbU zbM zav zaX zbr delAll effD St.effS zc8 zbg za5 zda zbh za7 zcc za6 zaW zcd zcX zbD zb7 zbp zb5 zb6 zaJ mkD zbV zbB zbL zav zco D.ids Op.operands Call.operands zbG makeIfD makeFuncD typeAssertD zhZ zdx zdy zhD zcA IntKind.bits zcL List.take_of_length_le List.range_succ
attribute [local irreducible] V G H HD HD2 HD4 zkz RetX zao Eff CallP CallV EndOK Fun Ret FinOK LoopI LoopW EndW
set_option maxHeartbeats 40000000 in
theorem znK (b : By) (at_ : Int) : Fun Tryz.prog 7 [.u (.agg (za1 b)), .u (.int .i64 at_)] (· = .u (.bool true)) := by
 obtain ⟨B, hB⟩ := zqv b;have hs := znc;have hp := ze9 b;cases B with
 | false =>
  unfold za1 at hB ⊢
  (refine Fun.of_bodyW Tryz.func7 rfl (by simp) fun Γ hn => ?_); simp only [entry, ziC, ziN, maC, maN, oA, Tryz.ntmps7]
  repeat' (first
  | ((first | refine zae ?_ | refine zaj ?_ | refine zah ?_ | refine zai ?_ | fail); simp)
  | (refine zaq ?_; simp only [zao])
  | (refine CallP.fE (hs) (by first | rfl | fail) (by first | (simp; done) | (simp; rfl) | fail) ?_; (try simp))
  | (refine CallP.fE (hB) (by first | rfl | fail) (by first | (simp; done) | (simp; rfl) | fail) ?_; (try simp))
  | fail)
  refine EndW.here ?_
  (refine EndOK.val (.inr rfl) ?_; simp [zaG, zaf, zar, Tryz.results7])
 | true =>
  by_cases hr : ¬ za3 b = true \/ 2000 < (textP b).length
  ·obtain ⟨c, hc0, hpe⟩ : ∃ c : Int, c ≠ 0 /\ printB b = ([], c) := by
    unfold printB;by_cases h : za3 b = true
    ·rw [if_pos h, if_pos (hr.resolve_left (fun g => g h))]; exact ⟨6, by decide, rfl⟩
    ·rw [if_neg h]; exact ⟨1, by decide, rfl⟩
   rw [hpe] at hp;unfold za1 at hB hp ⊢
   (refine Fun.of_bodyW Tryz.func7 rfl (by simp) fun Γ hn => ?_); simp only [entry, ziC, ziN, maC, maN, oA, Tryz.ntmps7]
   repeat' (first
  | ((first | refine zae ?_ | refine zaj ?_ | refine zah ?_ | refine zai ?_ | fail); simp [hc0])
  | ((first | refine zaq ?_ | refine zap ?_ | fail); simp only [zao])
  | (refine CallP.fE (hs) (by first | rfl | fail) (by first | simp [hc0] <;> rfl | fail) ?_; (try simp [hc0]))
  | (refine CallP.fE (hB) (by first | rfl | fail) (by first | simp [hc0] <;> rfl | fail) ?_; (try simp [hc0]))
  | (refine CallP.fE (hp) (by first | rfl | fail) (by first | simp [hc0] <;> rfl | fail) ?_; (try simp [hc0]))
  | fail)
   refine EndW.here ?_
   (refine EndOK.val (.inr rfl) ?_; simp [zaG, zaf, zar, Tryz.results7])
  ·have hre : za3 b = true := Classical.byContradiction fun h => hr (.inl h);have hlen : (textP b).length <= 2000 := by
    have : ¬ 2000 < (textP b).length := fun h => hr (.inr h);omega
   have hpb : ∀ c : By, za3 c = true -> (textP c).length <= 2000 -> printB c = (textP c, 0) := fun c h1 h2 => by unfold printB; rw [if_pos h1, if_neg (by omega)]
   rw [hpb b hre hlen] at hp;have hbl : (textP (zcH b)).length <= 2000 := Nat.le_trans (zpJ b) hlen;have hbp : Fun Tryz.prog 19 ([U.agg [.int .i64 b.kind, .int .i64 b.period, .int .i64 0, .int .i64 0, .int .i64 b.last, .int .i64 0, .bool b.sld, .int .i64 0, .int .i64 0, .int .i64 0, .int .i64 0, .nil, .int .i64 b.due.op, .int .i64 b.due.n, .int .i64 b.due.unit, .str b.due.s, .sl (b.due.args.map Exp.row), .int .i64 0, .int .i64 0, .int .i64 3, .str [], .sl [], .int .i64 b.pay.op, .int .i64 b.pay.n, .int .i64 b.pay.unit, .str b.pay.s, .sl (b.pay.args.map Exp.row), .int .i64 b.cover.op, .int .i64 b.cover.n, .int .i64 b.cover.unit, .str b.cover.s, .sl (b.cover.args.map Exp.row), .int .i64 b.hold.op, .int .i64 b.hold.n, .int .i64 b.hold.unit, .str b.hold.s, .sl (b.hold.args.map Exp.row)]].map .u) (· = .tup [.u (.str (textP (zcH b))), .u (.int .i64 0)]) := Fun.zqP 2 (by
    have h := ze9 (zcH b);rw [hpb _ (zgc hre) hbl] at h;simpa [zd6, za1, zcH, Function.comp_def, show nothingE.op = 0 from rfl, show nothingE.n = 0 from rfl, show nothingE.unit = 3 from rfl, show nothingE.s = [] from rfl, show nothingE.args = [] from rfl] using h)
   have hsm : Fun Tryz.prog 14 ([U.agg [.int .i64 b.kind, .int .i64 b.period, .int .i64 0, .int .i64 0, .int .i64 b.last, .int .i64 0, .bool b.sld, .int .i64 0, .int .i64 0, .int .i64 0, .int .i64 0, .sl [], .int .i64 b.due.op, .int .i64 b.due.n, .int .i64 b.due.unit, .str b.due.s, .sl (b.due.args.map Exp.row), .int .i64 0, .int .i64 0, .int .i64 3, .str [], .sl [], .int .i64 b.pay.op, .int .i64 b.pay.n, .int .i64 b.pay.unit, .str b.pay.s, .sl (b.pay.args.map Exp.row), .int .i64 b.cover.op, .int .i64 b.cover.n, .int .i64 b.cover.unit, .str b.cover.s, .sl (b.cover.args.map Exp.row), .int .i64 b.hold.op, .int .i64 b.hold.n, .int .i64 b.hold.unit, .str b.hold.s, .sl (b.hold.args.map Exp.row)], U.agg [.int .i64 b.kind, .int .i64 b.period, .int .i64 0, .int .i64 0, .int .i64 b.last, .int .i64 0, .bool b.sld, .int .i64 0, .int .i64 0, .int .i64 0, .int .i64 0, .nil, .int .i64 b.due.op, .int .i64 b.due.n, .int .i64 b.due.unit, .str b.due.s, .sl (b.due.args.map Exp.row), .int .i64 0, .int .i64 0, .int .i64 3, .str [], .sl [], .int .i64 b.pay.op, .int .i64 b.pay.n, .int .i64 b.pay.unit, .str b.pay.s, .sl (b.pay.args.map Exp.row), .int .i64 b.cover.op, .int .i64 b.cover.n, .int .i64 b.cover.unit, .str b.cover.s, .sl (b.cover.args.map Exp.row), .int .i64 b.hold.op, .int .i64 b.hold.n, .int .i64 b.hold.unit, .str b.hold.s, .sl (b.hold.args.map Exp.row)]].map .u) (· = .u (.bool true)) := Fun.zqP 2 (by
    have h := zl3 (zcH b);simpa [zd6, za1, zcH, Function.comp_def, show nothingE.op = 0 from rfl, show nothingE.n = 0 from rfl, show nothingE.unit = 3 from rfl, show nothingE.s = [] from rfl, show nothingE.args = [] from rfl] using h)
   simp only [List.map_cons, List.map_nil] at hbp hsm;have hno := zjh;simp only [nothingE, Exp.row, List.map_nil] at hno;rw [zkj] at hbp hbl;obtain ⟨A0, hA, hA2⟩ := zmC hre;have hzl : zeroT.length = 100 := by kernel_rfl
   have hzp := fun h => zlR (b := b) hre h;have hpz := zjy (zeO b ++ (zeroT ++ tailT b));have hzt : zeroT = [103, 114, 97, 99, 101, 32, 48, 32, 100, 97, 121, 115, 32, 59, 10, 119, 97, 105, 116, 32, 48, 32, 100, 97, 121, 115, 32, 59, 32, 111, 114, 100, 101, 114, 32, 106, 111, 105, 110, 32, 59, 32, 98, 97, 99, 107, 115, 32, 48, 32, 59, 32, 118, 111, 105, 99, 101, 115, 32, 48, 32, 112, 101, 114, 32, 109, 105, 108, 108, 101, 32, 59, 32, 106, 117, 114, 121, 32, 48, 32, 59, 32, 102, 117, 110, 100, 32, 48, 32, 112, 101, 114, 32, 109, 105, 108, 108, 101, 32, 59] := by kernel_rfl
   rw [hzt] at hpz;simp only [hzt] at hzp;have hct : ∀ k, k < (zeO b).length -> ((zeO b).take k).count 10 <= 2 := fun k hk => by
    rw [hA] at hk ⊢;simp only [List.length_append, List.length_cons, List.length_nil] at hk;rw [List.take_append_of_le_length (by omega)];rw [<- hA2];exact (List.take_sublist k A0).count_le 10
   have hc3 : (zeO b).count 10 = 3 := by rw [hA, List.count_append, hA2]; rfl
   have hH0 : 0 < (zeO b).length := by rw [hA]; simp
   have hlt := fun i l hl => znU b (i := i) (l := l) hl;have hlr := fun i => zjS hre i;have hlp := fun i l A B hl hT => znT (b := b) (i := i) (l := l) (A := A) (B := B) hre hl hT hlen;generalize zeO b = H at *;generalize tailT b = R at *;generalize hPZ : zeR (H ++ ([103, 114, 97, 99, 101, 32, 48, 32, 100, 97, 121, 115, 32, 59, 10, 119, 97, 105, 116, 32, 48, 32, 100, 97, 121, 115, 32, 59, 32, 111, 114, 100, 101, 114, 32, 106, 111, 105, 110, 32, 59, 32, 98, 97, 99, 107, 115, 32, 48, 32, 59, 32, 118, 111, 105, 99, 101, 115, 32, 48, 32, 112, 101, 114, 32, 109, 105, 108, 108, 101, 32, 59, 32, 106, 117, 114, 121, 32, 48, 32, 59, 32, 102, 117, 110, 100, 32, 48, 32, 112, 101, 114, 32, 109, 105, 108, 108, 101, 32, 59] ++ R)) = PZ at *;generalize textP b = T at *;simp only [List.cons_append, List.nil_append] at hpz hzp hPZ;have hZ2 : ([103, 114, 97, 99, 101, 32, 48, 32, 100, 97, 121, 115, 32, 59, 10, 119, 97, 105, 116, 32, 48, 32, 100, 97, 121, 115, 32, 59, 32, 111, 114, 100, 101, 114, 32, 106, 111, 105, 110, 32, 59, 32, 98, 97, 99, 107, 115, 32, 48, 32, 59, 32, 118, 111, 105, 99, 101, 115, 32, 48, 32, 112, 101, 114, 32, 109, 105, 108, 108, 101, 32, 59, 32, 106, 117, 114, 121, 32, 48, 32, 59, 32, 102, 117, 110, 100, 32, 48, 32, 112, 101, 114, 32, 109, 105, 108, 108, 101, 32, 59] : W8).length = 100 := by kernel_rfl
   have hbl2 : H.length + R.length <= 2000 := by simpa using hbl
   unfold za1 at hB hp ⊢
   (refine Fun.of_bodyW Tryz.func7 rfl (by simp) fun Γ hn => ?_); simp only [entry, ziC, ziN, maC, maN, oA, Tryz.ntmps7]
   repeat' (first
  | ((first | refine zae ?_ | refine zaj ?_ | refine zah ?_ | refine zai ?_ | fail); simp [hno])
  | (refine zap ?_; simp only [zao])
  | (refine CallP.fE (hs) (by first | rfl | fail) (by first | simp [hno] <;> rfl | fail) ?_; (try simp [hno]))
  | (refine CallP.fE (hB) (by first | rfl | fail) (by first | simp [hno] <;> rfl | fail) ?_; (try simp [hno]))
  | (refine CallP.fE (hp) (by first | rfl | fail) (by first | simp [hno] <;> rfl | fail) ?_; (try simp [hno]))
  | (refine CallP.fE (hno) (by first | rfl | fail) (by first | simp [hno] <;> rfl | fail) ?_; (try simp [hno]))
  | (refine CallP.fE (hbp) (by first | rfl | fail) (by first | simp [hno] <;> rfl | fail) ?_; (try simp [hno]))
  | fail)
   refine zcl (α := { k : Nat // k <= H.length }) [1, 2, 5, 6, 8, 9, 10] (fun k => [(11, .u (.int .i64 k.1)), (12, .u (.int .i64 ((H.take k.1).count 10 : Nat)))]) (fun k => H.length - k.1) ⟨0, by omega⟩ ?_ ?_
   ·exact (Wk.env rfl rfl rfl (by simp [wkE, St.lp, zan, zaa, getK] <;> (try (intros; simp_all; done)) <;> (try (intros; omega)) <;> (try grind)))
   rintro ⟨k, hk⟩;simp [St.lp, St.only, zan, zaa, getK];by_cases hkH : k < H.length
   ·obtain ⟨c, hcc⟩ : ∃ c, H[k]? = some c := ⟨_, List.getElem?_eq_getElem hkH⟩;have hcR : (H ++ R)[k]? = some c := by rw [List.getElem?_append_left hkH]; exact hcc
    have hkl : (k : Int) < H.length + R.length := by omega
    have hcnt := hct k hkH;have hc3' : (((H.take k).count 10 : Nat) : Int) < 3 := by omega
    have hnx : (H.take (k + 1)).count 10 = (H.take k).count 10 + if c = 10 then 1 else 0 := by
     rw [List.take_add_one, hcc, List.count_append];by_cases h : c = 10
     ·subst h; simp
     ·simp [h]
    generalize (H.take k).count 10 = q at *;by_cases h10 : c = 10
    ·have h10' : c.toNat = 10 := by rw [h10]; rfl
     rw [if_pos h10] at hnx
     repeat' (first
  | ((first | refine zae ?_ | refine zaj ?_ | fail); simp [hkl, hcR, hc3', h10'])
  | (refine ⟨by omega, ?_⟩)
  | ((first | refine zah ?_ | refine zai ?_ | refine zaw ?_ | refine zax ?_ | fail); simp [hkl, hcR, hc3', h10'])
  | (refine zap ?_; simp only [zao])
  | fail)
     refine LoopW.next ⟨k + 1, hkH⟩ (by show H.length - (k + 1) < H.length - k; omega) ?_
     exact (Wk.env rfl rfl rfl (by simp [wkE, St.lp, zan, zaa, getK, hnx] <;> (try (intros; simp_all; done)) <;> (try (intros; omega)) <;> (try grind)))
    ·have h10' : ¬ c.toNat = 10 := fun e => h10 (UInt8.toNat_inj.1 e);rw [if_neg h10, Nat.add_zero] at hnx
     repeat' (first
  | ((first | refine zae ?_ | refine zaj ?_ | fail); simp [hkl, hcR, hc3', h10'])
  | (refine ⟨by omega, ?_⟩)
  | ((first | refine zah ?_ | refine zai ?_ | refine zaw ?_ | refine zax ?_ | fail); simp [hkl, hcR, hc3', h10'])
  | (refine zap ?_; simp only [zao])
  | (intro hc <;> (try (exfalso; omega)))
  | fail)
     refine LoopW.next ⟨k + 1, hkH⟩ (by show H.length - (k + 1) < H.length - k; omega) ?_
     exact (Wk.env rfl rfl rfl (by simp [wkE, St.lp, zan, zaa, getK, hnx] <;> (try (intros; simp_all; done)) <;> (try (intros; omega)) <;> (try grind)))
   obtain rfl : k = H.length := by omega
   rw [List.take_length, hc3];have htk : (H ++ R).take H.length = H := by simp
   have hdr : (H ++ R).drop H.length = R := by simp
   obtain ⟨c0, p0, f0⟩ := PZ;unfold byD at hpz;apply zk3 (S := { n := 182, env := [(1, .u (.int .i64 at_)), (2, .ptr 0 0), (5, .u (.bool true)), (6, .u (.str T)), (97, .u (.bool false))], obs := [(0, .box [.u (.int .i64 b.kind), .u (.int .i64 b.period), .u (.int .i64 b.grace), .u (.int .i64 b.wait), .u (.int .i64 b.last), .u (.int .i64 b.order), .u (.bool b.sld), .u (.int .i64 b.backs), .u (.int .i64 b.voices), .u (.int .i64 b.jury), .u (.int .i64 b.fund), .u (.sl (b.lets.map fun l => [.str l.name, .int .i64 l.body.op, .int .i64 l.body.n, .int .i64 l.body.unit, .str l.body.s, .sl (l.body.args.map Exp.row)])), .u (.int .i64 b.due.op), .u (.int .i64 b.due.n), .u (.int .i64 b.due.unit), .u (.str b.due.s), .u (.sl (b.due.args.map Exp.row)), .u (.int .i64 b.fine.op), .u (.int .i64 b.fine.n), .u (.int .i64 b.fine.unit), .u (.str b.fine.s), .u (.sl (b.fine.args.map Exp.row)), .u (.int .i64 b.pay.op), .u (.int .i64 b.pay.n), .u (.int .i64 b.pay.unit), .u (.str b.pay.s), .u (.sl (b.pay.args.map Exp.row)), .u (.int .i64 b.cover.op), .u (.int .i64 b.cover.n), .u (.int .i64 b.cover.unit), .u (.str b.cover.s), .u (.sl (b.cover.args.map Exp.row)), .u (.int .i64 b.hold.op), .u (.int .i64 b.hold.n), .u (.int .i64 b.hold.unit), .u (.str b.hold.s), .u (.sl (b.hold.args.map Exp.row))])], next := 3 })
   case main =>
    intro key;by_cases h18 : H.length + R.length < 1800
    ·have e := hzp (by simp only [List.length_append, List.length_cons, List.length_nil]; omega);simp only [Prod.mk.injEq] at e;obtain ⟨e1, e2, e3⟩ := e;have h18' : (H.length : Int) + R.length < 1800 := by omega
     have hpz2 : Fun Tryz.prog 10 [.u (.str (H ++ 103 :: 114 :: 97 :: 99 :: 101 :: 32 :: 48 :: 32 :: 100 :: 97 :: 121 :: 115 :: 32 :: 59 :: 10 :: 119 :: 97 :: 105 :: 116 :: 32 :: 48 :: 32 :: 100 :: 97 :: 121 :: 115 :: 32 :: 59 :: 32 :: 111 :: 114 :: 100 :: 101 :: 114 :: 32 :: 106 :: 111 :: 105 :: 110 :: 32 :: 59 :: 32 :: 98 :: 97 :: 99 :: 107 :: 115 :: 32 :: 48 :: 32 :: 59 :: 32 :: 118 :: 111 :: 105 :: 99 :: 101 :: 115 :: 32 :: 48 :: 32 :: 112 :: 101 :: 114 :: 32 :: 109 :: 105 :: 108 :: 108 :: 101 :: 32 :: 59 :: 32 :: 106 :: 117 :: 114 :: 121 :: 32 :: 48 :: 32 :: 59 :: 32 :: 102 :: 117 :: 110 :: 100 :: 32 :: 48 :: 32 :: 112 :: 101 :: 114 :: 32 :: 109 :: 105 :: 108 :: 108 :: 101 :: 32 :: 59 :: R))] (· = .tup [.u (.agg [.int .i64 b.kind, .int .i64 b.period, .int .i64 0, .int .i64 0, .int .i64 b.last, .int .i64 0, .bool b.sld, .int .i64 0, .int .i64 0, .int .i64 0, .int .i64 0, .sl [], .int .i64 b.due.op, .int .i64 b.due.n, .int .i64 b.due.unit, .str b.due.s, .sl (b.due.args.map Exp.row), .int .i64 0, .int .i64 0, .int .i64 3, .str [], .sl [], .int .i64 b.pay.op, .int .i64 b.pay.n, .int .i64 b.pay.unit, .str b.pay.s, .sl (b.pay.args.map Exp.row), .int .i64 b.cover.op, .int .i64 b.cover.n, .int .i64 b.cover.unit, .str b.cover.s, .sl (b.cover.args.map Exp.row), .int .i64 b.hold.op, .int .i64 b.hold.n, .int .i64 b.hold.unit, .str b.hold.s, .sl (b.hold.args.map Exp.row)]), .u (.int .i64 0), .u (.int .i64 0)]) := by
      rw [e1, e2, e3] at hpz;simpa [za1, zcH, show nothingE.op = 0 from rfl, show nothingE.n = 0 from rfl, show nothingE.unit = 3 from rfl, show nothingE.s = [] from rfl, show nothingE.args = [] from rfl] using hpz
     repeat' (first
  | (refine zgw _ ?_ key; refine Wk.cut rfl ?_ ?_ ?_ ?_; all_goals (first | (simp [hn]; done) | (simp [wkO, zaa, getK, zab, zac, Ob.under, D.under, zad, zag]; done) | (simp [wkU, zan, zaa, getK, D.under]; done) | (simp [wkE, zan, zaa, getK]; done) | fail))
  | ((first | refine zae ?_ | refine zaU rfl ?_ | refine zbJ rfl ?_ | refine zaj ?_ | fail); simp [htk, hdr, h18', hc3])
  | (refine ⟨by omega, ?_⟩)
  | ((first | refine zah ?_ | refine zai ?_ | fail); simp [htk, hdr, h18', hc3])
  | (refine za8 (hC _ (by kernel_rfl)) (hk _ ?_); clear hC hk C k; simp only [zao])
  | (refine za9 rfl (by kernel_rfl) (by first | (simp [hn]; done) | (simp [hn]; omega) | fail) fun C k hC hk => ?_; simp [htk, hdr, h18', hc3])
  | (refine zbA ?_; simp [zao])
  | (refine ⟨fun hc => ?_, fun hc => ?_⟩ <;> (try (exfalso; omega)))
  | (refine CallV.fun_ (hpz2) (by first | rfl | fail) (by first | simp [htk, hdr, h18', hc3] <;> rfl | fail) ?_ <;> (try simp [htk, hdr, h18', hc3]))
  | (refine CallP.fE (hsm) (by first | rfl | fail) (by first | simp [htk, hdr, h18', hc3] <;> rfl | fail) ?_; (try simp [htk, hdr, h18', hc3]))
  | fail)
    ·have h18' : ¬ (H.length : Int) + R.length < 1800 := by omega
     unfold za1 at hpz
     repeat' (first
  | (refine zgw _ ?_ key; refine Wk.cut rfl ?_ ?_ ?_ ?_; all_goals (first | (simp [hn]; done) | (simp [wkO, zaa, getK, zab, zac, Ob.under, D.under, zad, zag]; done) | (simp [wkU, zan, zaa, getK, D.under]; done) | (simp [wkE, zan, zaa, getK]; done) | fail))
  | ((first | refine zae ?_ | refine zaU rfl ?_ | refine zbJ rfl ?_ | refine zaj ?_ | fail); simp [htk, hdr, h18', hc3])
  | (refine ⟨by omega, ?_⟩)
  | ((first | refine zah ?_ | refine zai ?_ | fail); simp [htk, hdr, h18', hc3])
  | (refine za8 (hC _ (by kernel_rfl)) (hk _ ?_); clear hC hk C k; simp only [zao])
  | (refine za9 rfl (by kernel_rfl) (by first | (simp [hn]; done) | (simp [hn]; omega) | fail) fun C k hC hk => ?_; simp [htk, hdr, h18', hc3])
  | (refine zbA ?_; simp [zao])
  | (refine ⟨fun hc => ?_, fun hc => ?_⟩ <;> (try (exfalso; omega)))
  | (refine CallV.fun_ (hpz) (by first | rfl | fail) (by first | simp [htk, hdr, h18', hc3] <;> rfl | fail) ?_ <;> (try simp [htk, hdr, h18', hc3]))
  | fail)
   case key =>
   by_cases h0 : at_ < 0
   ·repeat' (first
  | ((first | refine zae ?_ | refine zaj ?_ | refine zah ?_ | refine zai ?_ | fail); simp [h0])
  | ((first | refine zaq ?_ | refine zap ?_ | fail); simp only [zao])
  | fail)
    refine EndW.here ?_
    (refine EndOK.val (.inr rfl) ?_; simp [zaG, zaf, zar, Tryz.results7])
   by_cases h1 : (b.lets.length : Int) <= at_
   ·repeat' (first
  | ((first | refine zae ?_ | refine zaj ?_ | refine zah ?_ | refine zai ?_ | fail); simp [h0, h1])
  | ((first | refine zaq ?_ | refine zap ?_ | fail); simp only [zao])
  | fail)
    refine EndW.here ?_
    (refine EndOK.val (.inr rfl) ?_; simp [zaG, zaf, zar, Tryz.results7])
   obtain ⟨i, rfl⟩ : ∃ i : Nat, at_ = i := ⟨at_.toNat, by omega⟩;have hi : i < b.lets.length := by omega
   obtain ⟨l, hl⟩ : ∃ l, b.lets[i]? = some l := ⟨_, List.getElem?_eq_getElem hi⟩;obtain ⟨A, B, hTA, hTB⟩ := hlt i l hl;have hpl := ze9 (zg7 b i);have hll : (textP (zg7 b i)).length <= 2000 := by
    rw [hTB]; rw [hTA] at hlen;simp only [List.length_append] at hlen ⊢;omega
   rw [hpb _ (hlr i) hll, hTB] at hpl;have hpx := zf4 l.body;rw [hlp i l A B hl hTA] at hpx;rw [Exp.row_eq] at hpx;have ho1 : zhS 6 (b.lets.map fun l => [U.str l.name, .int .i64 l.body.op, .int .i64 l.body.n, .int .i64 l.body.unit, .str l.body.s, .sl (l.body.args.map Exp.row)]) := fun r hr => by
    obtain ⟨t, _, rfl⟩ := List.mem_map.1 hr;rfl
   have hone : zeg (rowsD (b.lets.map fun l => [U.str l.name, .int .i64 l.body.op, .int .i64 l.body.n, .int .i64 l.body.unit, .str l.body.s, .sl (l.body.args.map Exp.row)])) := by
    rw [zgT];intro x _;rfl
   have hget : (b.lets.map fun l => [U.str l.name, .int .i64 l.body.op, .int .i64 l.body.n, .int .i64 l.body.unit, .str l.body.s, .sl (l.body.args.map Exp.row)])[i]? = some [U.str l.name, .int .i64 l.body.op, .int .i64 l.body.n, .int .i64 l.body.unit, .str l.body.s, .sl (l.body.args.map Exp.row)] := by rw [List.getElem?_map, hl]; rfl
   have hLn : b.lets.length <= 1000 := by
    have h := hre;simp only [za3, zfP, zfR, Bool.and_eq_true, decide_eq_true_eq] at h;obtain ⟨⟨⟨_, hLn⟩, _⟩, _⟩ := h;exact Nat.le_trans hLn (by decide)
   have hlr2 : (b.lets.map fun l => [U.str l.name, .int .i64 l.body.op, .int .i64 l.body.n, .int .i64 l.body.unit, .str l.body.s, .sl (l.body.args.map Exp.row)]).length = b.lets.length := List.length_map ..;unfold za1 at hpl;simp only [zg7, List.map_append, List.map_take, List.map_drop] at hpl;clear hB hp hs hsm hno hbp hpz;generalize (b.lets.map fun l => [U.str l.name, .int .i64 l.body.op, .int .i64 l.body.n, .int .i64 l.body.unit, .str l.body.s, .sl (l.body.args.map Exp.row)]) = rows at *;have hA1 := znW i rows ho1;have hA2 := zgg i rows hone;have hC1 := znX (i + 1) rows ho1;have hC2 := zgh (i + 1) rows hone;have hmi : min i b.lets.length = i := by omega
   have hi1t : ((i : Int) + 1).toNat = i + 1 := by omega
   have hR2l : (rows.take i ++ rows.drop (i + 1)).length = i + (b.lets.length - (i + 1)) := by
    simp only [List.length_append, List.length_take, List.length_drop];omega
   have htkc : (rows.take i ++ rows.drop (i + 1)).take (i + (b.lets.length - (i + 1))) = rows.take i ++ rows.drop (i + 1) := List.take_of_length_le (by omega);have hcrD : rowsD (rows.take i) ++ rowsD (rows.drop (i + 1)) = rowsD (rows.take i ++ rows.drop (i + 1)) := (rowsD_append ..).symm;generalize rows.take i ++ rows.drop (i + 1) = R2 at hpl hR2l htkc hcrD;have hlT := zqp l;have hg1 : (i : Int) <= b.lets.length := by omega
   have hg2 : (i : Int) + 1 <= b.lets.length := by omega
   have hs1 : i * 80 <= 140737488355328 := by omega
   have hs2 : i <= 9223372036854775807 := by omega
   have hs3 : (i + (b.lets.length - (i + 1))) * 80 <= 140737488355328 := by omega
   have hs4 : i + (b.lets.length - (i + 1)) <= 9223372036854775807 := by omega
   have hll2 : (ziY l).length = 10 + l.name.length + (txt l.body 0).length := by rw [<- hlT]; simp only [List.length_append, List.length_cons, List.length_nil]; omega
   have hTl : T.length = A.length + ((ziY l).length + B.length) := by rw [hTA, List.length_append, List.length_append]
   have hnl : l.name.length <= 2000 := by omega
   have htl : (txt l.body 0).length <= 2000 := by omega
   have hAl : A.length + B.length <= 2000 := by omega
   obtain ⟨u, hu⟩ : ∃ u : W8, u = A ++ B := ⟨_, rfl⟩;rw [<- hu] at hpl;have hul : u.length = A.length + B.length := by rw [hu, List.length_append]
   have hfin : u.take A.length ++ (ziY l ++ u.drop A.length) = T := by rw [hu, hTA]; simp
   repeat' (first
  | ((first | refine zae ?_ | refine zaU rfl ?_ | refine zbJ rfl ?_ | refine zaj ?_ | fail); simp [h0, h1, hs1, hs2, hs3, hs4, hg1, hg2, hget, hlr2, hmi, hi1t, ho1, hone, hA1, hA2, hC1, hC2, hcrD, htkc, hR2l, hlT, del])
  | (refine ⟨by omega, ?_⟩)
  | ((first | refine zah ?_ | refine zai ?_ | fail); simp [h0, h1, hs1, hs2, hs3, hs4, hg1, hg2, hget, hlr2, hmi, hi1t, ho1, hone, hA1, hA2, hC1, hC2, hcrD, htkc, hR2l, hlT, del])
  | (refine za8 (hC _ (by kernel_rfl)) (hk _ ?_); clear hC hk C k; simp only [zao])
  | (refine za9 rfl (by kernel_rfl) (by first | (simp [hn]; done) | (simp [hn]; omega) | fail) fun C k hC hk => ?_; simp [h0, h1, hs1, hs2, hs3, hs4, hg1, hg2, hget, hlr2, hmi, hi1t, ho1, hone, hA1, hA2, hC1, hC2, hcrD, htkc, hR2l, hlT, del])
  | (refine zaw ?_; simp [h0, h1, hs1, hs2, hs3, hs4, hg1, hg2, hget, hlr2, hmi, hi1t, ho1, hone, hA1, hA2, hC1, hC2, hcrD, htkc, hR2l, hlT, del])
  | (refine zap ?_; simp only [zao])
  | (intro hc <;> (try (exfalso; omega)))
  | (refine CallP.fE (hpl) (by first | rfl | fail) (by first | simp [h0, h1, hs1, hs2, hs3, hs4, hg1, hg2, hget, hlr2, hmi, hi1t, ho1, hone, hA1, hA2, hC1, hC2, hcrD, htkc, hR2l, hlT, del] <;> rfl | fail) ?_; (try simp [h0, h1, hs1, hs2, hs3, hs4, hg1, hg2, hget, hlr2, hmi, hi1t, ho1, hone, hA1, hA2, hC1, hC2, hcrD, htkc, hR2l, hlT, del]))
  | (refine CallP.fE (hpx) (by first | rfl | fail) (by first | simp [h0, h1, hs1, hs2, hs3, hs4, hg1, hg2, hget, hlr2, hmi, hi1t, ho1, hone, hA1, hA2, hC1, hC2, hcrD, htkc, hR2l, hlT, del] <;> rfl | fail) ?_; (try simp [h0, h1, hs1, hs2, hs3, hs4, hg1, hg2, hget, hlr2, hmi, hi1t, ho1, hone, hA1, hA2, hC1, hC2, hcrD, htkc, hR2l, hlT, del]))
  | fail)
   refine zcl (α := { n : Nat // n <= A.length }) [5, 6, 17, 21] (fun n => [(22, .u (.int .i64 n.1))]) (fun n => A.length - n.1) ⟨0, by omega⟩ ?_ ?_
   ·exact (Wk.env rfl rfl rfl (by simp [wkE, St.lp, zan, zaa, getK] <;> (try (intros; simp_all; done)) <;> (try (intros; omega)) <;> (try grind)))
   rintro ⟨n, hn⟩;simp [St.lp, St.only, zan, zaa, getK];have hn1 : (n : Int) <= u.length := by omega
   have hmn : min n u.length = n := by omega
   by_cases hE : u.take n ++ (ziY l ++ u.drop n) = T
   ·repeat' (first
  | ((first | refine zae ?_ | refine zaU rfl ?_ | refine zaj ?_ | fail); simp [hn1, hmn, hE])
  | (refine ⟨by omega, ?_⟩)
  | ((first | refine zah ?_ | refine zai ?_ | fail); simp [hn1, hmn, hE])
  | (refine za8 (hC _ (by kernel_rfl)) (hk _ ?_); clear hC hk C k; simp only [zao])
  | (refine za9 rfl (by kernel_rfl) (by first | (simp [hn]; done) | (simp [hn]; omega) | fail) fun C k hC hk => ?_; simp [hn1, hmn, hE])
  | ((first | refine zaq ?_ | refine zap ?_ | fail); simp only [zao])
  | fail)
    refine EndW.here ?_
    (refine EndOK.val (.inr rfl) ?_; simp [zaG, zaf, zar, Tryz.results7])
   ·have hnA : n < A.length := by
     rcases Nat.lt_or_ge n A.length with h | h
     ·exact h
     ·obtain rfl : n = A.length := by omega
      exact absurd hfin hE
    repeat' (first
  | ((first | refine zae ?_ | refine zaU rfl ?_ | refine zaj ?_ | fail); simp [hn1, hmn, hE])
  | (refine ⟨by omega, ?_⟩)
  | ((first | refine zah ?_ | refine zai ?_ | fail); simp [hn1, hmn, hE])
  | (refine za8 (hC _ (by kernel_rfl)) (hk _ ?_); clear hC hk C k; simp only [zao])
  | (refine za9 rfl (by kernel_rfl) (by first | (simp [hn]; done) | (simp [hn]; omega) | fail) fun C k hC hk => ?_; simp [hn1, hmn, hE])
  | (refine zax ?_; simp [hn1, hmn, hE])
  | (refine zap ?_; simp only [zao])
  | fail)
    refine LoopW.next ⟨n + 1, hnA⟩ (by show A.length - (n + 1) < A.length - n; omega) ?_
    exact (Wk.env rfl rfl rfl (by simp [wkE, St.lp, zan, zaa, getK] <;> (try (intros; simp_all; done)) <;> (try (intros; omega)) <;> (try grind)))
end Go.Proofs.YthnemhfamhnfjaaGreatDoor
