import Derived.Test.YthnemhfamhnfjaaGreatDoorQ6
set_option linter.all false
set_option maxRecDepth 100000
set_option maxHeartbeats 8000000
namespace Go.Proofs.YthnemhfamhnfjaaGreatDoor
open Go Go.VL
attribute [local simp] HS zc2 zb3 evPure opd uOf zaF St.put St.at getK binD binI binS binB nilD aggD zgQ zha lookD lookR zcu Go.VL.nextD zcx zhu zhc zf2 zcw mkV zdj zbk zbu mapEff zdY zfQ Key.kk shiftI arith unD convD zdH loadD cellsAt fieldAddrD fieldD indexAddrD indexD sliceD cutD lenD minmaxD nilCheckD buildD fillD zbP zdb zeC setAll zcK zeO zco zg0 zcm St.add zaO zbF rowsOf zdA zcH zam zac zaa za7 zcC zaQ entry zbE zbO valD zb4 zcy zgh zdh zdi zbT zbK zaw zaW zbo delAll effD St.effS zcU za8 zaY zcV za9 za0 zb9 zaZ zaT zca zcS zbD zb8 zbl zb6 zb7 zaL mkD zbL zbv zbJ zaw zcn D.ids Op.operands Call.operands zby makeIfD makeFuncD typeAssertD zg9 zdw zdx zg1 zcv IntKind.bits zcN List.take_of_length_le List.range_succ
attribute [local irreducible] V G H HD HD2 HD4 zjP RetX zao Eff CallP CallV EndOK Fun Ret FinOK LoopI LoopW EndW
set_option maxHeartbeats 40000000 in
theorem zml (b : By) (hb : zcI b = true) : RetX Tryz.prog 19 [.u (.agg (zaS b))] [] 0 (fun r o n => r = .val (.tup [.u (.str (printB b).1), .u (.int .i64 (printB b).2)])) := by
 have hri := zdu b;rw [hb] at hri;have hh := hb;simp only [zcI, zlM, znb, Bool.and_eq_true, decide_eq_true_eq] at hh;obtain ⟨⟨⟨⟨⟨⟨⟨⟨i1, i2⟩, i3⟩, i4⟩, i5⟩, hsl⟩, hLn⟩, hLb⟩, ⟨⟨⟨hrdue, hrfine⟩, hrpay⟩, hrcover⟩, hrhold⟩ := hh;have hLs := zgJ [] b.lets hLb;simp only [inB, List.any_cons, List.any_nil, Bool.or_false, Bool.not_eq_true', Bool.or_eq_false_iff, decide_eq_false_iff_not, Int.not_lt] at i1 i2 i3 i4 i5;have hca : zal Tryz.prog 62 = true := by kernel_rfl
 have hprB : printB b = if 2000 < (textP b).length then ([], 6) else (textP b, 0) := by unfold printB; rw [if_pos hb]
 rw [hprB];generalize hT : textP b = TT;obtain ⟨T0, e0⟩ : ∃ T0, T0 = zfC b := ⟨_, rfl⟩;have m0 : T0.length <= 100 := by
  rw [e0, zfC, zbM];split
  ·decide
  ·split
   ·decide
   ·split <;> decide
 have hok : True := trivial;clear hLb;unfold zaS at hri ⊢;obtain ⟨CL, hCL⟩ : ∃ CL : List D, CL = [.u (.int .i64 b.kind), .u (.int .i64 b.period), .u (.int .i64 b.grace), .u (.int .i64 b.wait), .u (.int .i64 b.last), .u (.int .i64 b.order), .u (.bool b.sld), .u (.int .i64 b.backs), .u (.int .i64 b.voices), .u (.int .i64 b.jury), .u (.int .i64 b.fund), .u (.sl (b.lets.map fun l => [.str l.name, .int .i64 l.body.op, .int .i64 l.body.n, .int .i64 l.body.unit, .str l.body.s, .sl (l.body.args.map Exp.row)])), .u (.int .i64 b.due.op), .u (.int .i64 b.due.n), .u (.int .i64 b.due.unit), .u (.str b.due.s), .u (.sl (b.due.args.map Exp.row)), .u (.int .i64 b.fine.op), .u (.int .i64 b.fine.n), .u (.int .i64 b.fine.unit), .u (.str b.fine.s), .u (.sl (b.fine.args.map Exp.row)), .u (.int .i64 b.pay.op), .u (.int .i64 b.pay.n), .u (.int .i64 b.pay.unit), .u (.str b.pay.s), .u (.sl (b.pay.args.map Exp.row)), .u (.int .i64 b.cover.op), .u (.int .i64 b.cover.n), .u (.int .i64 b.cover.unit), .u (.str b.cover.s), .u (.sl (b.cover.args.map Exp.row)), .u (.int .i64 b.hold.op), .u (.int .i64 b.hold.n), .u (.int .i64 b.hold.unit), .u (.str b.hold.s), .u (.sl (b.hold.args.map Exp.row))] := ⟨_, rfl⟩
 (refine RetX.of_bodyW Tryz.func19 rfl (by simp) fun Γ hn hpan => ?_); simp only [entry, ziC, ziN, maC, maN, oA, Tryz.ntmps19]
 apply zdy (S := { n := 118, env := [(1, .ptr 0 0), (4, .ptr 1 0), (5, .ptr 2 0), (6, .fnc (.func 55) [.ptr 2 0]), (7, .fnc (.func 57) [.ptr 2 0])], obs := [(0, .box [.u (.int .i64 b.kind), .u (.int .i64 b.period), .u (.int .i64 b.grace), .u (.int .i64 b.wait), .u (.int .i64 b.last), .u (.int .i64 b.order), .u (.bool b.sld), .u (.int .i64 b.backs), .u (.int .i64 b.voices), .u (.int .i64 b.jury), .u (.int .i64 b.fund), .u (.sl (b.lets.map fun l => [.str l.name, .int .i64 l.body.op, .int .i64 l.body.n, .int .i64 l.body.unit, .str l.body.s, .sl (l.body.args.map Exp.row)])), .u (.int .i64 b.due.op), .u (.int .i64 b.due.n), .u (.int .i64 b.due.unit), .u (.str b.due.s), .u (.sl (b.due.args.map Exp.row)), .u (.int .i64 b.fine.op), .u (.int .i64 b.fine.n), .u (.int .i64 b.fine.unit), .u (.str b.fine.s), .u (.sl (b.fine.args.map Exp.row)), .u (.int .i64 b.pay.op), .u (.int .i64 b.pay.n), .u (.int .i64 b.pay.unit), .u (.str b.pay.s), .u (.sl (b.pay.args.map Exp.row)), .u (.int .i64 b.cover.op), .u (.int .i64 b.cover.n), .u (.int .i64 b.cover.unit), .u (.str b.cover.s), .u (.sl (b.cover.args.map Exp.row)), .u (.int .i64 b.hold.op), .u (.int .i64 b.hold.n), .u (.int .i64 b.hold.unit), .u (.str b.hold.s), .u (.sl (b.hold.args.map Exp.row))]), (2, zcc), (1, zde 3 T0), (3, zdd T0)], next := 4 })
 case main =>
  intro key;cases hsd : b.sld with
  | true =>
   rw [zfC, if_pos hsd] at e0;have hln := fun nx (h : 3 <= nx) => zge [[99, 105, 114, 99, 108, 101], [98, 105, 100, 100, 105, 110, 103], [115, 101, 97, 108, 101, 100]] 1 nx (by omega) (by rw [<- e0]; omega) (by simp);rw [<- e0] at hln;simp only [List.map_cons, List.map_nil] at hln
   repeat' (first
  | (refine zgi (by first | (simp; done) | fail) (by simp) ?_; simp)
  | ((first | refine zaf ?_ | refine zaj ?_ | refine zag ?_ | refine zai ?_ | refine zat ?_ | fail); simp [hsd])
  | (refine zar ?_; simp only [zao])
  | (refine CallP.fE (hri) (by first | rfl | fail) (by first | simp [hsd] <;> rfl | fail) ⟨by first | assumption | (simp; done) | fail, by simp, ?_⟩; (try simp [hsd]))
  | (refine zau (by first | rfl | fail) ?_; simp [hsd, frzN, frz1, zaC, zaB, St.frz, St.frzS, frzS, fv, zaJ, za6, zba, zaG, zav, zan, del, frz, zbb])
  | fail)
   refine CallP.okL (hln _ (by simp)) (by simp [zaa, getK]) (by rfl) (by rfl) ⟨by first | assumption | (simp; done), by simp, ?_⟩;simp [zc5, del];refine zaj ?_;simp only [zao];refine zcO _ ?_ key;exact (Wk.ren ((fun x => if x = 3 then 5 else x)) rfl (by first | (simp [hn]; done) | (intro i hi; rw [hn] at hi; constructor <;> (try simp) <;> (try (intro _)) <;> omega)) (by simp [zfZ, St.lp, zak, zaa, getK, zac, zam, D.under, D.le, D.ren] <;> (try (intros; simp_all; done)) <;> (try omega)) (by simp [wkR, St.lp, zaa, getK, zac, zam, obR, leU, zbh, zaP, Ob.under, D.under, D.le, D.ren] <;> (try (intros; simp_all; done)) <;> (try omega)) (by simp))
  | false =>
   have hk3 : b.kind = 0 \/ b.kind = 1 \/ b.kind = 2 := by omega
   have go : ∀ (kw : W8) (kd : Int), b.kind = kd -> (kd = 0 /\ kw = [114, 111, 116, 97, 116, 105, 110, 103] \/ kd = 1 /\ kw = [98, 105, 100, 100, 105, 110, 103] \/ kd = 2 /\ kw = [115, 97, 118, 105, 110, 103]) -> T0 = zbM [[99, 105, 114, 99, 108, 101], kw] := fun kw kd h1 h2 => by
    rw [e0, zfC, hsd];rcases h2 with ⟨rfl, rfl⟩ | ⟨rfl, rfl⟩ | ⟨rfl, rfl⟩ <;> simp [h1]
   rcases hk3 with hk0 | hk0 | hk0
   ·have e1 := go [114, 111, 116, 97, 116, 105, 110, 103] 0 hk0 (by decide);have hln := fun nx (h : 3 <= nx) => zge [[99, 105, 114, 99, 108, 101], [114, 111, 116, 97, 116, 105, 110, 103]] 1 nx (by omega) (by rw [<- e1]; omega) (by simp);rw [<- e1] at hln;simp only [List.map_cons, List.map_nil] at hln
    repeat' (first
  | (refine zgi (by first | (simp; done) | fail) (by simp) ?_; simp)
  | (refine zdl ?_; simp [hsd, hk0])
  | (refine zd9 rfl rfl (by decide +kernel) (by first | (simp [hn]; done) | (simp [hn]; omega) | fail) fun C k hC hk => ?_; simp [hsd, hk0])
  | ((first | refine zaf ?_ | refine zaR rfl ?_ | refine zcb rfl ?_ | refine zaj ?_ | refine zag ?_ | refine zai ?_ | fail); simp [hsd, hk0])
  | (refine zaX (hC _ (by kernel_rfl)) (hk _ ?_); clear hC hk C k; simp only [zao])
  | (refine zar ?_; simp only [zao])
  | (refine CallP.fE (hri) (by first | rfl | fail) (by first | simp [hsd, hk0] <;> rfl | fail) ⟨by first | assumption | (simp; done) | fail, by simp, ?_⟩; (try simp [hsd, hk0]))
  | (refine zau (by first | rfl | fail) ?_; simp [hsd, hk0, frzN, frz1, zaC, zaB, St.frz, St.frzS, frzS, fv, zaJ, za6, zba, zaG, zav, zan, del, frz, zbb])
  | fail)
    refine CallP.okL (hln _ (by simp)) (by simp [zaa, getK]) (by rfl) (by rfl) ⟨by first | assumption | (simp; done), by simp, ?_⟩;simp [zc5, del];refine zaj ?_;simp only [zao];refine zcO _ ?_ key;exact (Wk.ren ((fun x => if x = 3 then 6 else x)) rfl (by first | (simp [hn]; done) | (intro i hi; rw [hn] at hi; constructor <;> (try simp) <;> (try (intro _)) <;> omega)) (by simp [zfZ, St.lp, zak, zaa, getK, zac, zam, D.under, D.le, D.ren] <;> (try (intros; simp_all; done)) <;> (try omega)) (by simp [wkR, St.lp, zaa, getK, zac, zam, obR, leU, zbh, zaP, Ob.under, D.under, D.le, D.ren] <;> (try (intros; simp_all; done)) <;> (try omega)) (by simp))
   ·have e1 := go [98, 105, 100, 100, 105, 110, 103] 1 hk0 (by decide);have hln := fun nx (h : 3 <= nx) => zge [[99, 105, 114, 99, 108, 101], [98, 105, 100, 100, 105, 110, 103]] 1 nx (by omega) (by rw [<- e1]; omega) (by simp);rw [<- e1] at hln;simp only [List.map_cons, List.map_nil] at hln
    repeat' (first
  | (refine zgi (by first | (simp; done) | fail) (by simp) ?_; simp)
  | (refine zdl ?_; simp [hsd, hk0])
  | (refine zd9 rfl rfl (by decide +kernel) (by first | (simp [hn]; done) | (simp [hn]; omega) | fail) fun C k hC hk => ?_; simp [hsd, hk0])
  | ((first | refine zaf ?_ | refine zaR rfl ?_ | refine zcb rfl ?_ | refine zaj ?_ | refine zag ?_ | refine zai ?_ | fail); simp [hsd, hk0])
  | (refine zaX (hC _ (by kernel_rfl)) (hk _ ?_); clear hC hk C k; simp only [zao])
  | (refine zar ?_; simp only [zao])
  | (refine CallP.fE (hri) (by first | rfl | fail) (by first | simp [hsd, hk0] <;> rfl | fail) ⟨by first | assumption | (simp; done) | fail, by simp, ?_⟩; (try simp [hsd, hk0]))
  | (refine zau (by first | rfl | fail) ?_; simp [hsd, hk0, frzN, frz1, zaC, zaB, St.frz, St.frzS, frzS, fv, zaJ, za6, zba, zaG, zav, zan, del, frz, zbb])
  | fail)
    refine CallP.okL (hln _ (by simp)) (by simp [zaa, getK]) (by rfl) (by rfl) ⟨by first | assumption | (simp; done), by simp, ?_⟩;simp [zc5, del];refine zaj ?_;simp only [zao];refine zcO _ ?_ key;exact (Wk.ren ((fun x => if x = 3 then 6 else x)) rfl (by first | (simp [hn]; done) | (intro i hi; rw [hn] at hi; constructor <;> (try simp) <;> (try (intro _)) <;> omega)) (by simp [zfZ, St.lp, zak, zaa, getK, zac, zam, D.under, D.le, D.ren] <;> (try (intros; simp_all; done)) <;> (try omega)) (by simp [wkR, St.lp, zaa, getK, zac, zam, obR, leU, zbh, zaP, Ob.under, D.under, D.le, D.ren] <;> (try (intros; simp_all; done)) <;> (try omega)) (by simp))
   ·have e1 := go [115, 97, 118, 105, 110, 103] 2 hk0 (by decide);have hln := fun nx (h : 3 <= nx) => zge [[99, 105, 114, 99, 108, 101], [115, 97, 118, 105, 110, 103]] 1 nx (by omega) (by rw [<- e1]; omega) (by simp);rw [<- e1] at hln;simp only [List.map_cons, List.map_nil] at hln
    repeat' (first
  | (refine zgi (by first | (simp; done) | fail) (by simp) ?_; simp)
  | (refine zdl ?_; simp [hsd, hk0])
  | (refine zd9 rfl rfl (by decide +kernel) (by first | (simp [hn]; done) | (simp [hn]; omega) | fail) fun C k hC hk => ?_; simp [hsd, hk0])
  | ((first | refine zaf ?_ | refine zaR rfl ?_ | refine zcb rfl ?_ | refine zaj ?_ | refine zag ?_ | refine zai ?_ | fail); simp [hsd, hk0])
  | (refine zaX (hC _ (by kernel_rfl)) (hk _ ?_); clear hC hk C k; simp only [zao])
  | (refine zar ?_; simp only [zao])
  | (refine CallP.fE (hri) (by first | rfl | fail) (by first | simp [hsd, hk0] <;> rfl | fail) ⟨by first | assumption | (simp; done) | fail, by simp, ?_⟩; (try simp [hsd, hk0]))
  | (refine zau (by first | rfl | fail) ?_; simp [hsd, hk0, frzN, frz1, zaC, zaB, St.frz, St.frzS, frzS, fv, zaJ, za6, zba, zaG, zav, zan, del, frz, zbb])
  | fail)
    refine CallP.okL (hln _ (by simp)) (by simp [zaa, getK]) (by rfl) (by rfl) ⟨by first | assumption | (simp; done), by simp, ?_⟩;simp [zc5, del];refine zaj ?_;simp only [zao];refine zcO _ ?_ key;exact (Wk.ren ((fun x => if x = 3 then 6 else x)) rfl (by first | (simp [hn]; done) | (intro i hi; rw [hn] at hi; constructor <;> (try simp) <;> (try (intro _)) <;> omega)) (by simp [zfZ, St.lp, zak, zaa, getK, zac, zam, D.under, D.le, D.ren] <;> (try (intros; simp_all; done)) <;> (try omega)) (by simp [wkR, St.lp, zaa, getK, zac, zam, obR, leU, zbh, zaP, Ob.under, D.under, D.le, D.ren] <;> (try (intros; simp_all; done)) <;> (try omega)) (by simp))
 case key =>
 rw [<- hCL];have x0 : CL[0]? = some (.u (.int .i64 b.kind)) := by rw [hCL]; rfl
 have x1 : CL[1]? = some (.u (.int .i64 b.period)) := by rw [hCL]; rfl
 have x2 : CL[2]? = some (.u (.int .i64 b.grace)) := by rw [hCL]; rfl
 have x3 : CL[3]? = some (.u (.int .i64 b.wait)) := by rw [hCL]; rfl
 have x4 : CL[4]? = some (.u (.int .i64 b.last)) := by rw [hCL]; rfl
 have x5 : CL[5]? = some (.u (.int .i64 b.order)) := by rw [hCL]; rfl
 have x6 : CL[6]? = some (.u (.bool b.sld)) := by rw [hCL]; rfl
 have x7 : CL[7]? = some (.u (.int .i64 b.backs)) := by rw [hCL]; rfl
 have x8 : CL[8]? = some (.u (.int .i64 b.voices)) := by rw [hCL]; rfl
 have x9 : CL[9]? = some (.u (.int .i64 b.jury)) := by rw [hCL]; rfl
 have x10 : CL[10]? = some (.u (.int .i64 b.fund)) := by rw [hCL]; rfl
 have x11 : CL[11]? = some (.u (.sl (b.lets.map fun l => [.str l.name, .int .i64 l.body.op, .int .i64 l.body.n, .int .i64 l.body.unit, .str l.body.s, .sl (l.body.args.map Exp.row)]))) := by rw [hCL]; rfl
 have x12 : CL[12]? = some (.u (.int .i64 b.due.op)) := by rw [hCL]; rfl
 have x13 : CL[13]? = some (.u (.int .i64 b.due.n)) := by rw [hCL]; rfl
 have x14 : CL[14]? = some (.u (.int .i64 b.due.unit)) := by rw [hCL]; rfl
 have x15 : CL[15]? = some (.u (.str b.due.s)) := by rw [hCL]; rfl
 have x16 : CL[16]? = some (.u (.sl (b.due.args.map Exp.row))) := by rw [hCL]; rfl
 have x17 : CL[17]? = some (.u (.int .i64 b.fine.op)) := by rw [hCL]; rfl
 have x18 : CL[18]? = some (.u (.int .i64 b.fine.n)) := by rw [hCL]; rfl
 have x19 : CL[19]? = some (.u (.int .i64 b.fine.unit)) := by rw [hCL]; rfl
 have x20 : CL[20]? = some (.u (.str b.fine.s)) := by rw [hCL]; rfl
 have x21 : CL[21]? = some (.u (.sl (b.fine.args.map Exp.row))) := by rw [hCL]; rfl
 have x22 : CL[22]? = some (.u (.int .i64 b.pay.op)) := by rw [hCL]; rfl
 have x23 : CL[23]? = some (.u (.int .i64 b.pay.n)) := by rw [hCL]; rfl
 have x24 : CL[24]? = some (.u (.int .i64 b.pay.unit)) := by rw [hCL]; rfl
 have x25 : CL[25]? = some (.u (.str b.pay.s)) := by rw [hCL]; rfl
 have x26 : CL[26]? = some (.u (.sl (b.pay.args.map Exp.row))) := by rw [hCL]; rfl
 have x27 : CL[27]? = some (.u (.int .i64 b.cover.op)) := by rw [hCL]; rfl
 have x28 : CL[28]? = some (.u (.int .i64 b.cover.n)) := by rw [hCL]; rfl
 have x29 : CL[29]? = some (.u (.int .i64 b.cover.unit)) := by rw [hCL]; rfl
 have x30 : CL[30]? = some (.u (.str b.cover.s)) := by rw [hCL]; rfl
 have x31 : CL[31]? = some (.u (.sl (b.cover.args.map Exp.row))) := by rw [hCL]; rfl
 have x32 : CL[32]? = some (.u (.int .i64 b.hold.op)) := by rw [hCL]; rfl
 have x33 : CL[33]? = some (.u (.int .i64 b.hold.n)) := by rw [hCL]; rfl
 have x34 : CL[34]? = some (.u (.int .i64 b.hold.unit)) := by rw [hCL]; rfl
 have x35 : CL[35]? = some (.u (.str b.hold.s)) := by rw [hCL]; rfl
 have x36 : CL[36]? = some (.u (.sl (b.hold.args.map Exp.row))) := by rw [hCL]; rfl
 have xs := And.intro x0 <| And.intro x1 <| And.intro x2 <| And.intro x3 <| And.intro x4 <| And.intro x5 <| And.intro x6 <| And.intro x7 <| And.intro x8 <| And.intro x9 <| And.intro x10 <| And.intro x11 <| And.intro x12 <| And.intro x13 <| And.intro x14 <| And.intro x15 <| And.intro x16 <| And.intro x17 <| And.intro x18 <| And.intro x19 <| And.intro x20 <| And.intro x21 <| And.intro x22 <| And.intro x23 <| And.intro x24 <| And.intro x25 <| And.intro x26 <| And.intro x27 <| And.intro x28 <| And.intro x29 <| And.intro x30 <| And.intro x31 <| And.intro x32 <| And.intro x33 <| And.intro x34 <| And.intro x35 x36
 have xun : (∀ x : D, x ∈ CL -> D.under 4 x = true) = True := eq_true (by rw [hCL]; simp [D.under]);have y12 : 17 <= CL.length := by rw [hCL]; simp
 have z12 : List.take 5 (List.drop 12 CL) = [.u (.int .i64 b.due.op), .u (.int .i64 b.due.n), .u (.int .i64 b.due.unit), .u (.str b.due.s), .u (.sl (b.due.args.map Exp.row))] := by rw [hCL]; rfl
 have y17 : 22 <= CL.length := by rw [hCL]; simp
 have z17 : List.take 5 (List.drop 17 CL) = [.u (.int .i64 b.fine.op), .u (.int .i64 b.fine.n), .u (.int .i64 b.fine.unit), .u (.str b.fine.s), .u (.sl (b.fine.args.map Exp.row))] := by rw [hCL]; rfl
 have y22 : 27 <= CL.length := by rw [hCL]; simp
 have z22 : List.take 5 (List.drop 22 CL) = [.u (.int .i64 b.pay.op), .u (.int .i64 b.pay.n), .u (.int .i64 b.pay.unit), .u (.str b.pay.s), .u (.sl (b.pay.args.map Exp.row))] := by rw [hCL]; rfl
 have y27 : 32 <= CL.length := by rw [hCL]; simp
 have z27 : List.take 5 (List.drop 27 CL) = [.u (.int .i64 b.cover.op), .u (.int .i64 b.cover.n), .u (.int .i64 b.cover.unit), .u (.str b.cover.s), .u (.sl (b.cover.args.map Exp.row))] := by rw [hCL]; rfl
 have y32 : 37 <= CL.length := by rw [hCL]; simp
 have z32 : List.take 5 (List.drop 32 CL) = [.u (.int .i64 b.hold.op), .u (.int .i64 b.hold.n), .u (.int .i64 b.hold.unit), .u (.str b.hold.s), .u (.sl (b.hold.args.map Exp.row))] := by rw [hCL]; rfl
 have xfz : ∀ σ, CL.map (frzS σ) = CL := fun σ => by rw [hCL]; simp [VL.frzS]
 have xle : ∀ ρ nx, leU ρ nx CL CL := fun ρ nx => by rw [hCL]; simp [leU, D.le, D.ren, D.under]
 have p1 := zda T0 [112, 101, 114, 105, 111, 100] b.period [[100, 97, 121, 115]];obtain ⟨T1, e1⟩ : ∃ T1, T1 = T0 ++ zbn [112, 101, 114, 105, 111, 100] b.period [[100, 97, 121, 115]] := ⟨_, rfl⟩;have l1 : (zbn [112, 101, 114, 105, 111, 100] b.period [[100, 97, 121, 115]]).length <= 100 := zbs (by omega) (by omega) (by decide);have m1 : T1.length <= T0.length + 100 := by rw [e1, List.length_append]; omega
 rw [<- e1] at p1
 repeat' (first
  | ((first | refine zaf ?_ | refine zag ?_ | fail); simp [xs, xfz])
  | (refine zau (by first | rfl | fail) ?_; simp [xs, xfz, frzN, frz1, zaC, zaB, St.frz, St.frzS, frzS, fv, zaJ, za6, zba, zaG, zav, zan, del, frz, zbb])
  | fail)
 refine CallP.okE (p1 3 _ (by omega) (by first | omega | simp <;> omega | fail) (by omega) (by omega) (by omega) (by simp)) (by first | (simp [zaa, getK, zab, zac]; done) | fail) (by rfl) (by first | assumption | (simp; done) | fail) (by rfl) (by simp) ?_;rintro d o N hN ⟨rfl, j', h3, hlt, hge, rfl⟩;simp at hge;have q0 : ¬ j' = 0 := by omega
 have q1 : ¬ j' = 1 := by omega
 have q2 : ¬ j' = 2 := by omega
 have q3 : ¬ 0 = j' := by omega
 have q4 : ¬ 1 = j' := by omega
 have q5 : ¬ 2 = j' := by omega
 have qs := And.intro q0 <| And.intro q1 <| And.intro q2 <| And.intro q3 <| And.intro q4 q5
 simp [zc5, del];refine zaj ?_;simp only [zao];refine zcO { n := 118, env := [(1, .ptr 0 0), (4, .ptr 1 0), (5, .ptr 2 0), (6, .fnc (.func 55) [.ptr 2 0]), (7, .fnc (.func 57) [.ptr 2 0])], obs := [(0, .box CL), (2, zcc), (1, zde 3 T1), (3, zdd T1)], next := 4 } (Wk.ren ((fun x => if x = 3 then j' else x)) rfl (by first | (simp [hn]; done) | (intro i hi; rw [hn] at hi; constructor <;> (try simp) <;> (try (intro _)) <;> omega)) (by simp [zfZ, St.lp, zak, zaa, getK, zac, zam, D.under, D.le, D.ren, h3, hlt, qs, xle, xfz] <;> (try (intros; simp_all; done)) <;> (try omega)) (by simp [wkR, St.lp, zaa, getK, zac, zam, obR, leU, zbh, zaP, Ob.under, D.under, D.le, D.ren, h3, hlt, qs, xle, xfz] <;> (try (intros; simp_all; done)) <;> (try omega)) (by simp [h3, hlt, qs, xle, xfz])) ?_;have p2 := zda T1 [108, 97, 115, 116] b.last [];obtain ⟨T2, e2⟩ : ∃ T2, T2 = T1 ++ zbn [108, 97, 115, 116] b.last [] := ⟨_, rfl⟩;have l2 : (zbn [108, 97, 115, 116] b.last []).length <= 100 := zbs (by omega) (by omega) (by decide);have m2 : T2.length <= T1.length + 100 := by rw [e2, List.length_append]; omega
 rw [<- e2] at p2
 repeat' (first
  | ((first | refine zaf ?_ | refine zag ?_ | fail); simp [xs, xfz])
  | fail)
 refine CallP.okE (zj6 (p2 3 _ (by omega) (by first | omega | simp <;> omega | fail) (by omega) (by omega) (by omega) (by simp))) (by first | (simp [zaa, getK, zab, zac]; done) | fail) (by rfl) (by first | assumption | (simp; done) | fail) (by rfl) (by simp) ?_;rintro d o N hN ⟨rfl, j', h3, hlt, hge, rfl⟩;simp at hge;have q0 : ¬ j' = 0 := by omega
 have q1 : ¬ j' = 1 := by omega
 have q2 : ¬ j' = 2 := by omega
 have q3 : ¬ 0 = j' := by omega
 have q4 : ¬ 1 = j' := by omega
 have q5 : ¬ 2 = j' := by omega
 have qs := And.intro q0 <| And.intro q1 <| And.intro q2 <| And.intro q3 <| And.intro q4 q5
 simp [zc5, del];refine zaj ?_;simp only [zao];refine zcO { n := 118, env := [(1, .ptr 0 0), (4, .ptr 1 0), (5, .ptr 2 0), (6, .fnc (.func 55) [.ptr 2 0]), (7, .fnc (.func 57) [.ptr 2 0])], obs := [(0, .box CL), (2, zcc), (1, zde 3 T2), (3, zdd T2)], next := 4 } (Wk.ren ((fun x => if x = 3 then j' else x)) rfl (by first | (simp [hn]; done) | (intro i hi; rw [hn] at hi; constructor <;> (try simp) <;> (try (intro _)) <;> omega)) (by simp [zfZ, St.lp, zak, zaa, getK, zac, zam, D.under, D.le, D.ren, h3, hlt, qs, xle, xfz] <;> (try (intros; simp_all; done)) <;> (try omega)) (by simp [wkR, St.lp, zaa, getK, zac, zam, obR, leU, zbh, zaP, Ob.under, D.under, D.le, D.ren, h3, hlt, qs, xle, xfz] <;> (try (intros; simp_all; done)) <;> (try omega)) (by simp [h3, hlt, qs, xle, xfz])) ?_;have p3 := zda T2 [103, 114, 97, 99, 101] b.grace [[100, 97, 121, 115]];obtain ⟨T3, e3⟩ : ∃ T3, T3 = T2 ++ zbn [103, 114, 97, 99, 101] b.grace [[100, 97, 121, 115]] := ⟨_, rfl⟩;have l3 : (zbn [103, 114, 97, 99, 101] b.grace [[100, 97, 121, 115]]).length <= 100 := zbs (by omega) (by omega) (by decide);have m3 : T3.length <= T2.length + 100 := by rw [e3, List.length_append]; omega
 rw [<- e3] at p3
 repeat' (first
  | ((first | refine zaf ?_ | refine zag ?_ | fail); simp [xs, xfz])
  | (refine zau (by first | rfl | fail) ?_; simp [xs, xfz, frzN, frz1, zaC, zaB, St.frz, St.frzS, frzS, fv, zaJ, za6, zba, zaG, zav, zan, del, frz, zbb])
  | fail)
 refine CallP.okE (p3 3 _ (by omega) (by first | omega | simp <;> omega | fail) (by omega) (by omega) (by omega) (by simp)) (by first | (simp [zaa, getK, zab, zac]; done) | fail) (by rfl) (by first | assumption | (simp; done) | fail) (by rfl) (by simp) ?_;rintro d o N hN ⟨rfl, j', h3, hlt, hge, rfl⟩;simp at hge;have q0 : ¬ j' = 0 := by omega
 have q1 : ¬ j' = 1 := by omega
 have q2 : ¬ j' = 2 := by omega
 have q3 : ¬ 0 = j' := by omega
 have q4 : ¬ 1 = j' := by omega
 have q5 : ¬ 2 = j' := by omega
 have qs := And.intro q0 <| And.intro q1 <| And.intro q2 <| And.intro q3 <| And.intro q4 q5
 simp [zc5, del];refine zaj ?_;simp only [zao];refine zcO { n := 118, env := [(1, .ptr 0 0), (4, .ptr 1 0), (5, .ptr 2 0), (6, .fnc (.func 55) [.ptr 2 0]), (7, .fnc (.func 57) [.ptr 2 0])], obs := [(0, .box CL), (2, zcc), (1, zde 3 T3), (3, zdd T3)], next := 4 } (Wk.ren ((fun x => if x = 3 then j' else x)) rfl (by first | (simp [hn]; done) | (intro i hi; rw [hn] at hi; constructor <;> (try simp) <;> (try (intro _)) <;> omega)) (by simp [zfZ, St.lp, zak, zaa, getK, zac, zam, D.under, D.le, D.ren, h3, hlt, qs, xle, xfz] <;> (try (intros; simp_all; done)) <;> (try omega)) (by simp [wkR, St.lp, zaa, getK, zac, zam, obR, leU, zbh, zaP, Ob.under, D.under, D.le, D.ren, h3, hlt, qs, xle, xfz] <;> (try (intros; simp_all; done)) <;> (try omega)) (by simp [h3, hlt, qs, xle, xfz])) ?_;have p4 := zda T3 [119, 97, 105, 116] b.wait [[100, 97, 121, 115]];obtain ⟨T4, e4⟩ : ∃ T4, T4 = T3 ++ zbn [119, 97, 105, 116] b.wait [[100, 97, 121, 115]] := ⟨_, rfl⟩;have l4 : (zbn [119, 97, 105, 116] b.wait [[100, 97, 121, 115]]).length <= 100 := zbs (by omega) (by omega) (by decide);have m4 : T4.length <= T3.length + 100 := by rw [e4, List.length_append]; omega
 rw [<- e4] at p4
 repeat' (first
  | ((first | refine zaf ?_ | refine zag ?_ | fail); simp [xs, xfz])
  | (refine zau (by first | rfl | fail) ?_; simp [xs, xfz, frzN, frz1, zaC, zaB, St.frz, St.frzS, frzS, fv, zaJ, za6, zba, zaG, zav, zan, del, frz, zbb])
  | fail)
 refine CallP.okE (p4 3 _ (by omega) (by first | omega | simp <;> omega | fail) (by omega) (by omega) (by omega) (by simp)) (by first | (simp [zaa, getK, zab, zac]; done) | fail) (by rfl) (by first | assumption | (simp; done) | fail) (by rfl) (by simp) ?_;rintro d o N hN ⟨rfl, j', h3, hlt, hge, rfl⟩;simp at hge;have q0 : ¬ j' = 0 := by omega
 have q1 : ¬ j' = 1 := by omega
 have q2 : ¬ j' = 2 := by omega
 have q3 : ¬ 0 = j' := by omega
 have q4 : ¬ 1 = j' := by omega
 have q5 : ¬ 2 = j' := by omega
 have qs := And.intro q0 <| And.intro q1 <| And.intro q2 <| And.intro q3 <| And.intro q4 q5
 simp [zc5, del];refine zaj ?_;simp only [zao];refine zcO { n := 118, env := [(1, .ptr 0 0), (4, .ptr 1 0), (5, .ptr 2 0), (6, .fnc (.func 55) [.ptr 2 0]), (7, .fnc (.func 57) [.ptr 2 0])], obs := [(0, .box CL), (2, zcc), (1, zde 3 T4), (3, zdd T4)], next := 4 } (Wk.ren ((fun x => if x = 3 then j' else x)) rfl (by first | (simp [hn]; done) | (intro i hi; rw [hn] at hi; constructor <;> (try simp) <;> (try (intro _)) <;> omega)) (by simp [zfZ, St.lp, zak, zaa, getK, zac, zam, D.under, D.le, D.ren, h3, hlt, qs, xle, xfz] <;> (try (intros; simp_all; done)) <;> (try omega)) (by simp [wkR, St.lp, zaa, getK, zac, zam, obR, leU, zbh, zaP, Ob.under, D.under, D.le, D.ren, h3, hlt, qs, xle, xfz] <;> (try (intros; simp_all; done)) <;> (try omega)) (by simp [h3, hlt, qs, xle, xfz])) ?_;obtain ⟨T5, e5⟩ : ∃ T5, T5 = T4 ++ zfV b.order := ⟨_, rfl⟩;have ho3 : b.order = 0 \/ b.order = 1 \/ b.order = 2 := by omega
 have l5 : (zfV b.order).length <= 100 := by rcases ho3 with h | h | h <;> rw [h] <;> decide
 have m5 : T5.length <= T4.length + 100 := by rw [e5, List.length_append]; omega
 apply zdy (S := { n := 118, env := [(1, .ptr 0 0), (4, .ptr 1 0), (5, .ptr 2 0), (6, .fnc (.func 55) [.ptr 2 0]), (7, .fnc (.func 57) [.ptr 2 0])], obs := [(0, .box CL), (2, zcc), (1, zde 3 T5), (3, zdd T5)], next := 4 })
 case main =>
  intro key2;rcases ho3 with ho | ho | ho
  ·have e2 : T5 = T4 := by rw [e5, ho, zfV, if_pos rfl, List.append_nil]
   repeat' (first
  | ((first | refine zaf ?_ | refine zaj ?_ | refine zag ?_ | refine zai ?_ | fail); simp [xs, xfz, ho])
  | (refine zat ?_; simp [xs, xfz, ho]))
   refine zar ?_;simp only [zao];refine zcO _ ?_ key2;rw [e2];exact (Wk.cut rfl (by simp [hn, St.lp]) (by simp [wkO, St.lp, zaa, getK, Ob.under, D.under, zad, zah, xle, xun]) (by simp [wkU, St.lp, zak, zaa, getK, D.under, xle, xun]) (by simp [wkE, St.lp, zak, zaa, getK, xle, xun] <;> (try (intros; simp_all; done)) <;> (try (intros; omega)) <;> (try grind)))
  ·have e2 : T5 = T4 ++ zbM [[111, 114, 100, 101, 114], [100, 114, 97, 119]] := by rw [e5, ho]; rfl
   have hor := zfw;simp only [ordersW, List.map_cons, List.map_nil] at hor;have hln := fun nx (h : 4 <= nx) => zgG T4 [[111, 114, 100, 101, 114], [100, 114, 97, 119]] 3 nx (by omega) (by omega) (by have := zeq [[111, 114, 100, 101, 114], [100, 114, 97, 119]]; rw [zbM]; simp at this ⊢; omega) (by simp);rw [<- e2] at hln;simp only [List.map_cons, List.map_nil] at hln
   repeat' (first
  | ((first | refine zaf ?_ | refine zaj ?_ | refine zag ?_ | refine zai ?_ | fail); simp [xs, xfz, ho])
  | (refine zat ?_; simp [xs, xfz, ho]))
   repeat' (first
  | (refine zdl ?_; simp [xs, xfz, ho])
  | (refine zd9 rfl rfl (by decide +kernel) (by first | (simp [hn]; done) | (simp [hn]; omega) | fail) fun C k hC hk => ?_; simp [xs, xfz, ho])
  | ((first | refine zaf ?_ | refine zaR rfl ?_ | refine zcb rfl ?_ | fail); simp [xs, xfz, ho])
  | (refine zaX (hC _ (by kernel_rfl)) (hk _ ?_); clear hC hk C k; simp only [zao])
  | (refine CallV.fun_ (hor) (by first | rfl | fail) (by first | simp [xs, xfz, ho] <;> rfl | fail) ⟨by first | assumption | (simp; done) | fail, by simp, ?_⟩ <;> (try simp [xs, xfz, ho]))
  | (refine zau (by first | rfl | fail) ?_; simp [xs, xfz, ho, frzN, frz1, zaC, zaB, St.frz, St.frzS, frzS, fv, zaJ, za6, zba, zaG, zav, zan, del, frz, zbb])
  | fail)
   refine CallP.okL (hln _ (by simp)) (by simp [zaa, getK]) (by rfl) (by rfl) ⟨by first | assumption | (simp; done), by simp, ?_⟩;simp [zc5, del];refine zaj ?_;simp only [zao];refine zcO _ ?_ key2;exact (Wk.ren ((fun x => if x = 3 then 5 else x)) rfl (by first | (simp [hn]; done) | (intro i hi; rw [hn] at hi; constructor <;> (try simp) <;> (try (intro _)) <;> omega)) (by simp [zfZ, St.lp, zak, zaa, getK, zac, zam, D.under, D.le, D.ren, xle, xfz] <;> (try (intros; simp_all; done)) <;> (try omega)) (by simp [wkR, St.lp, zaa, getK, zac, zam, obR, leU, zbh, zaP, Ob.under, D.under, D.le, D.ren, xle, xfz] <;> (try (intros; simp_all; done)) <;> (try omega)) (by simp [xle, xfz]))
  ·have e2 : T5 = T4 ++ zbM [[111, 114, 100, 101, 114], [110, 101, 101, 100]] := by rw [e5, ho]; rfl
   have hor := zfw;simp only [ordersW, List.map_cons, List.map_nil] at hor;have hln := fun nx (h : 4 <= nx) => zgG T4 [[111, 114, 100, 101, 114], [110, 101, 101, 100]] 3 nx (by omega) (by omega) (by have := zeq [[111, 114, 100, 101, 114], [110, 101, 101, 100]]; rw [zbM]; simp at this ⊢; omega) (by simp);rw [<- e2] at hln;simp only [List.map_cons, List.map_nil] at hln
   repeat' (first
  | ((first | refine zaf ?_ | refine zaj ?_ | refine zag ?_ | refine zai ?_ | fail); simp [xs, xfz, ho])
  | (refine zat ?_; simp [xs, xfz, ho]))
   repeat' (first
  | (refine zdl ?_; simp [xs, xfz, ho])
  | (refine zd9 rfl rfl (by decide +kernel) (by first | (simp [hn]; done) | (simp [hn]; omega) | fail) fun C k hC hk => ?_; simp [xs, xfz, ho])
  | ((first | refine zaf ?_ | refine zaR rfl ?_ | refine zcb rfl ?_ | fail); simp [xs, xfz, ho])
  | (refine zaX (hC _ (by kernel_rfl)) (hk _ ?_); clear hC hk C k; simp only [zao])
  | (refine CallV.fun_ (hor) (by first | rfl | fail) (by first | simp [xs, xfz, ho] <;> rfl | fail) ⟨by first | assumption | (simp; done) | fail, by simp, ?_⟩ <;> (try simp [xs, xfz, ho]))
  | (refine zau (by first | rfl | fail) ?_; simp [xs, xfz, ho, frzN, frz1, zaC, zaB, St.frz, St.frzS, frzS, fv, zaJ, za6, zba, zaG, zav, zan, del, frz, zbb])
  | fail)
   refine CallP.okL (hln _ (by simp)) (by simp [zaa, getK]) (by rfl) (by rfl) ⟨by first | assumption | (simp; done), by simp, ?_⟩;simp [zc5, del];refine zaj ?_;simp only [zao];refine zcO _ ?_ key2;exact (Wk.ren ((fun x => if x = 3 then 5 else x)) rfl (by first | (simp [hn]; done) | (intro i hi; rw [hn] at hi; constructor <;> (try simp) <;> (try (intro _)) <;> omega)) (by simp [zfZ, St.lp, zak, zaa, getK, zac, zam, D.under, D.le, D.ren, xle, xfz] <;> (try (intros; simp_all; done)) <;> (try omega)) (by simp [wkR, St.lp, zaa, getK, zac, zam, obR, leU, zbh, zaP, Ob.under, D.under, D.le, D.ren, xle, xfz] <;> (try (intros; simp_all; done)) <;> (try omega)) (by simp [xle, xfz]))
 case key =>
 have p6 := zda T5 [98, 97, 99, 107, 115] b.backs [];obtain ⟨T6, e6⟩ : ∃ T6, T6 = T5 ++ zbn [98, 97, 99, 107, 115] b.backs [] := ⟨_, rfl⟩;have l6 : (zbn [98, 97, 99, 107, 115] b.backs []).length <= 100 := zbs (by omega) (by omega) (by decide);have m6 : T6.length <= T5.length + 100 := by rw [e6, List.length_append]; omega
 rw [<- e6] at p6
 repeat' (first
  | ((first | refine zaf ?_ | refine zag ?_ | fail); simp [xs, xfz])
  | fail)
 refine CallP.okE (zj6 (p6 3 _ (by omega) (by first | omega | simp <;> omega | fail) (by omega) (by omega) (by omega) (by simp))) (by first | (simp [zaa, getK, zab, zac]; done) | fail) (by rfl) (by first | assumption | (simp; done) | fail) (by rfl) (by simp) ?_;rintro d o N hN ⟨rfl, j', h3, hlt, hge, rfl⟩;simp at hge;have q0 : ¬ j' = 0 := by omega
 have q1 : ¬ j' = 1 := by omega
 have q2 : ¬ j' = 2 := by omega
 have q3 : ¬ 0 = j' := by omega
 have q4 : ¬ 1 = j' := by omega
 have q5 : ¬ 2 = j' := by omega
 have qs := And.intro q0 <| And.intro q1 <| And.intro q2 <| And.intro q3 <| And.intro q4 q5
 simp [zc5, del];refine zaj ?_;simp only [zao];refine zcO { n := 118, env := [(1, .ptr 0 0), (4, .ptr 1 0), (5, .ptr 2 0), (6, .fnc (.func 55) [.ptr 2 0]), (7, .fnc (.func 57) [.ptr 2 0])], obs := [(0, .box CL), (2, zcc), (1, zde 3 T6), (3, zdd T6)], next := 4 } (Wk.ren ((fun x => if x = 3 then j' else x)) rfl (by first | (simp [hn]; done) | (intro i hi; rw [hn] at hi; constructor <;> (try simp) <;> (try (intro _)) <;> omega)) (by simp [zfZ, St.lp, zak, zaa, getK, zac, zam, D.under, D.le, D.ren, h3, hlt, qs, xle, xfz] <;> (try (intros; simp_all; done)) <;> (try omega)) (by simp [wkR, St.lp, zaa, getK, zac, zam, obR, leU, zbh, zaP, Ob.under, D.under, D.le, D.ren, h3, hlt, qs, xle, xfz] <;> (try (intros; simp_all; done)) <;> (try omega)) (by simp [h3, hlt, qs, xle, xfz])) ?_;have p7 := zda T6 [118, 111, 105, 99, 101, 115] b.voices [[112, 101, 114], [109, 105, 108, 108, 101]];obtain ⟨T7, e7⟩ : ∃ T7, T7 = T6 ++ zbn [118, 111, 105, 99, 101, 115] b.voices [[112, 101, 114], [109, 105, 108, 108, 101]] := ⟨_, rfl⟩;have l7 : (zbn [118, 111, 105, 99, 101, 115] b.voices [[112, 101, 114], [109, 105, 108, 108, 101]]).length <= 100 := zbs (by omega) (by omega) (by decide);have m7 : T7.length <= T6.length + 100 := by rw [e7, List.length_append]; omega
 rw [<- e7] at p7
 repeat' (first
  | ((first | refine zaf ?_ | refine zag ?_ | fail); simp [xs, xfz])
  | (refine zau (by first | rfl | fail) ?_; simp [xs, xfz, frzN, frz1, zaC, zaB, St.frz, St.frzS, frzS, fv, zaJ, za6, zba, zaG, zav, zan, del, frz, zbb])
  | fail)
 refine CallP.okE (p7 3 _ (by omega) (by first | omega | simp <;> omega | fail) (by omega) (by omega) (by omega) (by simp)) (by first | (simp [zaa, getK, zab, zac]; done) | fail) (by rfl) (by first | assumption | (simp; done) | fail) (by rfl) (by simp) ?_;rintro d o N hN ⟨rfl, j', h3, hlt, hge, rfl⟩;simp at hge;have q0 : ¬ j' = 0 := by omega
 have q1 : ¬ j' = 1 := by omega
 have q2 : ¬ j' = 2 := by omega
 have q3 : ¬ 0 = j' := by omega
 have q4 : ¬ 1 = j' := by omega
 have q5 : ¬ 2 = j' := by omega
 have qs := And.intro q0 <| And.intro q1 <| And.intro q2 <| And.intro q3 <| And.intro q4 q5
 simp [zc5, del];refine zaj ?_;simp only [zao];refine zcO { n := 118, env := [(1, .ptr 0 0), (4, .ptr 1 0), (5, .ptr 2 0), (6, .fnc (.func 55) [.ptr 2 0]), (7, .fnc (.func 57) [.ptr 2 0])], obs := [(0, .box CL), (2, zcc), (1, zde 3 T7), (3, zdd T7)], next := 4 } (Wk.ren ((fun x => if x = 3 then j' else x)) rfl (by first | (simp [hn]; done) | (intro i hi; rw [hn] at hi; constructor <;> (try simp) <;> (try (intro _)) <;> omega)) (by simp [zfZ, St.lp, zak, zaa, getK, zac, zam, D.under, D.le, D.ren, h3, hlt, qs, xle, xfz] <;> (try (intros; simp_all; done)) <;> (try omega)) (by simp [wkR, St.lp, zaa, getK, zac, zam, obR, leU, zbh, zaP, Ob.under, D.under, D.le, D.ren, h3, hlt, qs, xle, xfz] <;> (try (intros; simp_all; done)) <;> (try omega)) (by simp [h3, hlt, qs, xle, xfz])) ?_;have p8 := zda T7 [106, 117, 114, 121] b.jury [];obtain ⟨T8, e8⟩ : ∃ T8, T8 = T7 ++ zbn [106, 117, 114, 121] b.jury [] := ⟨_, rfl⟩;have l8 : (zbn [106, 117, 114, 121] b.jury []).length <= 100 := zbs (by omega) (by omega) (by decide);have m8 : T8.length <= T7.length + 100 := by rw [e8, List.length_append]; omega
 rw [<- e8] at p8
 repeat' (first
  | ((first | refine zaf ?_ | refine zag ?_ | fail); simp [xs, xfz])
  | fail)
 refine CallP.okE (zj6 (p8 3 _ (by omega) (by first | omega | simp <;> omega | fail) (by omega) (by omega) (by omega) (by simp))) (by first | (simp [zaa, getK, zab, zac]; done) | fail) (by rfl) (by first | assumption | (simp; done) | fail) (by rfl) (by simp) ?_;rintro d o N hN ⟨rfl, j', h3, hlt, hge, rfl⟩;simp at hge;have q0 : ¬ j' = 0 := by omega
 have q1 : ¬ j' = 1 := by omega
 have q2 : ¬ j' = 2 := by omega
 have q3 : ¬ 0 = j' := by omega
 have q4 : ¬ 1 = j' := by omega
 have q5 : ¬ 2 = j' := by omega
 have qs := And.intro q0 <| And.intro q1 <| And.intro q2 <| And.intro q3 <| And.intro q4 q5
 simp [zc5, del];refine zaj ?_;simp only [zao];refine zcO { n := 118, env := [(1, .ptr 0 0), (4, .ptr 1 0), (5, .ptr 2 0), (6, .fnc (.func 55) [.ptr 2 0]), (7, .fnc (.func 57) [.ptr 2 0])], obs := [(0, .box CL), (2, zcc), (1, zde 3 T8), (3, zdd T8)], next := 4 } (Wk.ren ((fun x => if x = 3 then j' else x)) rfl (by first | (simp [hn]; done) | (intro i hi; rw [hn] at hi; constructor <;> (try simp) <;> (try (intro _)) <;> omega)) (by simp [zfZ, St.lp, zak, zaa, getK, zac, zam, D.under, D.le, D.ren, h3, hlt, qs, xle, xfz] <;> (try (intros; simp_all; done)) <;> (try omega)) (by simp [wkR, St.lp, zaa, getK, zac, zam, obR, leU, zbh, zaP, Ob.under, D.under, D.le, D.ren, h3, hlt, qs, xle, xfz] <;> (try (intros; simp_all; done)) <;> (try omega)) (by simp [h3, hlt, qs, xle, xfz])) ?_;have p9 := zda T8 [102, 117, 110, 100] b.fund [[112, 101, 114], [109, 105, 108, 108, 101]];obtain ⟨T9, e9⟩ : ∃ T9, T9 = T8 ++ zbn [102, 117, 110, 100] b.fund [[112, 101, 114], [109, 105, 108, 108, 101]] := ⟨_, rfl⟩;have l9 : (zbn [102, 117, 110, 100] b.fund [[112, 101, 114], [109, 105, 108, 108, 101]]).length <= 100 := zbs (by omega) (by omega) (by decide);have m9 : T9.length <= T8.length + 100 := by rw [e9, List.length_append]; omega
 rw [<- e9] at p9
 repeat' (first
  | ((first | refine zaf ?_ | refine zag ?_ | fail); simp [xs, xfz])
  | (refine zau (by first | rfl | fail) ?_; simp [xs, xfz, frzN, frz1, zaC, zaB, St.frz, St.frzS, frzS, fv, zaJ, za6, zba, zaG, zav, zan, del, frz, zbb])
  | fail)
 refine CallP.okE (p9 3 _ (by omega) (by first | omega | simp <;> omega | fail) (by omega) (by omega) (by omega) (by simp)) (by first | (simp [zaa, getK, zab, zac]; done) | fail) (by rfl) (by first | assumption | (simp; done) | fail) (by rfl) (by simp) ?_;rintro d o N hN ⟨rfl, j', h3, hlt, hge, rfl⟩;simp at hge;have q0 : ¬ j' = 0 := by omega
 have q1 : ¬ j' = 1 := by omega
 have q2 : ¬ j' = 2 := by omega
 have q3 : ¬ 0 = j' := by omega
 have q4 : ¬ 1 = j' := by omega
 have q5 : ¬ 2 = j' := by omega
 have qs := And.intro q0 <| And.intro q1 <| And.intro q2 <| And.intro q3 <| And.intro q4 q5
 simp [zc5, del];refine zaj ?_;simp only [zao];refine zcO { n := 118, env := [(1, .ptr 0 0), (4, .ptr 1 0), (5, .ptr 2 0), (6, .fnc (.func 55) [.ptr 2 0]), (7, .fnc (.func 57) [.ptr 2 0])], obs := [(0, .box CL), (2, zcc), (1, zde 3 T9), (3, zdd T9)], next := 4 } (Wk.ren ((fun x => if x = 3 then j' else x)) rfl (by first | (simp [hn]; done) | (intro i hi; rw [hn] at hi; constructor <;> (try simp) <;> (try (intro _)) <;> omega)) (by simp [zfZ, St.lp, zak, zaa, getK, zac, zam, D.under, D.le, D.ren, h3, hlt, qs, xle, xfz] <;> (try (intros; simp_all; done)) <;> (try omega)) (by simp [wkR, St.lp, zaa, getK, zac, zam, obR, leU, zbh, zaP, Ob.under, D.under, D.le, D.ren, h3, hlt, qs, xle, xfz] <;> (try (intros; simp_all; done)) <;> (try omega)) (by simp [h3, hlt, qs, xle, xfz])) ?_;obtain ⟨F, eF⟩ : ∃ F : Nat -> W8, F = fun i => T9 ++ zeW (b.lets.take i) := ⟨_, rfl⟩;have hF0 : F 0 = T9 := by rw [eF]; simp [zeW]
 have hFs : ∀ i l, b.lets[i]? = some l -> F (i + 1) = F i ++ znC l := fun i l h => by rw [eF]; simp only; rw [zht h, List.append_assoc]
 have hFl : ∀ i, i <= b.lets.length -> (F i).length <= T9.length + 2000000000 := fun i hi => by
  rw [eF];have h1 := zgH (b.lets.take i) fun l hl => hLs l (List.mem_of_mem_take hl);simp only [List.length_append, List.length_take] at h1 ⊢;omega
 obtain ⟨T10, e10⟩ : ∃ T10, T10 = F b.lets.length := ⟨_, rfl⟩;have m10 : T10.length <= T9.length + 2000000000 := by rw [e10]; exact hFl _ (Nat.le_refl _)
 have eL : T10 = T9 ++ zeW b.lets := by rw [e10, eF]; simp only; rw [List.take_length]
 clear eF
 repeat' (first
  | ((first | refine zaf ?_ | refine zaj ?_ | refine zag ?_ | refine zas ?_ | fail); simp [xs, xfz])
  | fail)
 refine zdL (α := { i : Nat // i <= b.lets.length }) [1, 4, 5, 7, 79, 80] (fun x => [(81, .u (.int .i64 x.1))]) (fun x => [(0, .box CL), (2, zcc), (1, zde 3 (F x.1)), (3, zdd (F x.1))]) 4 (fun x => b.lets.length - x.1) ⟨0, by omega⟩ ?_ ?_
 ·exact (Wk.cut rfl (by simp [hn, St.lp]) (by simp [wkO, St.lp, zaa, getK, Ob.under, D.under, zad, zah, xle, xun, hF0]) (by simp [wkU, St.lp, zak, zaa, getK, D.under, xle, xun, hF0]) (by simp [wkE, St.lp, zak, zaa, getK, xle, xun, hF0] <;> (try (intros; simp_all; done)) <;> (try (intros; omega)) <;> (try grind)))
 rintro ⟨i, hi⟩;have hFi := hFl i hi;simp [St.lp, St.only, zak, zaa, getK];rcases hx : b.lets[i]? with _ | l
 case some =>
  have hlt : i < b.lets.length := (lGE.1 hx).1;obtain ⟨hln, hlr⟩ := hLs l (List.mem_of_getElem? hx);have hn20 := zgc hln;have htl := zbf hlr (Nat.le_refl _) 0;have hsh := zf9 12 (Nat.le_refl _) l.body hlr 0;rw [Exp.row_eq] at hsh;have hnx := hFs i l hx;rw [znC] at hnx;have hlw := zkF hln hlr;rw [znC] at hlw;have hw := fun nx (h : 4 <= nx) => zgG (F i) [[108, 101, 116], l.name, [61], txt l.body 0] 3 nx (by omega) (by omega) (by omega) (by simp);rw [<- hnx] at hw;simp only [List.map_cons, List.map_nil] at hw;generalize txt l.body 0 = TB at *;generalize hFN : F (i + 1) = FN at *;generalize hFI : F i = FI at *
  repeat' (first
  | (refine zdl ?_; simp [xs, xfz, hx])
  | (refine zd9 rfl rfl (by decide +kernel) (by first | (simp [hn]; done) | (simp [hn]; omega) | fail) fun C k hC hk => ?_; simp [xs, xfz, hx])
  | ((first | refine zaf ?_ | refine zaR rfl ?_ | refine zcb rfl ?_ | refine zaj ?_ | fail); simp [xs, xfz, hx])
  | (refine ⟨by omega, ?_⟩)
  | (refine zag ?_; simp [xs, xfz, hx])
  | (refine zaX (hC _ (by kernel_rfl)) (hk _ ?_); clear hC hk C k; simp only [zao])
  | (refine zat ?_; simp [xs, xfz, hx])
  | (refine zar ?_; simp only [zao])
  | (refine ⟨?_, by omega⟩)
  | (intro hc <;> (try (exfalso; omega)))
  | (refine CallV.fun_ (hsh) (by first | rfl | fail) (by first | simp [xs, xfz, hx] <;> rfl | fail) ⟨by first | assumption | (simp; done) | fail, by simp, ?_⟩ <;> (try simp [xs, xfz, hx]))
  | (refine zau (by first | rfl | fail) ?_; simp [xs, xfz, hx, frzN, frz1, zaC, zaB, St.frz, St.frzS, frzS, fv, zaJ, za6, zba, zaG, zav, zan, del, frz, zbb])
  | (refine CallP.okL (hw _ (by first | omega | simp <;> omega | fail)) (by first | (simp [xs, xfz, hx, zaa, getK, zab, zac, zam, zaL, del]; done) | fail) (by rfl) (by rfl) ⟨by first | assumption | (simp; done) | fail, by simp, ?_⟩; (try simp [xs, xfz, hx, zc5, del]))
  | fail)
  refine LoopW.next ⟨i + 1, by omega⟩ (by simp; omega) ?_
  exact (Wk.ren ((fun x => if x = 3 then 6 else x)) rfl (by first | (simp [hn]; done) | (intro i hi; rw [hn] at hi; constructor <;> (try simp) <;> (try (intro _)) <;> omega)) (by simp [zfZ, St.lp, zak, zaa, getK, zac, zam, D.under, D.le, D.ren, xle, xfz, xun, hFN] <;> (try (intros; simp_all; done)) <;> (try omega)) (by simp [wkR, St.lp, zaa, getK, zac, zam, obR, leU, zbh, zaP, Ob.under, D.under, D.le, D.ren, xle, xfz, xun, hFN] <;> (try (intros; simp_all; done)) <;> (try omega)) (by simp [xle, xfz, xun, hFN]))
 case none =>
 have hge : b.lets.length <= i := by simpa using hx
 obtain rfl : i = b.lets.length := by omega
 rw [<- e10];clear hFs hFl hFi hx;have p11 := zdc T10 [100, 117, 101] b.due;rw [Exp.row_eq] at p11;obtain ⟨T11, e11⟩ : ∃ T11, T11 = T10 ++ clauseT [100, 117, 101] b.due := ⟨_, rfl⟩;have m11 : T11.length <= T10.length + 60000000 := by rw [e11, List.length_append]; have := zbN (w := [100, 117, 101]) (by decide) hrdue; omega
 rw [<- e11] at p11
 repeat' (first
  | ((first | refine zaf ?_ | refine zaj ?_ | refine zag ?_ | fail); simp [y12, z12, xfz])
  | (refine zbq ?_; simp [zao])
  | fail)
 refine CallP.okE (p11 3 _ (by omega) (by first | omega | simp <;> omega | fail) hrdue (by simp; omega)) (by first | (simp [zaa, getK, zab, zac]; done) | fail) (by rfl) (by first | assumption | (simp; done) | fail) (by rfl) (by simp) ?_;rintro d o N hN ⟨rfl, j', h3, hlt, hge, rfl⟩;simp at hge;have q0 : ¬ j' = 0 := by omega
 have q1 : ¬ j' = 1 := by omega
 have q2 : ¬ j' = 2 := by omega
 have q3 : ¬ 0 = j' := by omega
 have q4 : ¬ 1 = j' := by omega
 have q5 : ¬ 2 = j' := by omega
 have qs := And.intro q0 <| And.intro q1 <| And.intro q2 <| And.intro q3 <| And.intro q4 q5
 simp [zc5, del];refine zaj ?_;simp only [zao];refine zcO { n := 118, env := [(1, .ptr 0 0), (4, .ptr 1 0), (5, .ptr 2 0), (7, .fnc (.func 57) [.ptr 2 0])], obs := [(0, .box CL), (2, zcc), (1, zde 3 T11), (3, zdd T11)], next := 4 } (Wk.ren ((fun x => if x = 3 then j' else x)) rfl (by first | (simp [hn]; done) | (intro i hi; rw [hn] at hi; constructor <;> (try simp) <;> (try (intro _)) <;> omega)) (by simp [zfZ, St.lp, zak, zaa, getK, zac, zam, D.under, D.le, D.ren, h3, hlt, qs, xle, xfz] <;> (try (intros; simp_all; done)) <;> (try omega)) (by simp [wkR, St.lp, zaa, getK, zac, zam, obR, leU, zbh, zaP, Ob.under, D.under, D.le, D.ren, h3, hlt, qs, xle, xfz] <;> (try (intros; simp_all; done)) <;> (try omega)) (by simp [h3, hlt, qs, xle, xfz])) ?_;have p12 := zdc T11 [102, 105, 110, 101] b.fine;rw [Exp.row_eq] at p12;obtain ⟨T12, e12⟩ : ∃ T12, T12 = T11 ++ clauseT [102, 105, 110, 101] b.fine := ⟨_, rfl⟩;have m12 : T12.length <= T11.length + 60000000 := by rw [e12, List.length_append]; have := zbN (w := [102, 105, 110, 101]) (by decide) hrfine; omega
 rw [<- e12] at p12
 repeat' (first
  | ((first | refine zaf ?_ | refine zag ?_ | fail); simp [y17, z17, xfz])
  | fail)
 refine CallP.okE (p12 3 _ (by omega) (by first | omega | simp <;> omega | fail) hrfine (by simp; omega)) (by first | (simp [zaa, getK, zab, zac]; done) | fail) (by rfl) (by first | assumption | (simp; done) | fail) (by rfl) (by simp) ?_;rintro d o N hN ⟨rfl, j', h3, hlt, hge, rfl⟩;simp at hge;have q0 : ¬ j' = 0 := by omega
 have q1 : ¬ j' = 1 := by omega
 have q2 : ¬ j' = 2 := by omega
 have q3 : ¬ 0 = j' := by omega
 have q4 : ¬ 1 = j' := by omega
 have q5 : ¬ 2 = j' := by omega
 have qs := And.intro q0 <| And.intro q1 <| And.intro q2 <| And.intro q3 <| And.intro q4 q5
 simp [zc5, del];refine zaj ?_;simp only [zao];refine zcO { n := 118, env := [(1, .ptr 0 0), (4, .ptr 1 0), (5, .ptr 2 0), (7, .fnc (.func 57) [.ptr 2 0])], obs := [(0, .box CL), (2, zcc), (1, zde 3 T12), (3, zdd T12)], next := 4 } (Wk.ren ((fun x => if x = 3 then j' else x)) rfl (by first | (simp [hn]; done) | (intro i hi; rw [hn] at hi; constructor <;> (try simp) <;> (try (intro _)) <;> omega)) (by simp [zfZ, St.lp, zak, zaa, getK, zac, zam, D.under, D.le, D.ren, h3, hlt, qs, xle, xfz] <;> (try (intros; simp_all; done)) <;> (try omega)) (by simp [wkR, St.lp, zaa, getK, zac, zam, obR, leU, zbh, zaP, Ob.under, D.under, D.le, D.ren, h3, hlt, qs, xle, xfz] <;> (try (intros; simp_all; done)) <;> (try omega)) (by simp [h3, hlt, qs, xle, xfz])) ?_;have p13 := zdc T12 [112, 97, 121] b.pay;rw [Exp.row_eq] at p13;obtain ⟨T13, e13⟩ : ∃ T13, T13 = T12 ++ clauseT [112, 97, 121] b.pay := ⟨_, rfl⟩;have m13 : T13.length <= T12.length + 60000000 := by rw [e13, List.length_append]; have := zbN (w := [112, 97, 121]) (by decide) hrpay; omega
 rw [<- e13] at p13
 repeat' (first
  | ((first | refine zaf ?_ | refine zag ?_ | fail); simp [y22, z22, xfz])
  | fail)
 refine CallP.okE (p13 3 _ (by omega) (by first | omega | simp <;> omega | fail) hrpay (by simp; omega)) (by first | (simp [zaa, getK, zab, zac]; done) | fail) (by rfl) (by first | assumption | (simp; done) | fail) (by rfl) (by simp) ?_;rintro d o N hN ⟨rfl, j', h3, hlt, hge, rfl⟩;simp at hge;have q0 : ¬ j' = 0 := by omega
 have q1 : ¬ j' = 1 := by omega
 have q2 : ¬ j' = 2 := by omega
 have q3 : ¬ 0 = j' := by omega
 have q4 : ¬ 1 = j' := by omega
 have q5 : ¬ 2 = j' := by omega
 have qs := And.intro q0 <| And.intro q1 <| And.intro q2 <| And.intro q3 <| And.intro q4 q5
 simp [zc5, del];refine zaj ?_;simp only [zao];refine zcO { n := 118, env := [(1, .ptr 0 0), (4, .ptr 1 0), (5, .ptr 2 0), (7, .fnc (.func 57) [.ptr 2 0])], obs := [(0, .box CL), (2, zcc), (1, zde 3 T13), (3, zdd T13)], next := 4 } (Wk.ren ((fun x => if x = 3 then j' else x)) rfl (by first | (simp [hn]; done) | (intro i hi; rw [hn] at hi; constructor <;> (try simp) <;> (try (intro _)) <;> omega)) (by simp [zfZ, St.lp, zak, zaa, getK, zac, zam, D.under, D.le, D.ren, h3, hlt, qs, xle, xfz] <;> (try (intros; simp_all; done)) <;> (try omega)) (by simp [wkR, St.lp, zaa, getK, zac, zam, obR, leU, zbh, zaP, Ob.under, D.under, D.le, D.ren, h3, hlt, qs, xle, xfz] <;> (try (intros; simp_all; done)) <;> (try omega)) (by simp [h3, hlt, qs, xle, xfz])) ?_;have p14 := zdc T13 [99, 111, 118, 101, 114] b.cover;rw [Exp.row_eq] at p14;obtain ⟨T14, e14⟩ : ∃ T14, T14 = T13 ++ clauseT [99, 111, 118, 101, 114] b.cover := ⟨_, rfl⟩;have m14 : T14.length <= T13.length + 60000000 := by rw [e14, List.length_append]; have := zbN (w := [99, 111, 118, 101, 114]) (by decide) hrcover; omega
 rw [<- e14] at p14
 repeat' (first
  | ((first | refine zaf ?_ | refine zag ?_ | fail); simp [y27, z27, xfz])
  | fail)
 refine CallP.okE (p14 3 _ (by omega) (by first | omega | simp <;> omega | fail) hrcover (by simp; omega)) (by first | (simp [zaa, getK, zab, zac]; done) | fail) (by rfl) (by first | assumption | (simp; done) | fail) (by rfl) (by simp) ?_;rintro d o N hN ⟨rfl, j', h3, hlt, hge, rfl⟩;simp at hge;have q0 : ¬ j' = 0 := by omega
 have q1 : ¬ j' = 1 := by omega
 have q2 : ¬ j' = 2 := by omega
 have q3 : ¬ 0 = j' := by omega
 have q4 : ¬ 1 = j' := by omega
 have q5 : ¬ 2 = j' := by omega
 have qs := And.intro q0 <| And.intro q1 <| And.intro q2 <| And.intro q3 <| And.intro q4 q5
 simp [zc5, del];refine zaj ?_;simp only [zao];refine zcO { n := 118, env := [(1, .ptr 0 0), (4, .ptr 1 0), (5, .ptr 2 0), (7, .fnc (.func 57) [.ptr 2 0])], obs := [(0, .box CL), (2, zcc), (1, zde 3 T14), (3, zdd T14)], next := 4 } (Wk.ren ((fun x => if x = 3 then j' else x)) rfl (by first | (simp [hn]; done) | (intro i hi; rw [hn] at hi; constructor <;> (try simp) <;> (try (intro _)) <;> omega)) (by simp [zfZ, St.lp, zak, zaa, getK, zac, zam, D.under, D.le, D.ren, h3, hlt, qs, xle, xfz] <;> (try (intros; simp_all; done)) <;> (try omega)) (by simp [wkR, St.lp, zaa, getK, zac, zam, obR, leU, zbh, zaP, Ob.under, D.under, D.le, D.ren, h3, hlt, qs, xle, xfz] <;> (try (intros; simp_all; done)) <;> (try omega)) (by simp [h3, hlt, qs, xle, xfz])) ?_;have p15 := zdc T14 [104, 111, 108, 100] b.hold;rw [Exp.row_eq] at p15;obtain ⟨T15, e15⟩ : ∃ T15, T15 = T14 ++ clauseT [104, 111, 108, 100] b.hold := ⟨_, rfl⟩;have m15 : T15.length <= T14.length + 60000000 := by rw [e15, List.length_append]; have := zbN (w := [104, 111, 108, 100]) (by decide) hrhold; omega
 rw [<- e15] at p15
 repeat' (first
  | ((first | refine zaf ?_ | refine zag ?_ | fail); simp [y32, z32, xfz])
  | fail)
 refine CallP.okE (p15 3 _ (by omega) (by first | omega | simp <;> omega | fail) hrhold (by simp; omega)) (by first | (simp [zaa, getK, zab, zac]; done) | fail) (by rfl) (by first | assumption | (simp; done) | fail) (by rfl) (by simp) ?_;rintro d o N hN ⟨rfl, j', h3, hlt, hge, rfl⟩;simp at hge;have q0 : ¬ j' = 0 := by omega
 have q1 : ¬ j' = 1 := by omega
 have q2 : ¬ j' = 2 := by omega
 have q3 : ¬ 0 = j' := by omega
 have q4 : ¬ 1 = j' := by omega
 have q5 : ¬ 2 = j' := by omega
 have qs := And.intro q0 <| And.intro q1 <| And.intro q2 <| And.intro q3 <| And.intro q4 q5
 simp [zc5, del];refine zaj ?_;simp only [zao];refine zcO { n := 118, env := [(1, .ptr 0 0), (4, .ptr 1 0), (5, .ptr 2 0), (7, .fnc (.func 57) [.ptr 2 0])], obs := [(0, .box CL), (2, zcc), (1, zde 3 T15), (3, zdd T15)], next := 4 } (Wk.ren ((fun x => if x = 3 then j' else x)) rfl (by first | (simp [hn]; done) | (intro i hi; rw [hn] at hi; constructor <;> (try simp) <;> (try (intro _)) <;> omega)) (by simp [zfZ, St.lp, zak, zaa, getK, zac, zam, D.under, D.le, D.ren, h3, hlt, qs, xle, xfz] <;> (try (intros; simp_all; done)) <;> (try omega)) (by simp [wkR, St.lp, zaa, getK, zac, zam, obR, leU, zbh, zaP, Ob.under, D.under, D.le, D.ren, h3, hlt, qs, xle, xfz] <;> (try (intros; simp_all; done)) <;> (try omega)) (by simp [h3, hlt, qs, xle, xfz])) ?_;have hTT : TT = T15 := by
  rw [<- hT, textP, e15, e14, e13, e12, e11, eL, e9, e8, e7, e6, e5, e4, e3, e2, e1, e0]
 have n0 : 0 < T0.length := by rw [e0, zfC, zbM]; simp
 have hge : T0.length <= T15.length := by
  simp only [e15, e14, e13, e12, e11, eL, e9, e8, e7, e6, e5, e4, e3, e2, e1, List.length_append];omega
 have hne0 : T15 ≠ [] := fun h => by rw [h] at hge; simp at hge; rw [hge] at n0; simp at n0
 rw [hTT];have hst := fun nx (h : 4 <= nx) => zlb 1 3 nx (by omega) (by omega) (by decide) T15 hne0;have hft := zkP T15;by_cases hbig : 2000 < T15.length
 ·rw [if_pos hbig] at hft ⊢
  repeat' (first
  | ((first | refine zaf ?_ | refine zaj ?_ | refine zag ?_ | fail); simp [xfz])
  | (refine zap ?_; simp only [zao])
  | (refine CallP.fE (hft) (by first | rfl | fail) (by first | simp [xfz] <;> rfl | fail) ⟨by first | assumption | (simp; done) | fail, by simp, ?_⟩; (try simp [xfz]))
  | (refine CallP.okL (hst _ (by first | omega | simp <;> omega | fail)) (by first | (simp [xfz, zaa, getK, zab, zac, zam, zaL, del]; done) | fail) (by rfl) (by rfl) ⟨by first | assumption | (simp; done) | fail, by simp, ?_⟩; (try simp [xfz, zc5, del]))
  | fail)
  (refine EndW.here ?_; (first | (refine EndOK.fin (.inr rfl) ?_) | (refine EndOK.fin (.inl rfl) ?_)); simp [zay, zae, Tryz.results19]; refine FinOK.here (by simp) ?_; try simp)
 ·rw [if_neg hbig] at hft ⊢
  repeat' (first
  | ((first | refine zaf ?_ | refine zaj ?_ | refine zag ?_ | fail); simp [xfz])
  | (refine zap ?_; simp only [zao])
  | (refine CallP.fE (hft) (by first | rfl | fail) (by first | simp [xfz] <;> rfl | fail) ⟨by first | assumption | (simp; done) | fail, by simp, ?_⟩; (try simp [xfz]))
  | (refine CallP.okL (hst _ (by first | omega | simp <;> omega | fail)) (by first | (simp [xfz, zaa, getK, zab, zac, zam, zaL, del]; done) | fail) (by rfl) (by rfl) ⟨by first | assumption | (simp; done) | fail, by simp, ?_⟩; (try simp [xfz, zc5, del]))
  | fail)
  (refine EndW.here ?_; (first | (refine EndOK.fin (.inr rfl) ?_) | (refine EndOK.fin (.inl rfl) ?_)); simp [zay, zae, Tryz.results19]; refine FinOK.here (by simp) ?_; try simp)
theorem ziW (b : By) : Fun Tryz.prog 19 [.u (.agg (zaS b))] (· = .tup [.u (.str (printB b).1), .u (.int .i64 (printB b).2)]) := by
 cases hb : zcI b with
 | true =>
  unfold Fun;exact (zml b hb).ret (fun d o n h => by
   cases h;exact ⟨by simp [zaq], rfl⟩) (fun ch o n h => by cases h)
 | false =>
  have hri := zdu b;rw [hb] at hri;have hp : printB b = ([], 1) := by unfold printB; rw [if_neg (by simp [hb])]
  rw [hp];unfold zaS at hri ⊢
  (refine Fun.of_body Tryz.func19 rfl (by simp) fun Γ hn => ?_); simp only [entry, ziC, ziN, maC, maN, oA, Tryz.ntmps19]
  repeat' (first
  | ((first | refine zaf ?_ | refine zaj ?_ | refine zag ?_ | refine zai ?_ | fail); simp)
  | (refine zap ?_; simp only [zao])
  | (refine CallP.fE (hri) (by first | rfl | fail) (by first | (simp; done) | (simp; rfl) | fail) ?_; (try simp))
  | fail)
  (refine EndOK.val (.inr rfl) ?_; simp [zay, zae, zaq, Tryz.results19])
theorem zhT (e : Exp) : Fun Tryz.prog 22 [.u (.agg e.row)] (· = .tup [.u (.str (zfb e).1), .u (.int .i64 (zfb e).2)]) := by
 have h1 : Fun Tryz.prog 26 [.u (.agg e.row)] (· = .u (.bool (zax 12 e))) := by rw [Exp.row_eq]; exact zd0 e
 unfold zfb;cases hr : zax 12 e with
 | false =>
  rw [hr] at h1;rw [if_neg (by simp)];rw [Exp.row_eq] at *
  (refine Fun.of_body Tryz.func22 rfl (by simp) fun Γ hn => ?_); simp only [entry, ziC, ziN, maC, maN, oA, Tryz.ntmps22]
  repeat' (first
  | ((first | refine zaf ?_ | refine zaj ?_ | refine zag ?_ | refine zai ?_ | fail); simp)
  | (refine zap ?_; simp only [zao])
  | (refine CallP.fE (h1) (by first | rfl | fail) (by first | (simp; done) | (simp; rfl) | fail) ?_; (try simp))
  | fail)
  (refine EndOK.val (.inr rfl) ?_; simp [zay, zae, zaq, Tryz.results22])
 | true =>
  have h2 := zfa 12 (Nat.le_refl _) e hr 0;have hlen := zbf hr (Nat.le_refl _) 0;rw [hr] at h1;rw [if_pos rfl];rw [Exp.row_eq] at *;generalize txt e 0 = T at *;by_cases hl : 2000 < T.length
  ·have hl' : (2000 : Int) < T.length := by omega
   rw [if_pos hl]
   (refine Fun.of_body Tryz.func22 rfl (by simp) fun Γ hn => ?_); simp only [entry, ziC, ziN, maC, maN, oA, Tryz.ntmps22]
   repeat' (first
  | ((first | refine zaf ?_ | refine zaj ?_ | refine zag ?_ | refine zai ?_ | fail); simp [hl, hl'])
  | ((first | refine zap ?_ | refine zar ?_ | fail); simp only [zao])
  | (refine CallP.fE (h1) (by first | rfl | fail) (by first | simp [hl, hl'] <;> rfl | fail) ?_; (try simp [hl, hl']))
  | (refine CallP.fE (h2) (by first | rfl | fail) (by first | simp [hl, hl'] <;> rfl | fail) ?_; (try simp [hl, hl']))
  | fail)
   (refine EndOK.val (.inr rfl) ?_; simp [zay, zae, zaq, Tryz.results22])
  ·have hl' : ¬ (2000 : Int) < T.length := by omega
   rw [if_neg hl]
   (refine Fun.of_body Tryz.func22 rfl (by simp) fun Γ hn => ?_); simp only [entry, ziC, ziN, maC, maN, oA, Tryz.ntmps22]
   repeat' (first
  | ((first | refine zaf ?_ | refine zaj ?_ | refine zag ?_ | refine zai ?_ | fail); simp [hl, hl'])
  | ((first | refine zap ?_ | refine zar ?_ | fail); simp only [zao])
  | (refine CallP.fE (h1) (by first | rfl | fail) (by first | simp [hl, hl'] <;> rfl | fail) ?_; (try simp [hl, hl']))
  | (refine CallP.fE (h2) (by first | rfl | fail) (by first | simp [hl, hl'] <;> rfl | fail) ?_; (try simp [hl, hl']))
  | fail)
   (refine EndOK.val (.inr rfl) ?_; simp [zay, zae, zaq, Tryz.results22])
theorem zc7 (w : W8) (n : Int) (ws : List W8) (bh : W8) (h0 : 0 <= n) (h1 : n <= 1099511627776) (hb : zbw (w :: Lib.itoa n :: ws) = w ++ ([32] ++ (Lib.itoa n ++ bh))) (hw : w.length + bh.length <= 1000) :
  Fun Tryz.prog 63 [.u (.str w), .u (.int .i64 n), .u (.str bh)] (· = .u (.str (zbn w n ws))) := by
 have hd := zgS n h0 h1;have hl := zd7 h0 h1;rw [zbn];by_cases hz : n = 0
 ·rw [if_pos hz]
  (refine Fun.of_body Tryz.func63 rfl (by simp) fun Γ hn => ?_); simp only [entry, ziC, ziN, maC, maN, oA, Tryz.ntmps63]
  repeat' (first
  | ((first | refine zaf ?_ | refine zaj ?_ | refine zag ?_ | refine zai ?_ | fail); simp [hz])
  | (refine zap ?_; simp only [zao])
  | fail)
  (refine EndOK.val (.inr rfl) ?_; simp [zay, zae, zaq, Tryz.results63])
 ·rw [if_neg hz, zbM, hb];generalize Lib.itoa n = T at *
  (refine Fun.of_body Tryz.func63 rfl (by simp) fun Γ hn => ?_); simp only [entry, ziC, ziN, maC, maN, oA, Tryz.ntmps63]
  repeat' (first
  | ((first | refine zaf ?_ | refine zaj ?_ | fail); simp [hz])
  | (refine ⟨by omega, ?_⟩)
  | ((first | refine zag ?_ | refine zai ?_ | fail); simp [hz])
  | ((first | refine zap ?_ | refine zar ?_ | fail); simp only [zao])
  | (refine CallP.fE (hd) (by first | rfl | fail) (by first | simp [hz] <;> rfl | fail) ?_; (try simp [hz]))
  | fail)
  (refine EndOK.val (.inr rfl) ?_; simp [zay, zae, zaq, Tryz.results63])
theorem zei (w : W8) (e : Exp) (he : zax 12 e = true) (hw : w.length <= 100) : Fun Tryz.prog 65 [.u (.str w), .u (.agg e.row)] (· = .u (.str (clauseT w e))) := by
 have hsm : zfP e nothingE := zbX e nothingE;unfold zfP at hsm;have hno := ziO;have hsh := zfa 12 (Nat.le_refl _) e he 0;have htl := zbf he (Nat.le_refl _) 0;have hlt : zbM [w, txt e 0] = w ++ [32] ++ txt e 0 ++ [32, 59, 10] := by rw [zbM, zaz, zaI]
 rw [clauseT];rw [show nothingE.row = [.int .i64 0, .int .i64 0, .int .i64 3, .str [], .sl []] by simp [nothingE, Exp.row]] at hsm hno;rw [Exp.row_eq e] at *;generalize eqB e nothingE = E at *;by_cases hc1 : E = true /\ w ≠ [100, 117, 101]
 ·rw [if_pos hc1];obtain ⟨rfl, hw1⟩ := hc1
  (refine Fun.of_body Tryz.func65 rfl (by simp) fun Γ hn => ?_); simp only [entry, ziC, ziN, maC, maN, oA, Tryz.ntmps65]
  repeat' (first
  | ((first | refine zaf ?_ | refine zaR rfl ?_ | refine zcR rfl ?_ | refine zaj ?_ | refine zag ?_ | refine zai ?_ | fail); simp [hw1])
  | (refine zaX (hC _ (by kernel_rfl)) (hk _ ?_); clear hC hk C k; simp only [zao])
  | (refine za2 rfl (by kernel_rfl) (by first | (simp [hn]; done) | (simp [hn]; omega) | fail) fun C k hC hk => ?_; simp [hw1])
  | (refine zbV rfl (by simp [hw1]) (fun hc => ?_) (fun hc => ?_) <;> (try simp [hw1] at hc) <;> (try (exfalso; omega)) <;> (try simp [hw1]))
  | (refine zap ?_; simp only [zao])
  | (refine CallV.fun_ (hno) (by first | rfl | fail) (by first | simp [hw1] <;> rfl | fail) ?_ <;> (try simp [hw1]))
  | (refine CallV.fun_ (hsm) (by first | rfl | fail) (by first | simp [hw1] <;> rfl | fail) ?_ <;> (try simp [hw1]))
  | fail)
  (refine EndOK.val (.inr rfl) ?_; simp [zay, zae, zaq, Tryz.results65])
 ·rw [if_neg hc1, hlt];generalize txt e 0 = T0 at *;cases E with
  | false =>
   (refine Fun.of_body Tryz.func65 rfl (by simp) fun Γ hn => ?_); simp only [entry, ziC, ziN, maC, maN, oA, Tryz.ntmps65]
   repeat' (first
  | ((first | refine zaf ?_ | refine zaR rfl ?_ | refine zaj ?_ | fail); simp)
  | (refine ⟨by omega, ?_⟩)
  | ((first | refine zag ?_ | refine zai ?_ | fail); simp)
  | (refine zaX (hC _ (by kernel_rfl)) (hk _ ?_); clear hC hk C k; simp only [zao])
  | (refine za2 rfl (by kernel_rfl) (by first | (simp [hn]; done) | (simp [hn]; omega) | fail) fun C k hC hk => ?_; simp)
  | (refine zbV rfl (by simp) (fun hc => ?_) (fun hc => ?_) <;> (try simp at hc) <;> (try (exfalso; omega)) <;> (try simp))
  | ((first | refine zap ?_ | refine zar ?_ | fail); simp only [zao])
  | (refine CallV.fun_ (hno) (by first | rfl | fail) (by first | (simp; done) | (simp; rfl) | fail) ?_ <;> (try simp))
  | (refine CallV.fun_ (hsm) (by first | rfl | fail) (by first | (simp; done) | (simp; rfl) | fail) ?_ <;> (try simp))
  | (refine CallP.fE (hsh) (by first | rfl | fail) (by first | (simp; done) | (simp; rfl) | fail) ?_; (try simp))
  | fail)
   (refine EndOK.val (.inr rfl) ?_; simp [zay, zae, zaq, Tryz.results65])
  | true =>
   obtain rfl : w = [100, 117, 101] := Classical.byContradiction fun h => hc1 ⟨rfl, h⟩
   (refine Fun.of_body Tryz.func65 rfl (by simp) fun Γ hn => ?_); simp only [entry, ziC, ziN, maC, maN, oA, Tryz.ntmps65]
   repeat' (first
  | ((first | refine zaf ?_ | refine zaR rfl ?_ | refine zcR rfl ?_ | refine zaj ?_ | fail); simp)
  | (refine ⟨by omega, ?_⟩)
  | ((first | refine zag ?_ | refine zai ?_ | fail); simp)
  | (refine zaX (hC _ (by kernel_rfl)) (hk _ ?_); clear hC hk C k; simp only [zao])
  | (refine za2 rfl (by kernel_rfl) (by first | (simp [hn]; done) | (simp [hn]; omega) | fail) fun C k hC hk => ?_; simp)
  | (refine zbV rfl (by simp) (fun hc => ?_) (fun hc => ?_) <;> (try simp at hc) <;> (try (exfalso; omega)) <;> (try simp))
  | ((first | refine zap ?_ | refine zar ?_ | fail); simp only [zao])
  | (refine CallV.fun_ (hno) (by first | rfl | fail) (by first | (simp; done) | (simp; rfl) | fail) ?_ <;> (try simp))
  | (refine CallV.fun_ (hsm) (by first | rfl | fail) (by first | (simp; done) | (simp; rfl) | fail) ?_ <;> (try simp))
  | (refine CallP.fE (hsh) (by first | rfl | fail) (by first | (simp; done) | (simp; rfl) | fail) ?_; (try simp))
  | fail)
   (refine EndOK.val (.inr rfl) ?_; simp [zay, zae, zaq, Tryz.results65])
theorem zot (i j q nx : Nat) (hi : i < nx) (hj : j < nx) (hq : q < nx) (hij : i ≠ j) (hiq : i ≠ q) (hjq : j ≠ q) (p e : Int) (cells : List U) :
  RetDf Tryz.prog 35 [.ptr i 0, .ptr j 0, .ptr q 0] [(i, .box [.u (.int .i64 p)]), (j, .box [.u (.int .i64 e)]), (q, .box (cells.map .u))] nx .returning
   (fun u o n => settle u = .returning /\ n = nx /\ o = [(i, .box [.u (.int .i64 p)]), (j, .box [.u (.int .i64 e)]), (q, .box (cells.map .u))]) := by
 have hne := zaE hi;have hne2 := zaE hj;have hne3 := zaE hq;have hc0 := zgV i j nx hi hj hij p e;refine RetDf.of_body Tryz.func35 rfl (by simp) (by simp) rfl fun Γ hn => ?_;simp [entry, zjV, Tryz.ntmps35];refine CallP.x2 hc0 (by simp [getK]) (by simp [getK, hij, Ne.symm hij]) hij rfl rfl (by simp) (by simp) (fun d o1 nx' hnx h => ?_) (fun ch o1 nx' hnx h => by cases h.1);obtain ⟨h1, rfl, h4⟩ := h;have h4 := h4.symm;subst h4;cases h1;simp [del, hij, Ne.symm hij, hiq, hjq, Ne.symm hiq, Ne.symm hjq]
 repeat' (first
  | (refine zai ?_; simp [hij, hiq, hjq])
  | (refine zar ?_; simp only [zao])
  | fail)
 (refine ⟨by simp, { n := _, env := [], obs := [(i, .box [.u (.int .i64 p)]), (j, .box [.u (.int .i64 e)]), (q, .box (cells.map .u))], next := nx }, (Wk.cut rfl (by simp [hn]) (by simp [wkO, zaa, getK, zab, zac, Ob.under, D.under, zad, zah, hi, hj, hq, hne, hne2, hne3, hij, hiq, hjq, Ne.symm hij, Ne.symm hiq, Ne.symm hjq]) (by simp [wkU, zak, zaa, getK, D.under, hi, hj, hq, hne, hne2, hne3, hij, hiq, hjq, Ne.symm hij, Ne.symm hiq, Ne.symm hjq]) (by simp [wkE, zak, zaa, getK, hi, hj, hq, hne, hne2, hne3, hij, hiq, hjq, Ne.symm hij, Ne.symm hiq, Ne.symm hjq])), by simp [hn], ?_⟩; try simp)
 all_goals rfl
theorem zou (i j q nx : Nat) (hi : i < nx) (hj : j < nx) (hq : q < nx) (hij : i ≠ j) (hiq : i ≠ q) (hjq : j ≠ q) (p e pos err : Int) :
  RetDf Tryz.prog 35 [.ptr i 0, .ptr j 0, .ptr q 0] [(i, .box [.u (.int .i64 p)]), (j, .box [.u (.int .i64 e)]), (q, zoo)] nx (.panicking (chP pos err))
   (fun u o n => settle u = .returning /\ n = nx /\ o = [(i, .box [.u (.int .i64 pos)]), (j, .box [.u (.int .i64 err)]), (q, zoo)]) := by
 have hne := zaE hi;have hne2 := zaE hj;have hne3 := zaE hq;have hc0 := zgU i j nx hi hj hij p e pos err;refine RetDf.of_body Tryz.func35 rfl (by simp) (by simp) rfl fun Γ hn => ?_;simp [entry, zjV, chP, Tryz.ntmps35];refine CallP.x2 hc0 (by simp [getK]) (by simp [getK, hij, Ne.symm hij]) hij rfl rfl (by simp) (by simp) (fun d o1 nx' hnx h => ?_) (fun ch o1 nx' hnx h => by cases h.1);obtain ⟨h1, rfl, h4⟩ := h;have h4 := h4.symm;subst h4;cases h1;simp [del, hij, Ne.symm hij, hiq, hjq, Ne.symm hiq, Ne.symm hjq]
 repeat' (first
  | ((first | refine zaf ?_ | refine zaj ?_ | refine zai ?_ | refine zat ?_ | fail); simp [hij, hiq, hjq])
  | fail)
 (refine ⟨by simp, { n := _, env := [], obs := [(i, .box [.u (.int .i64 pos)]), (j, .box [.u (.int .i64 err)]), (q, zoo)], next := nx }, (Wk.cut rfl (by simp [hn]) (by simp [wkO, zaa, getK, zab, zac, Ob.under, D.under, zad, zah, hi, hj, hq, hne, hne2, hne3, hij, hiq, hjq, Ne.symm hij, Ne.symm hiq, Ne.symm hjq]) (by simp [wkU, zak, zaa, getK, D.under, hi, hj, hq, hne, hne2, hne3, hij, hiq, hjq, Ne.symm hij, Ne.symm hiq, Ne.symm hjq]) (by simp [wkE, zak, zaa, getK, hi, hj, hq, hne, hne2, hne3, hij, hiq, hjq, Ne.symm hij, Ne.symm hiq, Ne.symm hjq])), by simp [hn], ?_⟩; try simp)
 all_goals rfl
theorem zmp (s : W8) : RetX Tryz.prog 10 [.u (.str s)] [] 0 (fun r o n => r = .val (zp0 (zgy s))) := by
 skip
 unfold zgy;cases hlx : zkA s with
 | error pe =>
  obtain ⟨p, e⟩ := pe;have ho := fun nx => zku s p e nx hlx;have he := (zkz hlx).1;simp only
  (refine RetX.zdp Tryz.func10 rfl (by simp) fun Γ hn hdfr hpan hesc => ?_); simp only [entry, ziC, ziN, maC, maN, oA, Tryz.ntmps10]
  repeat' (first
  | ((first | refine zaf ?_ | refine zaR rfl ?_ | refine zcb rfl ?_ | refine zaj ?_ | refine zag ?_ | refine zai ?_ | fail); simp [he])
  | (refine zaX (hC _ (by kernel_rfl)) (hk _ ?_); clear hC hk C k; simp only [zao])
  | (refine za2 rfl (by kernel_rfl) (by first | (simp [hn]; done) | (simp [hn]; omega) | fail) fun C k hC hk => ?_; simp [he])
  | (refine zap ?_; simp only [zao])
  | (refine CallP.okL (ho _) (by first | (simp [he, zaa, getK, zab, zac, zam, zaL, del]; done) | fail) (by rfl) (by rfl) ?_; (try simp [he, zc5, del]))
  | fail)
  refine EndW.norm ?_;simp [St.norm, zbi, zb2, zcq, zcr]
  (refine EndW.here ?_; (first | (refine EndOK.fin (.inr rfl) ?_) | (refine EndOK.fin (.inl rfl) ?_)); simp [zay, zae, Tryz.results10]; refine FinOK.here (by simp) ?_; try simp)
  simp [zp0, zaS, zeP, zdN, Exp.op, Exp.n, Exp.unit, Exp.s, Exp.args]
 | ok l =>
  obtain ⟨hl, hl2, hl0⟩ := zmL hlx;have ho := fun nx => zmv s l nx hlx;have hE := zlY l hl0 hl hl2;simp only;cases hr : zph l with
  | stop pos e =>
   simp only [hr] at hE ⊢
   (refine RetX.zdp Tryz.func10 rfl (by simp) fun Γ hn hdfr hpan hesc => ?_); simp only [entry, ziC, ziN, maC, maN, oA, Tryz.ntmps10]
   rw [zdr]
   repeat' (first
  | ((first | refine zaf ?_ | refine zaj ?_ | refine zag ?_ | refine zai ?_ | fail); simp)
  | (refine zar ?_; simp only [zao])
  | (refine CallP.okL (ho _) (by first | (simp [zaa, getK, zab, zac, zam, zaL, del]; done) | fail) (by rfl) (by rfl) ?_; (try simp [zc5, del]))
  | fail)
   refine zfN hesc hdfr rfl (by simp) ?_;have hn0 := hn;have hpan0 := hpan;intro Γ' hn hpan;simp
   repeat' (first
  | ((first | refine zaf ?_ | refine zag ?_ | fail); simp)
  | (refine CallP.zeg (hE) (by first | (simp [zaa, getK, zab, zac]; done) | fail) (by rfl) (by first | assumption | (simp; done) | fail) (by rfl) (by simp) ?_; rintro ob' ⟨q', rfl⟩; refine ⟨_, Wk.refl _, ?_⟩)
  | fail)
   refine hpan _ _ ?_;refine LeaveD.of [(1, .box [.u (.int .i64 0)]), (2, .box [.u (.int .i64 0)]), (0, zoo)] (by simp [zaa, getK, zab, zac]) (zou 1 2 0 _ (by simp) (by simp) (by simp) (by decide) (by decide) (by decide) 0 0 _ _) ?_;simp only [show Γ.base.n0 = 0 from hn0];simp [zc5, del];refine EndW.norm ?_;simp [St.norm, zbi, zb2, zcq, zcr]
   (refine EndW.here ?_; (first | (refine EndOK.fin (.inr rfl) ?_) | (refine EndOK.fin (.inl rfl) ?_)); simp [zay, zae, Tryz.results10]; refine FinOK.here (by simp) ?_; try simp)
   simp [zp0, zaS, zeP, zdN, Exp.op, Exp.n, Exp.unit, Exp.s, Exp.args]
  | ok b q =>
   have hEx : RetX Tryz.prog 37 [.ptr 3 0] [(3, pOb l 0)] 4 (fun r o n => r = .val (.u (.agg (zaS b))) /\ o = [(3, pOb l q)] /\ n = 4) := by
    rw [hr] at hE;exact hE
   unfold zaS at hEx
   (refine RetX.zdp Tryz.func10 rfl (by simp) fun Γ hn hdfr hpan hesc => ?_); simp only [entry, ziC, ziN, maC, maN, oA, Tryz.ntmps10]
   rw [zdr]
   repeat' (first
  | ((first | refine zaf ?_ | refine zaj ?_ | refine zag ?_ | refine zai ?_ | fail); simp)
  | (refine zar ?_; simp only [zao])
  | (refine CallP.okL (ho _) (by first | (simp [zaa, getK, zab, zac, zam, zaL, del]; done) | fail) (by rfl) (by rfl) ?_; (try simp [zc5, del]))
  | fail)
   refine zfN hesc hdfr rfl (by simp) ?_;have hn0 := hn;have hpan0 := hpan;intro Γ' hn hpan;simp
   repeat' (first
  | ((first | refine zaf ?_ | refine zaj ?_ | refine zag ?_ | fail); simp [del])
  | (refine zap ?_; simp only [zao])
  | (refine CallP.ok1 (hEx) (by first | (simp [del, zaa, getK, zab, zac]; done) | fail) (by rfl) (by rfl) ?_; (try simp [del]))
  | fail)
   refine ⟨rfl, ?_⟩;refine LeaveD.of [(1, .box [.u (.int .i64 0)]), (2, .box [.u (.int .i64 0)]), (0, .box ((zaS b).map .u))] (by simp [zaa, getK, zab, zac, zaS]) (zot 1 2 0 _ (by simp) (by simp) (by simp) (by decide) (by decide) (by decide) 0 0 _) ?_;simp only [show Γ.base.n0 = 0 from hn0];simp [zc5, del, zaS]
   (refine EndW.here ?_; (first | (refine EndOK.fin (.inr rfl) ?_) | (refine EndOK.fin (.inl rfl) ?_)); simp [zay, zae, Tryz.results10]; refine FinOK.here (by simp) ?_; try simp)
   simp [zp0, zaS]
theorem zmq (s : W8) : Fun Tryz.prog 10 [.u (.str s)] (· = .tup [byD (zgy s).1, .u (.int .i64 (zgy s).2.1), .u (.int .i64 (zgy s).2.2)]) := by
 unfold Fun;exact (zmp s).ret (fun d o n h => by
  cases h;exact ⟨by simp [zp0, zaq], rfl⟩) (fun ch o n h => by cases h)
theorem zh0 {s : W8} {b : By} {p e : Int} (h : zhl s = (b, p, e)) : Fun Tryz.prog 10 [.u (.str s)] (· = .tup [byD b, .u (.int .i64 p), .u (.int .i64 e)]) := by
 have h1 := zmq s;rw [zms, h] at h1;exact h1
theorem zi9 {s : W8} {b : Exp} {p e : Int} (h : zi6 s = (b, p, e)) : Fun Tryz.prog 12 [.u (.str s)] (· = .tup [ze2 b, .u (.int .i64 p), .u (.int .i64 e)]) := by
 have h1 := zi8 s;rw [zmr, h] at h1;exact h1
theorem ziX {e : Exp} {s : W8} (h : zax 12 e = true) (ht : txt e 0 = s) (hs : s.length <= 2000) : Fun Tryz.prog 21 [.u (.agg e.row)] (· = .tup [.u (.str s), .u (.int .i64 0)]) := by
 have h1 := zfS e;rw [show zfb e = (s, 0) by unfold zfb; rw [if_pos h, ht, if_neg (by omega)]] at h1;exact h1
theorem dM : zex 9 (.agg [.int .i64 4, .int .i64 0, .int .i64 0, .str [], .sl [[.int .i64 0, .int .i64 3, .int .i64 1, .str [], .nil], [.int .i64 2, .int .i64 0, .int .i64 0, .str [], .sl [[.int .i64 0, .int .i64 5, .int .i64 3, .str [], .nil], [.int .i64 1, .int .i64 0, .int .i64 0, .str [112, 111, 116], .nil]]]]]) = .agg eM.row := by simp [zex, Exp.row_eq, eM, eS, Exp.op, Exp.n, Exp.unit, Exp.s, Exp.args]
theorem dS : zex 9 (.agg [.int .i64 2, .int .i64 0, .int .i64 0, .str [], .sl [[.int .i64 0, .int .i64 5, .int .i64 3, .str [], .nil], [.int .i64 1, .int .i64 0, .int .i64 0, .str [112, 111, 116], .nil]]]) = .agg eS.row := by simp [zex, Exp.row_eq, eM, eS, Exp.op, Exp.n, Exp.unit, Exp.s, Exp.args]
theorem dZ : zex 9 (.agg [.int .i64 1, .int .i64 0, .int .i64 0, .str [], .nil]) = .agg (Exp.mk 1 0 0 [] []).row := by simp [zex, Exp.row_eq, eM, eS, Exp.op, Exp.n, Exp.unit, Exp.s, Exp.args]
theorem zme : Fun Tryz.prog 9 [] (· = .u (.bool true)) := by
 have h1 := zi9 pv1;have h2 := ziX rA tA (by decide);have h3 : Fun Tryz.prog 21 ([.agg [.int .i64 4, .int .i64 0, .int .i64 0, .str [], .sl [[.int .i64 0, .int .i64 3, .int .i64 1, .str [], .nil], [.int .i64 2, .int .i64 0, .int .i64 0, .str [], .sl [[.int .i64 0, .int .i64 5, .int .i64 3, .str [], .nil], [.int .i64 1, .int .i64 0, .int .i64 0, .str [112, 111, 116], .nil]]]]]].map .u) (· = .tup [.u (.str [51, 32, 42, 32, 40, 32, 53, 32, 99, 111, 105, 110, 115, 32, 43, 32, 112, 111, 116, 32, 41]), .u (.int .i64 0)]) := Fun.zqc 9 (by simp only [List.map_cons, List.map_nil, dM]; exact ziX rM tM (by decide));have h4 := zh0 pv3;have h5 : Fun Tryz.prog 19 [.u (.agg (zaS bB))] (· = .tup [.u (.str [99, 105, 114, 99, 108, 101, 32, 115, 97, 118, 105, 110, 103, 32, 59, 10, 112, 101, 114, 105, 111, 100, 32, 55, 32, 100, 97, 121, 115, 32, 59, 10, 108, 97, 115, 116, 32, 49, 48, 32, 59, 10, 100, 117, 101, 32, 49, 48, 48, 32, 99, 111, 105, 110, 115, 32, 59, 10]), .u (.int .i64 0)]) := by
  have h := ziW bB;have e : textP bB = [99, 105, 114, 99, 108, 101, 32, 115, 97, 118, 105, 110, 103, 32, 59, 10, 112, 101, 114, 105, 111, 100, 32, 55, 32, 100, 97, 121, 115, 32, 59, 10, 108, 97, 115, 116, 32, 49, 48, 32, 59, 10, 100, 117, 101, 32, 49, 48, 48, 32, 99, 111, 105, 110, 115, 32, 59, 10] := tB;rw [show printB bB = ([99, 105, 114, 99, 108, 101, 32, 115, 97, 118, 105, 110, 103, 32, 59, 10, 112, 101, 114, 105, 111, 100, 32, 55, 32, 100, 97, 121, 115, 32, 59, 10, 108, 97, 115, 116, 32, 49, 48, 32, 59, 10, 100, 117, 101, 32, 49, 48, 48, 32, 99, 111, 105, 110, 115, 32, 59, 10], 0) by unfold printB; rw [if_pos rB, e, if_neg (by decide)]] at h;exact h
 have h6 := zh0 pv4;have h7 := zh0 pv5;have h8 := zi9 pv2;have h9 := zdu bB;rw [rB] at h9;have h10 : Fun Tryz.prog 23 ([.agg [.int .i64 0, .int .i64 0, .int .i64 0, .int .i64 0, .int .i64 0, .int .i64 0, .bool false, .int .i64 0, .int .i64 0, .int .i64 0, .int .i64 0, .nil, .int .i64 0, .int .i64 0, .int .i64 0, .str [], .nil, .int .i64 0, .int .i64 0, .int .i64 0, .str [], .nil, .int .i64 0, .int .i64 0, .int .i64 0, .str [], .nil, .int .i64 0, .int .i64 0, .int .i64 0, .str [], .nil, .int .i64 0, .int .i64 0, .int .i64 0, .str [], .nil]].map .u) (· = .u (.bool false)) := Fun.zqc 9 (by have h := zdu zeP; rw [rz] at h; exact h);have h11 : Fun Tryz.prog 25 ([.agg [.int .i64 2, .int .i64 0, .int .i64 0, .str [], .sl [[.int .i64 0, .int .i64 5, .int .i64 3, .str [], .nil], [.int .i64 1, .int .i64 0, .int .i64 0, .str [112, 111, 116], .nil]]]].map .u) (· = .u (.bool true)) := Fun.zqc 9 (by have h := zc8 eS; rw [rS, ze2, <- Exp.row_eq] at h; simp only [List.map_cons, List.map_nil, dS]; exact h);have h12 : Fun Tryz.prog 25 ([.agg [.int .i64 1, .int .i64 0, .int .i64 0, .str [], .nil]].map .u) (· = .u (.bool false)) := Fun.zqc 9 (by have h := zc8 (.mk 1 0 0 [] []); rw [rZ, ze2, <- Exp.row_eq] at h; simp only [List.map_cons, List.map_nil, dZ]; exact h);have h13 := zeD [112, 101, 114, 105, 111, 100];rw [nP] at h13;have h14 := zeD [99, 111, 105, 110, 115];rw [nC] at h14;have h15 := ziK bB;have h16 : Fun Tryz.prog 28 ([.agg [.int .i64 2, .int .i64 0, .int .i64 0, .str [], .sl [[.int .i64 0, .int .i64 5, .int .i64 3, .str [], .nil], [.int .i64 1, .int .i64 0, .int .i64 0, .str [112, 111, 116], .nil]]], .agg [.int .i64 2, .int .i64 0, .int .i64 0, .str [], .sl [[.int .i64 0, .int .i64 5, .int .i64 3, .str [], .nil], [.int .i64 1, .int .i64 0, .int .i64 0, .str [112, 111, 116], .nil]]]].map .u) (· = .u (.bool true)) := Fun.zqc 9 (by have h := zbg eS eS; rw [zcP, zbB] at h; simp only [List.map_cons, List.map_nil, dS]; exact h);rw [Exp.row_eq] at h2;simp only [ze2, byD, zaS, List.map_cons, List.map_nil] at h1 h3 h4 h6 h7 h8 h10 h11 h12 h15 h16 h5 h9;generalize eA = e1 at *;generalize bB = b1 at *
 (refine Fun.of_bodyW Tryz.func9 rfl (by simp) fun Γ hn => ?_); simp only [entry, ziC, ziN, maC, maN, oA, Tryz.ntmps9]
 repeat' (first
  | ((first | refine zaf ?_ | refine zaj ?_ | refine zag ?_ | fail); simp)
  | (refine CallP.fE (h1) (by first | rfl | fail) (by first | (simp; done) | (simp; rfl) | fail) ?_; (try simp))
  | (refine CallP.fE (h2) (by first | rfl | fail) (by first | (simp; done) | (simp; rfl) | fail) ?_; (try simp))
  | fail)
 refine zix (Wk.frzN 1 _) ?_;simp [frzN, frz1, zaC, zaB, St.frz, St.frzS, frzS, fv, zaJ, za6, zba, zaG, zav, zan, del, frz, zbb];refine zix (Wk.frzN 1 _) ?_;simp [frzN, frz1, zaC, zaB, St.frz, St.frzS, frzS, fv, zaJ, za6, zba, zaG, zav, zan, del, frz, zbb]
 repeat' (first
  | ((first | refine zaf ?_ | refine zaj ?_ | refine zag ?_ | fail); simp)
  | (refine zap ?_; simp only [zao])
  | (refine CallP.fE (h3) (by first | rfl | fail) (by first | (simp; done) | (simp; rfl) | fail) ?_; (try simp))
  | (refine CallP.fE (h4) (by first | rfl | fail) (by first | (simp; done) | (simp; rfl) | fail) ?_; (try simp))
  | (refine CallP.fE (h5) (by first | rfl | fail) (by first | (simp; done) | (simp; rfl) | fail) ?_; (try simp))
  | (refine CallP.fE (h6) (by first | rfl | fail) (by first | (simp; done) | (simp; rfl) | fail) ?_; (try simp))
  | (refine CallP.fE (h7) (by first | rfl | fail) (by first | (simp; done) | (simp; rfl) | fail) ?_; (try simp))
  | (refine CallP.fE (h8) (by first | rfl | fail) (by first | (simp; done) | (simp; rfl) | fail) ?_; (try simp))
  | (refine CallP.fE (h9) (by first | rfl | fail) (by first | (simp; done) | (simp; rfl) | fail) ?_; (try simp))
  | (refine CallP.fE (h10) (by first | rfl | fail) (by first | (simp; done) | (simp; rfl) | fail) ?_; (try simp))
  | (refine CallP.fE (h11) (by first | rfl | fail) (by first | (simp; done) | (simp; rfl) | fail) ?_; (try simp))
  | (refine CallP.fE (h12) (by first | rfl | fail) (by first | (simp; done) | (simp; rfl) | fail) ?_; (try simp))
  | (refine CallP.fE (h13) (by first | rfl | fail) (by first | (simp; done) | (simp; rfl) | fail) ?_; (try simp))
  | (refine CallP.fE (h14) (by first | rfl | fail) (by first | (simp; done) | (simp; rfl) | fail) ?_; (try simp))
  | (refine CallP.fE (h15) (by first | rfl | fail) (by first | (simp; done) | (simp; rfl) | fail) ?_; (try simp))
  | (refine CallP.fE (h16) (by first | rfl | fail) (by first | (simp; done) | (simp; rfl) | fail) ?_; (try simp))
  | fail)
 refine EndW.here ?_
 (refine EndOK.val (.inr rfl) ?_; simp [zay, zae, zaq, Tryz.results9])
end Go.Proofs.YthnemhfamhnfjaaGreatDoor
namespace Go.Proofs.YthnemhfamhnfjaaGreatDoor
open Go Go.VL
attribute [local simp] zc2 zb3 evPure opd uOf zaF St.put St.at getK binD binI binS binB nilD aggD zgQ zha lookD lookR zcu Go.VL.nextD zcx zhu zhc zf2 zcw mkV zdj zbk zbu mapEff zdY zfQ Key.kk shiftI arith unD convD zdH loadD cellsAt fieldAddrD fieldD indexAddrD indexD sliceD cutD lenD minmaxD nilCheckD buildD fillD zbP zdb zeC setAll zcK zeO zco zg0 zcm St.add zaO zbF rowsOf zdA zcH zam zac zaa za7 zcC zaQ entry zbE zbO valD zb4 zcy zgh zdh zdi zbT zbK zaw zaW zbo delAll effD St.effS zcU za8 zaY zcV za9 za0 zb9 zaZ zaT zca zcS zbD zb8 zbl zb6 zb7 zaL mkD zbL zbv zbJ zaw zcn D.ids Op.operands Call.operands zby makeIfD makeFuncD typeAssertD zg9 zdw zdx zg1 zcv IntKind.bits zcN List.take_of_length_le List.range_succ
attribute [local irreducible] V G H HD HD2 zao Eff CallP CallV EndOK Fun Ret FinOK LoopI LoopW EndW
set_option maxHeartbeats 40000000 in
theorem ziM (b : By) (hb : zcI b = true) : Fun Tryz.prog 20 [.u (.agg (zaS b))] (· = .tup [.u (.str (printB b).1), .u (.int .i64 (printB b).2)]) := by
 have hri := zeh b;rw [hb] at hri;have hh := hb;simp only [zcI, zlM, znb, Bool.and_eq_true, decide_eq_true_eq] at hh;obtain ⟨⟨⟨⟨⟨⟨⟨⟨i1, i2⟩, i3⟩, i4⟩, i5⟩, hsl⟩, hLn⟩, hLb⟩, ⟨⟨⟨hrdue, hrfine⟩, hrpay⟩, hrcover⟩, hrhold⟩ := hh;have hLs := zgJ [] b.lets hLb;simp only [inB, List.any_cons, List.any_nil, Bool.or_false, Bool.not_eq_true', Bool.or_eq_false_iff, decide_eq_false_iff_not, Int.not_lt] at i1 i2 i3 i4 i5;have hprB : printB b = if 2000 < (textP b).length then ([], 6) else (textP b, 0) := by unfold printB; rw [if_pos hb]
 rw [hprB];generalize hT : textP b = TT;clear hLb hprB;obtain ⟨T0, e0⟩ : ∃ T0, T0 = zfC b := ⟨_, rfl⟩;have m0 : T0.length <= 100 := by
  rw [e0, zfC, zbM];split
  ·decide
  ·split
   ·decide
   ·split <;> decide
 obtain ⟨CL, hCL⟩ : ∃ CL : List D, CL = [.u (.int .i64 b.kind), .u (.int .i64 b.period), .u (.int .i64 b.grace), .u (.int .i64 b.wait), .u (.int .i64 b.last), .u (.int .i64 b.order), .u (.bool b.sld), .u (.int .i64 b.backs), .u (.int .i64 b.voices), .u (.int .i64 b.jury), .u (.int .i64 b.fund), .u (.sl (b.lets.map fun l => [.str l.name, .int .i64 l.body.op, .int .i64 l.body.n, .int .i64 l.body.unit, .str l.body.s, .sl (l.body.args.map Exp.row)])), .u (.int .i64 b.due.op), .u (.int .i64 b.due.n), .u (.int .i64 b.due.unit), .u (.str b.due.s), .u (.sl (b.due.args.map Exp.row)), .u (.int .i64 b.fine.op), .u (.int .i64 b.fine.n), .u (.int .i64 b.fine.unit), .u (.str b.fine.s), .u (.sl (b.fine.args.map Exp.row)), .u (.int .i64 b.pay.op), .u (.int .i64 b.pay.n), .u (.int .i64 b.pay.unit), .u (.str b.pay.s), .u (.sl (b.pay.args.map Exp.row)), .u (.int .i64 b.cover.op), .u (.int .i64 b.cover.n), .u (.int .i64 b.cover.unit), .u (.str b.cover.s), .u (.sl (b.cover.args.map Exp.row)), .u (.int .i64 b.hold.op), .u (.int .i64 b.hold.n), .u (.int .i64 b.hold.unit), .u (.str b.hold.s), .u (.sl (b.hold.args.map Exp.row))] := ⟨_, rfl⟩;unfold zaS at hri ⊢
 (refine Fun.of_body Tryz.func20 rfl (by simp) fun Γ hn => ?_); simp only [entry, ziC, ziN, maC, maN, oA, Tryz.ntmps20]
 apply zdy (S := { n := 112, env := [(1, .ptr 0 0), (4, .u (.str T0))], obs := [(0, .box [.u (.int .i64 b.kind), .u (.int .i64 b.period), .u (.int .i64 b.grace), .u (.int .i64 b.wait), .u (.int .i64 b.last), .u (.int .i64 b.order), .u (.bool b.sld), .u (.int .i64 b.backs), .u (.int .i64 b.voices), .u (.int .i64 b.jury), .u (.int .i64 b.fund), .u (.sl (b.lets.map fun l => [.str l.name, .int .i64 l.body.op, .int .i64 l.body.n, .int .i64 l.body.unit, .str l.body.s, .sl (l.body.args.map Exp.row)])), .u (.int .i64 b.due.op), .u (.int .i64 b.due.n), .u (.int .i64 b.due.unit), .u (.str b.due.s), .u (.sl (b.due.args.map Exp.row)), .u (.int .i64 b.fine.op), .u (.int .i64 b.fine.n), .u (.int .i64 b.fine.unit), .u (.str b.fine.s), .u (.sl (b.fine.args.map Exp.row)), .u (.int .i64 b.pay.op), .u (.int .i64 b.pay.n), .u (.int .i64 b.pay.unit), .u (.str b.pay.s), .u (.sl (b.pay.args.map Exp.row)), .u (.int .i64 b.cover.op), .u (.int .i64 b.cover.n), .u (.int .i64 b.cover.unit), .u (.str b.cover.s), .u (.sl (b.cover.args.map Exp.row)), .u (.int .i64 b.hold.op), .u (.int .i64 b.hold.n), .u (.int .i64 b.hold.unit), .u (.str b.hold.s), .u (.sl (b.hold.args.map Exp.row))])], next := 1 })
 case main =>
  intro key;have hk3 : b.kind = 2 \/ b.kind = 0 \/ b.kind = 1 := by omega
  rcases hk3 with hk0 | hk0 | hk0
  ·have hsd : b.sld = false := by
    cases hsd : b.sld with
    | false => rfl
    | true => rw [hsd] at hsl; simp [hk0] at hsl
   have e0' : T0 = [99, 105, 114, 99, 108, 101, 32, 115, 97, 118, 105, 110, 103, 32, 59, 10] := by rw [e0, zfC, hsd, hk0]; rfl
   repeat' (first
  | (refine zcO _ ?_ key; refine Wk.cut rfl ?_ ?_ ?_ ?_; all_goals (first | (simp [hn]; done) | (simp [wkO, zaa, getK, zab, zac, Ob.under, D.under, zad, zah, hsd, hk0, e0']; done) | (simp [wkU, zak, zaa, getK, D.under, hsd, hk0, e0']; done) | (simp [wkE, zak, zaa, getK, hsd, hk0, e0']; done) | fail))
  | ((first | refine zaf ?_ | refine zaj ?_ | refine zag ?_ | refine zai ?_ | refine zat ?_ | fail); simp [hsd, hk0])
  | (refine zar ?_; simp only [zao])
  | (refine CallP.fE (hri) (by first | rfl | fail) (by first | simp [hsd, hk0] <;> rfl | fail) ?_; (try simp [hsd, hk0]))
  | fail)
  ·have hsd : b.sld = false := by
    cases hsd : b.sld with
    | false => rfl
    | true => rw [hsd] at hsl; simp [hk0] at hsl
   have e0' : T0 = [99, 105, 114, 99, 108, 101, 32, 114, 111, 116, 97, 116, 105, 110, 103, 32, 59, 10] := by rw [e0, zfC, hsd, hk0]; rfl
   repeat' (first
  | (refine zcO _ ?_ key; refine Wk.cut rfl ?_ ?_ ?_ ?_; all_goals (first | (simp [hn]; done) | (simp [wkO, zaa, getK, zab, zac, Ob.under, D.under, zad, zah, hsd, hk0, e0']; done) | (simp [wkU, zak, zaa, getK, D.under, hsd, hk0, e0']; done) | (simp [wkE, zak, zaa, getK, hsd, hk0, e0']; done) | fail))
  | ((first | refine zaf ?_ | refine zaj ?_ | refine zag ?_ | refine zai ?_ | fail); simp [hsd, hk0])
  | (refine zar ?_; simp only [zao])
  | (refine CallP.fE (hri) (by first | rfl | fail) (by first | simp [hsd, hk0] <;> rfl | fail) ?_; (try simp [hsd, hk0]))
  | fail)
  ·cases hsd : b.sld with
   | true =>
    have e0' : T0 = [99, 105, 114, 99, 108, 101, 32, 98, 105, 100, 100, 105, 110, 103, 32, 115, 101, 97, 108, 101, 100, 32, 59, 10] := by rw [e0, zfC, hsd]; rfl
    repeat' (first
  | (refine zcO _ ?_ key; refine Wk.cut rfl ?_ ?_ ?_ ?_; all_goals (first | (simp [hn]; done) | (simp [wkO, zaa, getK, zab, zac, Ob.under, D.under, zad, zah, hsd, hk0, e0']; done) | (simp [wkU, zak, zaa, getK, D.under, hsd, hk0, e0']; done) | (simp [wkE, zak, zaa, getK, hsd, hk0, e0']; done) | fail))
  | ((first | refine zaf ?_ | refine zaj ?_ | refine zag ?_ | refine zai ?_ | refine zat ?_ | fail); simp [hsd, hk0])
  | (refine zar ?_; simp only [zao])
  | (refine CallP.fE (hri) (by first | rfl | fail) (by first | simp [hsd, hk0] <;> rfl | fail) ?_; (try simp [hsd, hk0]))
  | fail)
   | false =>
    have e0' : T0 = [99, 105, 114, 99, 108, 101, 32, 98, 105, 100, 100, 105, 110, 103, 32, 59, 10] := by rw [e0, zfC, hsd, hk0]; rfl
    repeat' (first
  | (refine zcO _ ?_ key; refine Wk.cut rfl ?_ ?_ ?_ ?_; all_goals (first | (simp [hn]; done) | (simp [wkO, zaa, getK, zab, zac, Ob.under, D.under, zad, zah, hsd, hk0, e0']; done) | (simp [wkU, zak, zaa, getK, D.under, hsd, hk0, e0']; done) | (simp [wkE, zak, zaa, getK, hsd, hk0, e0']; done) | fail))
  | ((first | refine zaf ?_ | refine zaj ?_ | refine zag ?_ | refine zai ?_ | refine zat ?_ | fail); simp [hsd, hk0])
  | (refine zar ?_; simp only [zao])
  | (refine CallP.fE (hri) (by first | rfl | fail) (by first | simp [hsd, hk0] <;> rfl | fail) ?_; (try simp [hsd, hk0]))
  | fail)
 case key =>
 rw [<- hCL];have x0 : CL[0]? = some (.u (.int .i64 b.kind)) := by rw [hCL]; rfl
 have x1 : CL[1]? = some (.u (.int .i64 b.period)) := by rw [hCL]; rfl
 have x2 : CL[2]? = some (.u (.int .i64 b.grace)) := by rw [hCL]; rfl
 have x3 : CL[3]? = some (.u (.int .i64 b.wait)) := by rw [hCL]; rfl
 have x4 : CL[4]? = some (.u (.int .i64 b.last)) := by rw [hCL]; rfl
 have x5 : CL[5]? = some (.u (.int .i64 b.order)) := by rw [hCL]; rfl
 have x6 : CL[6]? = some (.u (.bool b.sld)) := by rw [hCL]; rfl
 have x7 : CL[7]? = some (.u (.int .i64 b.backs)) := by rw [hCL]; rfl
 have x8 : CL[8]? = some (.u (.int .i64 b.voices)) := by rw [hCL]; rfl
 have x9 : CL[9]? = some (.u (.int .i64 b.jury)) := by rw [hCL]; rfl
 have x10 : CL[10]? = some (.u (.int .i64 b.fund)) := by rw [hCL]; rfl
 have x11 : CL[11]? = some (.u (.sl (b.lets.map fun l => [.str l.name, .int .i64 l.body.op, .int .i64 l.body.n, .int .i64 l.body.unit, .str l.body.s, .sl (l.body.args.map Exp.row)]))) := by rw [hCL]; rfl
 have y12 : 17 <= CL.length := by rw [hCL]; simp
 have z12 : List.take 5 (List.drop 12 CL) = [.u (.int .i64 b.due.op), .u (.int .i64 b.due.n), .u (.int .i64 b.due.unit), .u (.str b.due.s), .u (.sl (b.due.args.map Exp.row))] := by rw [hCL]; rfl
 have y17 : 22 <= CL.length := by rw [hCL]; simp
 have z17 : List.take 5 (List.drop 17 CL) = [.u (.int .i64 b.fine.op), .u (.int .i64 b.fine.n), .u (.int .i64 b.fine.unit), .u (.str b.fine.s), .u (.sl (b.fine.args.map Exp.row))] := by rw [hCL]; rfl
 have y22 : 27 <= CL.length := by rw [hCL]; simp
 have z22 : List.take 5 (List.drop 22 CL) = [.u (.int .i64 b.pay.op), .u (.int .i64 b.pay.n), .u (.int .i64 b.pay.unit), .u (.str b.pay.s), .u (.sl (b.pay.args.map Exp.row))] := by rw [hCL]; rfl
 have y27 : 32 <= CL.length := by rw [hCL]; simp
 have z27 : List.take 5 (List.drop 27 CL) = [.u (.int .i64 b.cover.op), .u (.int .i64 b.cover.n), .u (.int .i64 b.cover.unit), .u (.str b.cover.s), .u (.sl (b.cover.args.map Exp.row))] := by rw [hCL]; rfl
 have y32 : 37 <= CL.length := by rw [hCL]; simp
 have z32 : List.take 5 (List.drop 32 CL) = [.u (.int .i64 b.hold.op), .u (.int .i64 b.hold.n), .u (.int .i64 b.hold.unit), .u (.str b.hold.s), .u (.sl (b.hold.args.map Exp.row))] := by rw [hCL]; rfl
 have xun : (∀ x : D, x ∈ CL -> D.under 1 x = true) = True := eq_true (by rw [hCL]; simp [D.under]);have xs := And.intro x0 <| And.intro x1 <| And.intro x2 <| And.intro x3 <| And.intro x4 <| And.intro x5 <| And.intro x6 <| And.intro x7 <| And.intro x8 <| And.intro x9 <| And.intro x10 x11
 have zs := And.intro y12 <| And.intro z12 <| And.intro y17 <| And.intro z17 <| And.intro y22 <| And.intro z22 <| And.intro y27 <| And.intro z27 <| And.intro y32 z32
 clear hCL;have p1 := zc7 [112, 101, 114, 105, 111, 100] b.period [[100, 97, 121, 115]] [32, 100, 97, 121, 115] (by omega) (by omega) (by rw [zaz, zaz, zaI]; simp) (by decide);have l1 : (zbn [112, 101, 114, 105, 111, 100] b.period [[100, 97, 121, 115]]).length <= 100 := zbs (by omega) (by omega) (by decide);obtain ⟨P1, g1⟩ : ∃ P1, P1 = zbn [112, 101, 114, 105, 111, 100] b.period [[100, 97, 121, 115]] := ⟨_, rfl⟩;rw [<- g1] at p1 l1;have p2 := zc7 [108, 97, 115, 116] b.last [] [] (by omega) (by omega) (by rw [zaz, zaI]; simp) (by decide);have l2 : (zbn [108, 97, 115, 116] b.last []).length <= 100 := zbs (by omega) (by omega) (by decide);obtain ⟨P2, g2⟩ : ∃ P2, P2 = zbn [108, 97, 115, 116] b.last [] := ⟨_, rfl⟩;rw [<- g2] at p2 l2;have p3 := zc7 [103, 114, 97, 99, 101] b.grace [[100, 97, 121, 115]] [32, 100, 97, 121, 115] (by omega) (by omega) (by rw [zaz, zaz, zaI]; simp) (by decide);have l3 : (zbn [103, 114, 97, 99, 101] b.grace [[100, 97, 121, 115]]).length <= 100 := zbs (by omega) (by omega) (by decide);obtain ⟨P3, g3⟩ : ∃ P3, P3 = zbn [103, 114, 97, 99, 101] b.grace [[100, 97, 121, 115]] := ⟨_, rfl⟩;rw [<- g3] at p3 l3;have p4 := zc7 [119, 97, 105, 116] b.wait [[100, 97, 121, 115]] [32, 100, 97, 121, 115] (by omega) (by omega) (by rw [zaz, zaz, zaI]; simp) (by decide);have l4 : (zbn [119, 97, 105, 116] b.wait [[100, 97, 121, 115]]).length <= 100 := zbs (by omega) (by omega) (by decide);obtain ⟨P4, g4⟩ : ∃ P4, P4 = zbn [119, 97, 105, 116] b.wait [[100, 97, 121, 115]] := ⟨_, rfl⟩;rw [<- g4] at p4 l4;obtain ⟨T9, e9⟩ : ∃ T9, T9 = T0 ++ (P1 ++ (P2 ++ (P3 ++ P4))) := ⟨_, rfl⟩;have m9 : T9.length <= 900 := by rw [e9]; simp only [List.length_append]; omega
 apply zdy (S := { n := 112, env := [(1, .ptr 0 0), (4, .u (.str T9))], obs := [(0, .box CL)], next := 1 })
 case main =>
  intro key
  repeat' (first
  | (refine zcO _ ?_ key; refine Wk.cut rfl ?_ ?_ ?_ ?_; all_goals (first | (simp [hn]; done) | (simp [wkO, zaa, getK, zab, zac, Ob.under, D.under, zad, zah, e9, xun]; done) | (simp [wkU, zak, zaa, getK, D.under, e9, xun]; done) | (simp [wkE, zak, zaa, getK, e9, xun]; done) | fail))
  | (refine zez ?_; simp [xs])
  | (refine ⟨by omega, ?_⟩)
  | (refine zag ?_; simp [xs])
  | (refine zfY ?_)
  | (refine hk _ ?_; clear hk k; simp only [zao])
  | (refine zey rfl (by kernel_rfl) (by kernel_rfl) fun k hk => ?_; simp [xs])
  | (refine CallV.fun_ (p1) (by first | rfl | fail) (by first | simp [xs] <;> rfl | fail) ?_ <;> (try simp [xs]))
  | (refine CallV.fun_ (p2) (by first | rfl | fail) (by first | simp [xs] <;> rfl | fail) ?_ <;> (try simp [xs]))
  | (refine CallV.fun_ (p3) (by first | rfl | fail) (by first | simp [xs] <;> rfl | fail) ?_ <;> (try simp [xs]))
  | (refine CallV.fun_ (p4) (by first | rfl | fail) (by first | simp [xs] <;> rfl | fail) ?_ <;> (try simp [xs]))
  | fail)
 case key =>
 clear p1 p2 p3 p4;obtain ⟨T1, e1⟩ : ∃ T1, T1 = T9 ++ zfV b.order := ⟨_, rfl⟩;have lo : (zfV b.order).length <= 20 := by
  rcases (show b.order = 0 \/ b.order = 1 \/ b.order = 2 by omega) with h | h | h <;> rw [h] <;> decide
 have m1 : T1.length <= 1000 := by rw [e1]; simp only [List.length_append]; omega
 apply zdy (S := { n := 112, env := [(1, .ptr 0 0), (4, .u (.str T1))], obs := [(0, .box CL)], next := 1 })
 case main =>
  intro key;rcases (show b.order = 2 \/ b.order = 0 \/ b.order = 1 by omega) with hor | hor | hor
  ·have e1' : T1 = T9 ++ [111, 114, 100, 101, 114, 32, 110, 101, 101, 100, 32, 59, 10] := by rw [e1, hor]; rfl
   repeat' (first
  | (refine zcO _ ?_ key; refine Wk.cut rfl ?_ ?_ ?_ ?_; all_goals (first | (simp [hn]; done) | (simp [wkO, zaa, getK, zab, zac, Ob.under, D.under, zad, zah, hor, e1', xun]; done) | (simp [wkU, zak, zaa, getK, D.under, hor, e1', xun]; done) | (simp [wkE, zak, zaa, getK, hor, e1', xun]; done) | fail))
  | ((first | refine zaf ?_ | refine zaj ?_ | fail); simp [hor, xs])
  | (refine ⟨by omega, ?_⟩)
  | ((first | refine zag ?_ | refine zai ?_ | refine zat ?_ | fail); simp [hor, xs])
  | (refine zar ?_; simp only [zao])
  | fail)
  ·have e1' : T1 = T9 := by rw [e1, hor]; simp [zfV]
   repeat' (first
  | (refine zcO _ ?_ key; refine Wk.cut rfl ?_ ?_ ?_ ?_; all_goals (first | (simp [hn]; done) | (simp [wkO, zaa, getK, zab, zac, Ob.under, D.under, zad, zah, hor, e1', xun]; done) | (simp [wkU, zak, zaa, getK, D.under, hor, e1', xun]; done) | (simp [wkE, zak, zaa, getK, hor, e1', xun]; done) | fail))
  | ((first | refine zaf ?_ | refine zaj ?_ | refine zag ?_ | refine zai ?_ | fail); simp [hor, xs])
  | (refine zar ?_; simp only [zao])
  | fail)
  ·have e1' : T1 = T9 ++ [111, 114, 100, 101, 114, 32, 100, 114, 97, 119, 32, 59, 10] := by rw [e1, hor]; rfl
   repeat' (first
  | (refine zcO _ ?_ key; refine Wk.cut rfl ?_ ?_ ?_ ?_; all_goals (first | (simp [hn]; done) | (simp [wkO, zaa, getK, zab, zac, Ob.under, D.under, zad, zah, hor, e1', xun]; done) | (simp [wkU, zak, zaa, getK, D.under, hor, e1', xun]; done) | (simp [wkE, zak, zaa, getK, hor, e1', xun]; done) | fail))
  | ((first | refine zaf ?_ | refine zaj ?_ | fail); simp [hor, xs])
  | (refine ⟨by omega, ?_⟩)
  | ((first | refine zag ?_ | refine zai ?_ | refine zat ?_ | fail); simp [hor, xs])
  | (refine zar ?_; simp only [zao])
  | fail)
 case key =>
 have p5 := zc7 [98, 97, 99, 107, 115] b.backs [] [] (by omega) (by omega) (by rw [zaz, zaI]; simp) (by decide);have l5 : (zbn [98, 97, 99, 107, 115] b.backs []).length <= 100 := zbs (by omega) (by omega) (by decide);obtain ⟨P5, g5⟩ : ∃ P5, P5 = zbn [98, 97, 99, 107, 115] b.backs [] := ⟨_, rfl⟩;rw [<- g5] at p5 l5;have p6 := zc7 [118, 111, 105, 99, 101, 115] b.voices [[112, 101, 114], [109, 105, 108, 108, 101]] [32, 112, 101, 114, 32, 109, 105, 108, 108, 101] (by omega) (by omega) (by rw [zaz, zaz, zaz, zaI]; simp) (by decide);have l6 : (zbn [118, 111, 105, 99, 101, 115] b.voices [[112, 101, 114], [109, 105, 108, 108, 101]]).length <= 100 := zbs (by omega) (by omega) (by decide);obtain ⟨P6, g6⟩ : ∃ P6, P6 = zbn [118, 111, 105, 99, 101, 115] b.voices [[112, 101, 114], [109, 105, 108, 108, 101]] := ⟨_, rfl⟩;rw [<- g6] at p6 l6;have p7 := zc7 [106, 117, 114, 121] b.jury [] [] (by omega) (by omega) (by rw [zaz, zaI]; simp) (by decide);have l7 : (zbn [106, 117, 114, 121] b.jury []).length <= 100 := zbs (by omega) (by omega) (by decide);obtain ⟨P7, g7⟩ : ∃ P7, P7 = zbn [106, 117, 114, 121] b.jury [] := ⟨_, rfl⟩;rw [<- g7] at p7 l7;have p8 := zc7 [102, 117, 110, 100] b.fund [[112, 101, 114], [109, 105, 108, 108, 101]] [32, 112, 101, 114, 32, 109, 105, 108, 108, 101] (by omega) (by omega) (by rw [zaz, zaz, zaz, zaI]; simp) (by decide);have l8 : (zbn [102, 117, 110, 100] b.fund [[112, 101, 114], [109, 105, 108, 108, 101]]).length <= 100 := zbs (by omega) (by omega) (by decide);obtain ⟨P8, g8⟩ : ∃ P8, P8 = zbn [102, 117, 110, 100] b.fund [[112, 101, 114], [109, 105, 108, 108, 101]] := ⟨_, rfl⟩;rw [<- g8] at p8 l8;obtain ⟨T2, e2⟩ : ∃ T2, T2 = T1 ++ (P5 ++ (P6 ++ (P7 ++ P8))) := ⟨_, rfl⟩;have m2 : T2.length <= 2000 := by rw [e2]; simp only [List.length_append]; omega
 apply zdy (S := { n := 112, env := [(1, .ptr 0 0), (4, .u (.str T2)), (5, .u (.int .i64 0))], obs := [(0, .box CL)], next := 1 })
 case main =>
  intro key
  repeat' (first
  | (refine zcO _ ?_ key; refine Wk.cut rfl ?_ ?_ ?_ ?_; all_goals (first | (simp [hn]; done) | (simp [wkO, zaa, getK, zab, zac, Ob.under, D.under, zad, zah, e2, xun]; done) | (simp [wkU, zak, zaa, getK, D.under, e2, xun]; done) | (simp [wkE, zak, zaa, getK, e2, xun]; done) | fail))
  | ((first | refine zaf ?_ | refine zez ?_ | refine zaj ?_ | fail); simp [xs])
  | (refine ⟨by omega, ?_⟩)
  | (refine zag ?_; simp [xs])
  | (refine zfY ?_)
  | (refine hk _ ?_; clear hk k; simp only [zao])
  | (refine zey rfl (by kernel_rfl) (by kernel_rfl) fun k hk => ?_; simp [xs])
  | (refine CallV.fun_ (p5) (by first | rfl | fail) (by first | simp [xs] <;> rfl | fail) ?_ <;> (try simp [xs]))
  | (refine CallV.fun_ (p6) (by first | rfl | fail) (by first | simp [xs] <;> rfl | fail) ?_ <;> (try simp [xs]))
  | (refine CallV.fun_ (p7) (by first | rfl | fail) (by first | simp [xs] <;> rfl | fail) ?_ <;> (try simp [xs]))
  | (refine CallV.fun_ (p8) (by first | rfl | fail) (by first | simp [xs] <;> rfl | fail) ?_ <;> (try simp [xs]))
  | fail)
 case key =>
 clear p5 p6 p7 p8;have c1 := zei [100, 117, 101] b.due hrdue (by decide);have n1 : (clauseT [100, 117, 101] b.due).length <= 60000000 := zbN (by decide) hrdue;obtain ⟨C1, d1⟩ : ∃ C1, C1 = clauseT [100, 117, 101] b.due := ⟨_, rfl⟩;rw [<- d1] at c1 n1;rw [Exp.row_eq] at c1;have c2 := zei [102, 105, 110, 101] b.fine hrfine (by decide);have n2 : (clauseT [102, 105, 110, 101] b.fine).length <= 60000000 := zbN (by decide) hrfine;obtain ⟨C2, d2⟩ : ∃ C2, C2 = clauseT [102, 105, 110, 101] b.fine := ⟨_, rfl⟩;rw [<- d2] at c2 n2;rw [Exp.row_eq] at c2;have c3 := zei [112, 97, 121] b.pay hrpay (by decide);have n3 : (clauseT [112, 97, 121] b.pay).length <= 60000000 := zbN (by decide) hrpay;obtain ⟨C3, d3⟩ : ∃ C3, C3 = clauseT [112, 97, 121] b.pay := ⟨_, rfl⟩;rw [<- d3] at c3 n3;rw [Exp.row_eq] at c3;have c4 := zei [99, 111, 118, 101, 114] b.cover hrcover (by decide);have n4 : (clauseT [99, 111, 118, 101, 114] b.cover).length <= 60000000 := zbN (by decide) hrcover;obtain ⟨C4, d4⟩ : ∃ C4, C4 = clauseT [99, 111, 118, 101, 114] b.cover := ⟨_, rfl⟩;rw [<- d4] at c4 n4;rw [Exp.row_eq] at c4;have c5 := zei [104, 111, 108, 100] b.hold hrhold (by decide);have n5 : (clauseT [104, 111, 108, 100] b.hold).length <= 60000000 := zbN (by decide) hrhold;obtain ⟨C5, d5⟩ : ∃ C5, C5 = clauseT [104, 111, 108, 100] b.hold := ⟨_, rfl⟩;rw [<- d5] at c5 n5;rw [Exp.row_eq] at c5;obtain ⟨F, eF⟩ : ∃ F : Nat -> W8, F = fun i => zeW (b.lets.take i) := ⟨_, rfl⟩;have hF0 : F 0 = [] := by rw [eF]; simp [zeW]
 have hFs : ∀ i l, b.lets[i]? = some l -> F (i + 1) = F i ++ znC l := fun i l h => by rw [eF]; simp only; rw [zht h]
 have hFl : ∀ i, i <= b.lets.length -> (F i).length <= 2000000000 := fun i hi => by
  rw [eF];have h1 := zgH (b.lets.take i) fun l hl => hLs l (List.mem_of_mem_take hl);simp only [List.length_append, List.length_take] at h1 ⊢;omega
 have eL : zeW b.lets = F b.lets.length := by rw [eF]; simp only; rw [List.take_length]
 clear eF;have eT : TT = T1 ++ (P5 ++ (P6 ++ (P7 ++ (P8 ++ (F b.lets.length ++ (C1 ++ (C2 ++ (C3 ++ (C4 ++ C5))))))))) := by
  rw [<- hT, textP, e1, e9, e0, eL, g1, g2, g3, g4, g5, g6, g7, g8, d1, d2, d3, d4, d5];simp only [List.append_assoc]
 clear e1 e9 e0 g1 g2 g3 g4 g5 g6 g7 g8 d1 d2 d3 d4 d5 eL;have eT2 : TT = T2 ++ (F b.lets.length ++ (C1 ++ (C2 ++ (C3 ++ (C4 ++ C5))))) := by rw [eT, e2]; simp only [List.append_assoc]
 clear e2 eT l1 l2 l3 l4 l5 l6 l7 l8 m0 m1 m9 i1 i2 i3 i4 i5
 repeat' (first
  | (refine zas ?_; simp [xs])
  | fail)
 refine zbU (α := { i : Nat // i <= b.lets.length }) [1] (fun x => [(4, .u (.str (T2 ++ F x.1))), (5, .u (.int .i64 x.1))]) (fun x => b.lets.length - x.1) ⟨0, by omega⟩ ?_ ?_
 ·exact (Wk.env rfl rfl rfl (by simp [wkE, St.lp, zak, zaa, getK, hF0, xun] <;> (try (intros; simp_all; done)) <;> (try (intros; omega)) <;> (try grind)))
 rintro ⟨i, hi⟩;have hFi := hFl i hi;simp [St.lp, St.only, zak, zaa, getK];rcases hx : b.lets[i]? with _ | l
 case some =>
  have hlt : i < b.lets.length := (lGE.1 hx).1;obtain ⟨hln, hlr⟩ := hLs l (List.mem_of_getElem? hx);have hn20 := zgc hln;have htl := zbf hlr (Nat.le_refl _) 0;have hsh := zfa 12 (Nat.le_refl _) l.body hlr 0;rw [Exp.row_eq] at hsh;have hnx := hFs i l hx;have hlt' : znC l = [108, 101, 116, 32] ++ l.name ++ [32, 61, 32] ++ txt l.body 0 ++ [32, 59, 10] := by
   rw [znC, zbM, zaz, zaz, zaz, zaI]; simp
  rw [hlt'] at hnx;generalize txt l.body 0 = TB at *;generalize hFN : F (i + 1) = FN at *;generalize hFI : F i = FI at *
  repeat' (first
  | ((first | refine zaf ?_ | refine zez ?_ | refine zaj ?_ | fail); simp [hx, xs])
  | (refine ⟨by omega, ?_⟩)
  | ((first | refine zag ?_ | refine zai ?_ | fail); simp [hx, xs])
  | (refine zfY ?_)
  | (refine hk _ ?_; clear hk k; simp only [zao])
  | (refine zey rfl (by kernel_rfl) (by kernel_rfl) fun k hk => ?_; simp [hx, xs])
  | (refine zat ?_; simp [hx, xs])
  | (refine zar ?_; simp only [zao])
  | (refine ⟨?_, by omega⟩)
  | (intro hc <;> (try (exfalso; omega)))
  | (refine CallV.fun_ (hsh) (by first | rfl | fail) (by first | simp [hx, xs] <;> rfl | fail) ?_ <;> (try simp [hx, xs]))
  | fail)
  refine LoopW.next ⟨i + 1, by omega⟩ (by simp; omega) ?_
  exact (Wk.env rfl rfl rfl (by simp [wkE, St.lp, zak, zaa, getK, hnx, hFN, xun] <;> (try (intros; simp_all; done)) <;> (try (intros; omega)) <;> (try grind)))
 case none =>
 have hge : b.lets.length <= i := by simpa using hx
 obtain rfl : i = b.lets.length := by omega
 generalize F b.lets.length = FL at *;clear hFs hFl;have hTT : TT.length = T2.length + (FL.length + (C1.length + (C2.length + (C3.length + (C4.length + C5.length))))) := by rw [eT2]; simp only [List.length_append]
 repeat' (first
  | ((first | refine zaf ?_ | refine zez ?_ | refine zaj ?_ | fail); simp [hx, xs, zs])
  | (refine ⟨by omega, ?_⟩)
  | ((first | refine zag ?_ | refine zai ?_ | fail); simp [hx, xs, zs])
  | (refine zfY ?_)
  | (refine hk _ ?_; clear hk k; simp only [zao])
  | (refine zey rfl (by kernel_rfl) (by kernel_rfl) fun k hk => ?_; simp [hx, xs, zs])
  | ((first | refine zap ?_ | refine zar ?_ | fail); simp only [zao])
  | (refine zbq ?_; simp [zao])
  | (refine ⟨fun hc => ?_, fun hc => ?_⟩ <;> (try (exfalso; omega)))
  | (refine CallV.fun_ (c1) (by first | rfl | fail) (by first | simp [hx, xs, zs] <;> rfl | fail) ?_ <;> (try simp [hx, xs, zs]))
  | (refine CallV.fun_ (c2) (by first | rfl | fail) (by first | simp [hx, xs, zs] <;> rfl | fail) ?_ <;> (try simp [hx, xs, zs]))
  | (refine CallV.fun_ (c3) (by first | rfl | fail) (by first | simp [hx, xs, zs] <;> rfl | fail) ?_ <;> (try simp [hx, xs, zs]))
  | (refine CallV.fun_ (c4) (by first | rfl | fail) (by first | simp [hx, xs, zs] <;> rfl | fail) ?_ <;> (try simp [hx, xs, zs]))
  | (refine CallV.fun_ (c5) (by first | rfl | fail) (by first | simp [hx, xs, zs] <;> rfl | fail) ?_ <;> (try simp [hx, xs, zs]))
  | fail)
 ·have hbig' : 2000 < TT.length := by (try simp only [List.length_append] at hc); omega
  rw [if_pos hbig']
  (refine EndOK.val (.inr rfl) ?_; simp [zay, zae, zaq, Tryz.results20])
 ·have hbig' : ¬ 2000 < TT.length := by (try simp only [List.length_append] at hc); omega
  rw [if_neg hbig', eT2]
  (refine EndOK.val (.inr rfl) ?_; simp [zay, zae, zaq, Tryz.results20])
theorem zlh (b : By) : Fun Tryz.prog 20 [.u (.agg (zaS b))] (· = .tup [.u (.str (printB b).1), .u (.int .i64 (printB b).2)]) := by
 cases hb : zcI b with
 | true => exact ziM b hb
 | false =>
  have hri := zeh b;rw [hb] at hri;have hp : printB b = ([], 1) := by unfold printB; rw [if_neg (by simp [hb])]
  rw [hp];unfold zaS at hri ⊢
  (refine Fun.of_body Tryz.func20 rfl (by simp) fun Γ hn => ?_); simp only [entry, ziC, ziN, maC, maN, oA, Tryz.ntmps20]
  repeat' (first
  | ((first | refine zaf ?_ | refine zaj ?_ | refine zag ?_ | refine zai ?_ | fail); simp)
  | (refine zap ?_; simp only [zao])
  | (refine CallP.fE (hri) (by first | rfl | fail) (by first | (simp; done) | (simp; rfl) | fail) ?_; (try simp))
  | fail)
  (refine EndOK.val (.inr rfl) ?_; simp [zay, zae, zaq, Tryz.results20])
theorem zhg (a b : By) : Fun Tryz.prog 27 [.u (.agg (zaS a)), .u (.agg (zaS b))] (· = .u (.bool (eqB a b))) := by
 have e_lets := zhC a.lets b.lets;have e_due := zbg a.due b.due;have e_fine := zbg a.fine b.fine;have e_pay := zbg a.pay b.pay;have e_cover := zbg a.cover b.cover;have e_hold := zbg a.hold b.hold;unfold zcP at e_due e_fine e_pay e_cover e_hold;rw [Exp.row_eq, Exp.row_eq] at e_due e_fine e_pay e_cover e_hold;simp only [zeV] at e_lets;unfold zaS
 (refine Fun.of_body Tryz.func27 rfl (by simp) fun Γ hn => ?_); simp only [entry, ziC, ziN, maC, maN, oA, Tryz.ntmps27]
 obtain ⟨L, hL⟩ : ∃ L : Bool, L = eqB a.lets b.lets := ⟨_, rfl⟩;apply zdy (S := { n := 128, env := [(2, .ptr 0 0), (3, .ptr 1 0), (5, .u (.bool L))], obs := [(0, .box [.u (.int .i64 a.kind), .u (.int .i64 a.period), .u (.int .i64 a.grace), .u (.int .i64 a.wait), .u (.int .i64 a.last), .u (.int .i64 a.order), .u (.bool a.sld), .u (.int .i64 a.backs), .u (.int .i64 a.voices), .u (.int .i64 a.jury), .u (.int .i64 a.fund), .u (.sl (a.lets.map fun l => [.str l.name, .int .i64 l.body.op, .int .i64 l.body.n, .int .i64 l.body.unit, .str l.body.s, .sl (l.body.args.map Exp.row)])), .u (.int .i64 a.due.op), .u (.int .i64 a.due.n), .u (.int .i64 a.due.unit), .u (.str a.due.s), .u (.sl (a.due.args.map Exp.row)), .u (.int .i64 a.fine.op), .u (.int .i64 a.fine.n), .u (.int .i64 a.fine.unit), .u (.str a.fine.s), .u (.sl (a.fine.args.map Exp.row)), .u (.int .i64 a.pay.op), .u (.int .i64 a.pay.n), .u (.int .i64 a.pay.unit), .u (.str a.pay.s), .u (.sl (a.pay.args.map Exp.row)), .u (.int .i64 a.cover.op), .u (.int .i64 a.cover.n), .u (.int .i64 a.cover.unit), .u (.str a.cover.s), .u (.sl (a.cover.args.map Exp.row)), .u (.int .i64 a.hold.op), .u (.int .i64 a.hold.n), .u (.int .i64 a.hold.unit), .u (.str a.hold.s), .u (.sl (a.hold.args.map Exp.row))]), (1, .box [.u (.int .i64 b.kind), .u (.int .i64 b.period), .u (.int .i64 b.grace), .u (.int .i64 b.wait), .u (.int .i64 b.last), .u (.int .i64 b.order), .u (.bool b.sld), .u (.int .i64 b.backs), .u (.int .i64 b.voices), .u (.int .i64 b.jury), .u (.int .i64 b.fund), .u (.sl (b.lets.map fun l => [.str l.name, .int .i64 l.body.op, .int .i64 l.body.n, .int .i64 l.body.unit, .str l.body.s, .sl (l.body.args.map Exp.row)])), .u (.int .i64 b.due.op), .u (.int .i64 b.due.n), .u (.int .i64 b.due.unit), .u (.str b.due.s), .u (.sl (b.due.args.map Exp.row)), .u (.int .i64 b.fine.op), .u (.int .i64 b.fine.n), .u (.int .i64 b.fine.unit), .u (.str b.fine.s), .u (.sl (b.fine.args.map Exp.row)), .u (.int .i64 b.pay.op), .u (.int .i64 b.pay.n), .u (.int .i64 b.pay.unit), .u (.str b.pay.s), .u (.sl (b.pay.args.map Exp.row)), .u (.int .i64 b.cover.op), .u (.int .i64 b.cover.n), .u (.int .i64 b.cover.unit), .u (.str b.cover.s), .u (.sl (b.cover.args.map Exp.row)), .u (.int .i64 b.hold.op), .u (.int .i64 b.hold.n), .u (.int .i64 b.hold.unit), .u (.str b.hold.s), .u (.sl (b.hold.args.map Exp.row))])], next := 2 })
 case main =>
  intro key;rw [<- hL] at e_lets
  repeat' (first
  | (refine zcO _ ?_ key; refine Wk.cut rfl ?_ ?_ ?_ ?_; all_goals (first | (simp [hn]; done) | (simp [wkO, zaa, getK, zab, zac, Ob.under, D.under, zad, zah]; done) | (simp [wkU, zak, zaa, getK, D.under]; done) | (simp [wkE, zak, zaa, getK]; done) | fail))
  | ((first | refine zaf ?_ | refine zaj ?_ | refine zag ?_ | fail); simp)
  | (refine CallP.fE (e_lets) (by first | rfl | fail) (by first | (simp; done) | (simp; rfl) | fail) ?_; (try simp))
  | fail)
 case key =>
 obtain ⟨E, hE⟩ : ∃ E : Bool, E = (eqB a.due b.due && eqB a.fine b.fine && eqB a.pay b.pay && eqB a.cover b.cover && eqB a.hold b.hold) := ⟨_, rfl⟩;apply zdy (S := { n := 128, env := [(2, .ptr 0 0), (3, .ptr 1 0), (5, .u (.bool L)), (6, .u (.bool E))], obs := [(0, .box [.u (.int .i64 a.kind), .u (.int .i64 a.period), .u (.int .i64 a.grace), .u (.int .i64 a.wait), .u (.int .i64 a.last), .u (.int .i64 a.order), .u (.bool a.sld), .u (.int .i64 a.backs), .u (.int .i64 a.voices), .u (.int .i64 a.jury), .u (.int .i64 a.fund), .u (.sl (a.lets.map fun l => [.str l.name, .int .i64 l.body.op, .int .i64 l.body.n, .int .i64 l.body.unit, .str l.body.s, .sl (l.body.args.map Exp.row)])), .u (.int .i64 a.due.op), .u (.int .i64 a.due.n), .u (.int .i64 a.due.unit), .u (.str a.due.s), .u (.sl (a.due.args.map Exp.row)), .u (.int .i64 a.fine.op), .u (.int .i64 a.fine.n), .u (.int .i64 a.fine.unit), .u (.str a.fine.s), .u (.sl (a.fine.args.map Exp.row)), .u (.int .i64 a.pay.op), .u (.int .i64 a.pay.n), .u (.int .i64 a.pay.unit), .u (.str a.pay.s), .u (.sl (a.pay.args.map Exp.row)), .u (.int .i64 a.cover.op), .u (.int .i64 a.cover.n), .u (.int .i64 a.cover.unit), .u (.str a.cover.s), .u (.sl (a.cover.args.map Exp.row)), .u (.int .i64 a.hold.op), .u (.int .i64 a.hold.n), .u (.int .i64 a.hold.unit), .u (.str a.hold.s), .u (.sl (a.hold.args.map Exp.row))]), (1, .box [.u (.int .i64 b.kind), .u (.int .i64 b.period), .u (.int .i64 b.grace), .u (.int .i64 b.wait), .u (.int .i64 b.last), .u (.int .i64 b.order), .u (.bool b.sld), .u (.int .i64 b.backs), .u (.int .i64 b.voices), .u (.int .i64 b.jury), .u (.int .i64 b.fund), .u (.sl (b.lets.map fun l => [.str l.name, .int .i64 l.body.op, .int .i64 l.body.n, .int .i64 l.body.unit, .str l.body.s, .sl (l.body.args.map Exp.row)])), .u (.int .i64 b.due.op), .u (.int .i64 b.due.n), .u (.int .i64 b.due.unit), .u (.str b.due.s), .u (.sl (b.due.args.map Exp.row)), .u (.int .i64 b.fine.op), .u (.int .i64 b.fine.n), .u (.int .i64 b.fine.unit), .u (.str b.fine.s), .u (.sl (b.fine.args.map Exp.row)), .u (.int .i64 b.pay.op), .u (.int .i64 b.pay.n), .u (.int .i64 b.pay.unit), .u (.str b.pay.s), .u (.sl (b.pay.args.map Exp.row)), .u (.int .i64 b.cover.op), .u (.int .i64 b.cover.n), .u (.int .i64 b.cover.unit), .u (.str b.cover.s), .u (.sl (b.cover.args.map Exp.row)), .u (.int .i64 b.hold.op), .u (.int .i64 b.hold.n), .u (.int .i64 b.hold.unit), .u (.str b.hold.s), .u (.sl (b.hold.args.map Exp.row))])], next := 2 })
 case main =>
  intro key;by_cases q_due : eqB a.due b.due = true
  ·rw [q_due] at e_due;by_cases q_fine : eqB a.fine b.fine = true
   ·rw [q_fine] at e_fine;by_cases q_pay : eqB a.pay b.pay = true
    ·rw [q_pay] at e_pay;by_cases q_cover : eqB a.cover b.cover = true
     ·rw [q_cover] at e_cover;by_cases q_hold : eqB a.hold b.hold = true
      ·rw [q_hold] at e_hold;have hv : E = true := by rw [hE]; simp [q_due, q_fine, q_pay, q_cover, q_hold]
       repeat' (first
  | (refine zcO _ ?_ key; refine Wk.cut rfl ?_ ?_ ?_ ?_; all_goals (first | (simp [hn]; done) | (simp [wkO, zaa, getK, zab, zac, Ob.under, D.under, zad, zah, q_due, q_fine, q_pay, q_cover, q_hold, hv]; done) | (simp [wkU, zak, zaa, getK, D.under, q_due, q_fine, q_pay, q_cover, q_hold, hv]; done) | (simp [wkE, zak, zaa, getK, q_due, q_fine, q_pay, q_cover, q_hold, hv]; done) | fail))
  | ((first | refine zaf ?_ | refine zaj ?_ | refine zag ?_ | fail); simp [q_due, q_fine, q_pay, q_cover, q_hold])
  | (refine CallP.fE (e_due) (by first | rfl | fail) (by first | simp [q_due, q_fine, q_pay, q_cover, q_hold] <;> rfl | fail) ?_; (try simp [q_due, q_fine, q_pay, q_cover, q_hold]))
  | (refine CallP.fE (e_fine) (by first | rfl | fail) (by first | simp [q_due, q_fine, q_pay, q_cover, q_hold] <;> rfl | fail) ?_; (try simp [q_due, q_fine, q_pay, q_cover, q_hold]))
  | (refine CallP.fE (e_pay) (by first | rfl | fail) (by first | simp [q_due, q_fine, q_pay, q_cover, q_hold] <;> rfl | fail) ?_; (try simp [q_due, q_fine, q_pay, q_cover, q_hold]))
  | (refine CallP.fE (e_cover) (by first | rfl | fail) (by first | simp [q_due, q_fine, q_pay, q_cover, q_hold] <;> rfl | fail) ?_; (try simp [q_due, q_fine, q_pay, q_cover, q_hold]))
  | (refine CallP.fE (e_hold) (by first | rfl | fail) (by first | simp [q_due, q_fine, q_pay, q_cover, q_hold] <;> rfl | fail) ?_; (try simp [q_due, q_fine, q_pay, q_cover, q_hold]))
  | fail)
      ·have q_holdf : eqB a.hold b.hold = false := by simpa using q_hold
       rw [q_holdf] at e_hold;have hv : E = false := by rw [hE]; simp [q_due, q_fine, q_pay, q_cover, q_holdf]
       repeat' (first
  | (refine zcO _ ?_ key; refine Wk.cut rfl ?_ ?_ ?_ ?_; all_goals (first | (simp [hn]; done) | (simp [wkO, zaa, getK, zab, zac, Ob.under, D.under, zad, zah, q_due, q_fine, q_pay, q_cover, q_holdf, hv]; done) | (simp [wkU, zak, zaa, getK, D.under, q_due, q_fine, q_pay, q_cover, q_holdf, hv]; done) | (simp [wkE, zak, zaa, getK, q_due, q_fine, q_pay, q_cover, q_holdf, hv]; done) | fail))
  | ((first | refine zaf ?_ | refine zaj ?_ | refine zag ?_ | fail); simp [q_due, q_fine, q_pay, q_cover, q_holdf])
  | (refine CallP.fE (e_due) (by first | rfl | fail) (by first | simp [q_due, q_fine, q_pay, q_cover, q_holdf] <;> rfl | fail) ?_; (try simp [q_due, q_fine, q_pay, q_cover, q_holdf]))
  | (refine CallP.fE (e_fine) (by first | rfl | fail) (by first | simp [q_due, q_fine, q_pay, q_cover, q_holdf] <;> rfl | fail) ?_; (try simp [q_due, q_fine, q_pay, q_cover, q_holdf]))
  | (refine CallP.fE (e_pay) (by first | rfl | fail) (by first | simp [q_due, q_fine, q_pay, q_cover, q_holdf] <;> rfl | fail) ?_; (try simp [q_due, q_fine, q_pay, q_cover, q_holdf]))
  | (refine CallP.fE (e_cover) (by first | rfl | fail) (by first | simp [q_due, q_fine, q_pay, q_cover, q_holdf] <;> rfl | fail) ?_; (try simp [q_due, q_fine, q_pay, q_cover, q_holdf]))
  | (refine CallP.fE (e_hold) (by first | rfl | fail) (by first | simp [q_due, q_fine, q_pay, q_cover, q_holdf] <;> rfl | fail) ?_; (try simp [q_due, q_fine, q_pay, q_cover, q_holdf]))
  | fail)
     ·have q_coverf : eqB a.cover b.cover = false := by simpa using q_cover
      rw [q_coverf] at e_cover;have hv : E = false := by rw [hE]; simp [q_due, q_fine, q_pay, q_coverf]
      repeat' (first
  | (refine zcO _ ?_ key; refine Wk.cut rfl ?_ ?_ ?_ ?_; all_goals (first | (simp [hn]; done) | (simp [wkO, zaa, getK, zab, zac, Ob.under, D.under, zad, zah, q_due, q_fine, q_pay, q_coverf, hv]; done) | (simp [wkU, zak, zaa, getK, D.under, q_due, q_fine, q_pay, q_coverf, hv]; done) | (simp [wkE, zak, zaa, getK, q_due, q_fine, q_pay, q_coverf, hv]; done) | fail))
  | ((first | refine zaf ?_ | refine zaj ?_ | refine zag ?_ | fail); simp [q_due, q_fine, q_pay, q_coverf])
  | (refine CallP.fE (e_due) (by first | rfl | fail) (by first | simp [q_due, q_fine, q_pay, q_coverf] <;> rfl | fail) ?_; (try simp [q_due, q_fine, q_pay, q_coverf]))
  | (refine CallP.fE (e_fine) (by first | rfl | fail) (by first | simp [q_due, q_fine, q_pay, q_coverf] <;> rfl | fail) ?_; (try simp [q_due, q_fine, q_pay, q_coverf]))
  | (refine CallP.fE (e_pay) (by first | rfl | fail) (by first | simp [q_due, q_fine, q_pay, q_coverf] <;> rfl | fail) ?_; (try simp [q_due, q_fine, q_pay, q_coverf]))
  | (refine CallP.fE (e_cover) (by first | rfl | fail) (by first | simp [q_due, q_fine, q_pay, q_coverf] <;> rfl | fail) ?_; (try simp [q_due, q_fine, q_pay, q_coverf]))
  | fail)
    ·have q_payf : eqB a.pay b.pay = false := by simpa using q_pay
     rw [q_payf] at e_pay;have hv : E = false := by rw [hE]; simp [q_due, q_fine, q_payf]
     repeat' (first
  | (refine zcO _ ?_ key; refine Wk.cut rfl ?_ ?_ ?_ ?_; all_goals (first | (simp [hn]; done) | (simp [wkO, zaa, getK, zab, zac, Ob.under, D.under, zad, zah, q_due, q_fine, q_payf, hv]; done) | (simp [wkU, zak, zaa, getK, D.under, q_due, q_fine, q_payf, hv]; done) | (simp [wkE, zak, zaa, getK, q_due, q_fine, q_payf, hv]; done) | fail))
  | ((first | refine zaf ?_ | refine zaj ?_ | refine zag ?_ | fail); simp [q_due, q_fine, q_payf])
  | (refine CallP.fE (e_due) (by first | rfl | fail) (by first | simp [q_due, q_fine, q_payf] <;> rfl | fail) ?_; (try simp [q_due, q_fine, q_payf]))
  | (refine CallP.fE (e_fine) (by first | rfl | fail) (by first | simp [q_due, q_fine, q_payf] <;> rfl | fail) ?_; (try simp [q_due, q_fine, q_payf]))
  | (refine CallP.fE (e_pay) (by first | rfl | fail) (by first | simp [q_due, q_fine, q_payf] <;> rfl | fail) ?_; (try simp [q_due, q_fine, q_payf]))
  | fail)
   ·have q_finef : eqB a.fine b.fine = false := by simpa using q_fine
    rw [q_finef] at e_fine;have hv : E = false := by rw [hE]; simp [q_due, q_finef]
    repeat' (first
  | (refine zcO _ ?_ key; refine Wk.cut rfl ?_ ?_ ?_ ?_; all_goals (first | (simp [hn]; done) | (simp [wkO, zaa, getK, zab, zac, Ob.under, D.under, zad, zah, q_due, q_finef, hv]; done) | (simp [wkU, zak, zaa, getK, D.under, q_due, q_finef, hv]; done) | (simp [wkE, zak, zaa, getK, q_due, q_finef, hv]; done) | fail))
  | ((first | refine zaf ?_ | refine zaj ?_ | refine zag ?_ | fail); simp [q_due, q_finef])
  | (refine CallP.fE (e_due) (by first | rfl | fail) (by first | simp [q_due, q_finef] <;> rfl | fail) ?_; (try simp [q_due, q_finef]))
  | (refine CallP.fE (e_fine) (by first | rfl | fail) (by first | simp [q_due, q_finef] <;> rfl | fail) ?_; (try simp [q_due, q_finef]))
  | fail)
  ·have q_duef : eqB a.due b.due = false := by simpa using q_due
   rw [q_duef] at e_due;have hv : E = false := by rw [hE]; simp [q_duef]
   repeat' (first
  | (refine zcO _ ?_ key; refine Wk.cut rfl ?_ ?_ ?_ ?_; all_goals (first | (simp [hn]; done) | (simp [wkO, zaa, getK, zab, zac, Ob.under, D.under, zad, zah, q_duef, hv]; done) | (simp [wkU, zak, zaa, getK, D.under, q_duef, hv]; done) | (simp [wkE, zak, zaa, getK, q_duef, hv]; done) | fail))
  | ((first | refine zaf ?_ | refine zaj ?_ | refine zag ?_ | fail); simp [q_duef])
  | (refine CallP.fE (e_due) (by first | rfl | fail) (by first | simp [q_duef] <;> rfl | fail) ?_; (try simp [q_duef]))
  | fail)
 case key =>
 obtain ⟨O, hO⟩ : ∃ O : Bool, O = (decide (a.kind = b.kind) && decide (a.period = b.period) && decide (a.grace = b.grace) && decide (a.wait = b.wait) && decide (a.last = b.last) && decide (a.order = b.order)) := ⟨_, rfl⟩;apply zdy (S := { n := 128, env := [(2, .ptr 0 0), (3, .ptr 1 0), (5, .u (.bool L)), (6, .u (.bool E)), (7, .u (.bool O))], obs := [(0, .box [.u (.int .i64 a.kind), .u (.int .i64 a.period), .u (.int .i64 a.grace), .u (.int .i64 a.wait), .u (.int .i64 a.last), .u (.int .i64 a.order), .u (.bool a.sld), .u (.int .i64 a.backs), .u (.int .i64 a.voices), .u (.int .i64 a.jury), .u (.int .i64 a.fund), .u (.sl (a.lets.map fun l => [.str l.name, .int .i64 l.body.op, .int .i64 l.body.n, .int .i64 l.body.unit, .str l.body.s, .sl (l.body.args.map Exp.row)])), .u (.int .i64 a.due.op), .u (.int .i64 a.due.n), .u (.int .i64 a.due.unit), .u (.str a.due.s), .u (.sl (a.due.args.map Exp.row)), .u (.int .i64 a.fine.op), .u (.int .i64 a.fine.n), .u (.int .i64 a.fine.unit), .u (.str a.fine.s), .u (.sl (a.fine.args.map Exp.row)), .u (.int .i64 a.pay.op), .u (.int .i64 a.pay.n), .u (.int .i64 a.pay.unit), .u (.str a.pay.s), .u (.sl (a.pay.args.map Exp.row)), .u (.int .i64 a.cover.op), .u (.int .i64 a.cover.n), .u (.int .i64 a.cover.unit), .u (.str a.cover.s), .u (.sl (a.cover.args.map Exp.row)), .u (.int .i64 a.hold.op), .u (.int .i64 a.hold.n), .u (.int .i64 a.hold.unit), .u (.str a.hold.s), .u (.sl (a.hold.args.map Exp.row))]), (1, .box [.u (.int .i64 b.kind), .u (.int .i64 b.period), .u (.int .i64 b.grace), .u (.int .i64 b.wait), .u (.int .i64 b.last), .u (.int .i64 b.order), .u (.bool b.sld), .u (.int .i64 b.backs), .u (.int .i64 b.voices), .u (.int .i64 b.jury), .u (.int .i64 b.fund), .u (.sl (b.lets.map fun l => [.str l.name, .int .i64 l.body.op, .int .i64 l.body.n, .int .i64 l.body.unit, .str l.body.s, .sl (l.body.args.map Exp.row)])), .u (.int .i64 b.due.op), .u (.int .i64 b.due.n), .u (.int .i64 b.due.unit), .u (.str b.due.s), .u (.sl (b.due.args.map Exp.row)), .u (.int .i64 b.fine.op), .u (.int .i64 b.fine.n), .u (.int .i64 b.fine.unit), .u (.str b.fine.s), .u (.sl (b.fine.args.map Exp.row)), .u (.int .i64 b.pay.op), .u (.int .i64 b.pay.n), .u (.int .i64 b.pay.unit), .u (.str b.pay.s), .u (.sl (b.pay.args.map Exp.row)), .u (.int .i64 b.cover.op), .u (.int .i64 b.cover.n), .u (.int .i64 b.cover.unit), .u (.str b.cover.s), .u (.sl (b.cover.args.map Exp.row)), .u (.int .i64 b.hold.op), .u (.int .i64 b.hold.n), .u (.int .i64 b.hold.unit), .u (.str b.hold.s), .u (.sl (b.hold.args.map Exp.row))])], next := 2 })
 case main =>
  intro key;by_cases q_kind : a.kind = b.kind
  ·skip
   by_cases q_period : a.period = b.period
   ·skip
    by_cases q_grace : a.grace = b.grace
    ·skip
     by_cases q_wait : a.wait = b.wait
     ·skip
      by_cases q_last : a.last = b.last
      ·skip
       by_cases q_order : a.order = b.order
       ·skip
        have hv : O = true := by rw [hO]; simp [q_kind, q_period, q_grace, q_wait, q_last, q_order]
        repeat' (first
  | (refine zcO _ ?_ key; refine Wk.cut rfl ?_ ?_ ?_ ?_; all_goals (first | (simp [hn]; done) | (simp [wkO, zaa, getK, zab, zac, Ob.under, D.under, zad, zah, q_kind, q_period, q_grace, q_wait, q_last, q_order, hv]; done) | (simp [wkU, zak, zaa, getK, D.under, q_kind, q_period, q_grace, q_wait, q_last, q_order, hv]; done) | (simp [wkE, zak, zaa, getK, q_kind, q_period, q_grace, q_wait, q_last, q_order, hv]; done) | fail))
  | ((first | refine zaf ?_ | refine zaj ?_ | refine zag ?_ | fail); simp [q_kind, q_period, q_grace, q_wait, q_last, q_order])
  | fail)
       ·skip
        have hv : O = false := by rw [hO]; simp [q_kind, q_period, q_grace, q_wait, q_last, q_order]
        repeat' (first
  | (refine zcO _ ?_ key; refine Wk.cut rfl ?_ ?_ ?_ ?_; all_goals (first | (simp [hn]; done) | (simp [wkO, zaa, getK, zab, zac, Ob.under, D.under, zad, zah, q_kind, q_period, q_grace, q_wait, q_last, q_order, hv]; done) | (simp [wkU, zak, zaa, getK, D.under, q_kind, q_period, q_grace, q_wait, q_last, q_order, hv]; done) | (simp [wkE, zak, zaa, getK, q_kind, q_period, q_grace, q_wait, q_last, q_order, hv]; done) | fail))
  | ((first | refine zaf ?_ | refine zaj ?_ | refine zag ?_ | fail); simp [q_kind, q_period, q_grace, q_wait, q_last, q_order])
  | fail)
      ·skip
       have hv : O = false := by rw [hO]; simp [q_kind, q_period, q_grace, q_wait, q_last]
       repeat' (first
  | (refine zcO _ ?_ key; refine Wk.cut rfl ?_ ?_ ?_ ?_; all_goals (first | (simp [hn]; done) | (simp [wkO, zaa, getK, zab, zac, Ob.under, D.under, zad, zah, q_kind, q_period, q_grace, q_wait, q_last, hv]; done) | (simp [wkU, zak, zaa, getK, D.under, q_kind, q_period, q_grace, q_wait, q_last, hv]; done) | (simp [wkE, zak, zaa, getK, q_kind, q_period, q_grace, q_wait, q_last, hv]; done) | fail))
  | ((first | refine zaf ?_ | refine zaj ?_ | refine zag ?_ | fail); simp [q_kind, q_period, q_grace, q_wait, q_last])
  | fail)
     ·skip
      have hv : O = false := by rw [hO]; simp [q_kind, q_period, q_grace, q_wait]
      repeat' (first
  | (refine zcO _ ?_ key; refine Wk.cut rfl ?_ ?_ ?_ ?_; all_goals (first | (simp [hn]; done) | (simp [wkO, zaa, getK, zab, zac, Ob.under, D.under, zad, zah, q_kind, q_period, q_grace, q_wait, hv]; done) | (simp [wkU, zak, zaa, getK, D.under, q_kind, q_period, q_grace, q_wait, hv]; done) | (simp [wkE, zak, zaa, getK, q_kind, q_period, q_grace, q_wait, hv]; done) | fail))
  | ((first | refine zaf ?_ | refine zaj ?_ | refine zag ?_ | fail); simp [q_kind, q_period, q_grace, q_wait])
  | fail)
    ·skip
     have hv : O = false := by rw [hO]; simp [q_kind, q_period, q_grace]
     repeat' (first
  | (refine zcO _ ?_ key; refine Wk.cut rfl ?_ ?_ ?_ ?_; all_goals (first | (simp [hn]; done) | (simp [wkO, zaa, getK, zab, zac, Ob.under, D.under, zad, zah, q_kind, q_period, q_grace, hv]; done) | (simp [wkU, zak, zaa, getK, D.under, q_kind, q_period, q_grace, hv]; done) | (simp [wkE, zak, zaa, getK, q_kind, q_period, q_grace, hv]; done) | fail))
  | ((first | refine zaf ?_ | refine zaj ?_ | refine zag ?_ | fail); simp [q_kind, q_period, q_grace])
  | fail)
   ·skip
    have hv : O = false := by rw [hO]; simp [q_kind, q_period]
    repeat' (first
  | (refine zcO _ ?_ key; refine Wk.cut rfl ?_ ?_ ?_ ?_; all_goals (first | (simp [hn]; done) | (simp [wkO, zaa, getK, zab, zac, Ob.under, D.under, zad, zah, q_kind, q_period, hv]; done) | (simp [wkU, zak, zaa, getK, D.under, q_kind, q_period, hv]; done) | (simp [wkE, zak, zaa, getK, q_kind, q_period, hv]; done) | fail))
  | ((first | refine zaf ?_ | refine zaj ?_ | refine zag ?_ | fail); simp [q_kind, q_period])
  | fail)
  ·skip
   have hv : O = false := by rw [hO]; simp [q_kind]
   repeat' (first
  | (refine zcO _ ?_ key; refine Wk.cut rfl ?_ ?_ ?_ ?_; all_goals (first | (simp [hn]; done) | (simp [wkO, zaa, getK, zab, zac, Ob.under, D.under, zad, zah, q_kind, hv]; done) | (simp [wkU, zak, zaa, getK, D.under, q_kind, hv]; done) | (simp [wkE, zak, zaa, getK, q_kind, hv]; done) | fail))
  | ((first | refine zaf ?_ | refine zaj ?_ | refine zag ?_ | fail); simp [q_kind])
  | fail)
 case key =>
 by_cases q_L : L = true
 ·skip
  by_cases q_E : E = true
  ·skip
   by_cases q_O : O = true
   ·skip
    by_cases q_sld : a.sld = b.sld
    ·skip
     by_cases q_backs : a.backs = b.backs
     ·skip
      by_cases q_voices : a.voices = b.voices
      ·skip
       by_cases q_jury : a.jury = b.jury
       ·skip
        by_cases q_fund : a.fund = b.fund
        ·skip
         have hv : eqB a b = true := zb0.2 (by
             have k1 := hL.symm.trans q_L; have k2 := hE.symm.trans q_E; have k3 := hO.symm.trans q_O; simp only [Bool.and_eq_true, decide_eq_true_eq] at k2 k3; obtain ⟨⟨⟨⟨x1, x2⟩, x3⟩, x4⟩, x5⟩ := k2; obtain ⟨⟨⟨⟨⟨y1, y2⟩, y3⟩, y4⟩, y5⟩, y6⟩ := k3; exact zoR y1 y2 y3 y4 y5 y6 q_sld q_backs q_voices q_jury q_fund k1 x1 x2 x3 x4 x5)
         rw [hv]
         repeat' (first
  | ((first | refine zaf ?_ | refine zaj ?_ | refine zag ?_ | fail); simp [q_L, q_E, q_O, q_sld, q_backs, q_voices, q_jury, q_fund])
  | (refine zap ?_; simp only [zao])
  | fail)
         (refine EndOK.val (.inr rfl) ?_; simp [zay, zae, zaq, Tryz.results27])
        ·skip
         have hv : eqB a b = false := zbC (fun e => by subst e; simp [zbB, hL, hE, hO] at *);rw [hv]
         repeat' (first
  | ((first | refine zaf ?_ | refine zaj ?_ | refine zag ?_ | fail); simp [q_L, q_E, q_O, q_sld, q_backs, q_voices, q_jury, q_fund])
  | (refine zap ?_; simp only [zao])
  | fail)
         (refine EndOK.val (.inr rfl) ?_; simp [zay, zae, zaq, Tryz.results27])
       ·skip
        have hv : eqB a b = false := zbC (fun e => by subst e; simp [zbB, hL, hE, hO] at *);rw [hv]
        repeat' (first
  | ((first | refine zaf ?_ | refine zaj ?_ | refine zag ?_ | fail); simp [q_L, q_E, q_O, q_sld, q_backs, q_voices, q_jury])
  | (refine zap ?_; simp only [zao])
  | fail)
        (refine EndOK.val (.inr rfl) ?_; simp [zay, zae, zaq, Tryz.results27])
      ·skip
       have hv : eqB a b = false := zbC (fun e => by subst e; simp [zbB, hL, hE, hO] at *);rw [hv]
       repeat' (first
  | ((first | refine zaf ?_ | refine zaj ?_ | refine zag ?_ | fail); simp [q_L, q_E, q_O, q_sld, q_backs, q_voices])
  | (refine zap ?_; simp only [zao])
  | fail)
       (refine EndOK.val (.inr rfl) ?_; simp [zay, zae, zaq, Tryz.results27])
     ·skip
      have hv : eqB a b = false := zbC (fun e => by subst e; simp [zbB, hL, hE, hO] at *);rw [hv]
      repeat' (first
  | ((first | refine zaf ?_ | refine zaj ?_ | refine zag ?_ | fail); simp [q_L, q_E, q_O, q_sld, q_backs])
  | (refine zap ?_; simp only [zao])
  | fail)
      (refine EndOK.val (.inr rfl) ?_; simp [zay, zae, zaq, Tryz.results27])
    ·skip
     have hv : eqB a b = false := zbC (fun e => by subst e; simp [zbB, hL, hE, hO] at *);rw [hv]
     repeat' (first
  | ((first | refine zaf ?_ | refine zaj ?_ | refine zag ?_ | fail); simp [q_L, q_E, q_O, q_sld])
  | (refine zap ?_; simp only [zao])
  | fail)
     (refine EndOK.val (.inr rfl) ?_; simp [zay, zae, zaq, Tryz.results27])
   ·skip
    have hv : eqB a b = false := zbC (fun e => by subst e; simp [zbB, hL, hE, hO] at *);rw [hv]
    repeat' (first
  | ((first | refine zaf ?_ | refine zaj ?_ | refine zag ?_ | fail); simp [q_L, q_E, q_O])
  | (refine zap ?_; simp only [zao])
  | fail)
    (refine EndOK.val (.inr rfl) ?_; simp [zay, zae, zaq, Tryz.results27])
  ·skip
   have hv : eqB a b = false := zbC (fun e => by subst e; simp [zbB, hL, hE, hO] at *);rw [hv]
   repeat' (first
  | ((first | refine zaf ?_ | refine zaj ?_ | refine zag ?_ | fail); simp [q_L, q_E])
  | (refine zap ?_; simp only [zao])
  | fail)
   (refine EndOK.val (.inr rfl) ?_; simp [zay, zae, zaq, Tryz.results27])
 ·skip
  have hv : eqB a b = false := zbC (fun e => by subst e; simp [zbB, hL, hE, hO] at *);rw [hv]
  repeat' (first
  | ((first | refine zaf ?_ | refine zaj ?_ | refine zag ?_ | fail); simp [q_L])
  | (refine zap ?_; simp only [zao])
  | fail)
  (refine EndOK.val (.inr rfl) ?_; simp [zay, zae, zaq, Tryz.results27])
theorem zhR (A B : List Let) : Fun Tryz.prog 46 [.u (zeV A), .u (zeV B)] (· = .u (.bool (eqB A B))) := by
 simp only [zeV];by_cases hl : A.length = B.length
 ·have hl' : (A.length : Int) = B.length := by omega
  (refine Fun.of_body Tryz.func46 rfl (by simp) fun Γ hn => ?_); simp only [entry, ziC, ziN, maC, maN, oA, Tryz.ntmps46]
  refine ziu (x := 0) rfl fun hll => ?_;simp at hll
  repeat' (first
  | ((first | refine zaf ?_ | refine zaj ?_ | refine zag ?_ | refine zai ?_ | refine zas ?_ | fail); simp [hl, hl'])
  | (refine zar ?_; simp only [zao])
  | fail)
  refine zbU (α := { i : Nat // i <= A.length /\ A.take i = B.take i }) [0, 1, 4] (fun x => [(5, .u (.int .i64 x.1))]) (fun x => A.length - x.1) ⟨0, by omega, by simp⟩ ?_ ?_
  ·exact (Wk.env rfl rfl rfl (by simp [wkE, St.lp, zak, zaa, getK, hl] <;> (try (intros; simp_all; done)) <;> (try (intros; omega)) <;> (try grind)))
  rintro ⟨i, hi, hb⟩;simp [St.lp, St.only, zak, zaa, getK];rcases hx : A[i]? with _ | a
  ·have hge : A.length <= i := by simpa using hx
   obtain rfl : i = A.length := by omega
   rw [List.take_of_length_le (Nat.le_refl _), List.take_of_length_le (by omega)] at hb;subst hb;rw [zbB]
   repeat' (first
  | ((first | refine zaf ?_ | refine zaj ?_ | refine zag ?_ | refine zai ?_ | fail); simp [hx, hl])
  | (refine zap ?_; simp only [zao])
  | (refine zbq ?_; simp [zao])
  | fail)
   (refine EndOK.val (.inr rfl) ?_; simp [zay, zae, zaq, Tryz.results46])
  ·have hlt : i < A.length := (lGE.1 hx).1;have hlt2 : i < B.length := by omega
   obtain ⟨b, hy⟩ : ∃ b, B[i]? = some b := ⟨_, List.getElem?_eq_getElem hlt2⟩;have hi2 : (i : Int) < B.length := by omega
   have h1 : zfP a.body b.body := zbX _ _;unfold zfP at h1;rw [Exp.row_eq, Exp.row_eq] at h1;by_cases hab : a = b
   ·have hnm : a.name = b.name := by rw [hab]
    rw [hab, zbB] at h1;rw [hab] at hx
    repeat' (first
  | ((first | refine zaf ?_ | refine zez ?_ | refine zaj ?_ | fail); simp [hx, hy, hi2])
  | (refine ⟨by omega, ?_⟩)
  | ((first | refine zag ?_ | refine zai ?_ | fail); simp [hx, hy, hi2])
  | (refine zfY ?_)
  | (refine hk _ ?_; clear hk k; simp only [zao])
  | (refine zey rfl (by kernel_rfl) (by kernel_rfl) fun k hk => ?_; simp [hx, hy, hi2])
  | (refine ziw rfl (by simp [hx, hy, hi2]) (fun hc => ?_) (fun hc => ?_) <;> (try simp [hx, hy, hi2] at hc) <;> (try (exfalso; omega)) <;> (try simp [hx, hy, hi2]))
  | (refine zat ?_; simp [hx, hy, hi2])
  | (refine zar ?_; simp only [zao])
  | (refine ⟨?_, by omega⟩)
  | (intro hc <;> (try (exfalso; omega)))
  | (refine CallV.fun_ (h1) (by first | rfl | fail) (by first | simp [hx, hy, hi2] <;> rfl | fail) ?_ <;> (try simp [hx, hy, hi2]))
  | fail)
    have hsn : A.take (i + 1) = B.take (i + 1) := by
     rw [List.take_succ_eq_append_getElem hlt, List.take_succ_eq_append_getElem hlt2, hb, (lGE.1 hx).2, (lGE.1 hy).2]
    refine LoopW.next ⟨i + 1, by omega, hsn⟩ (by simp; omega) ?_
    exact (Wk.env rfl rfl rfl (by simp [wkE, St.lp, zak, zaa, getK, hl] <;> (try (intros; simp_all; done)) <;> (try (intros; omega)) <;> (try grind)))
   ·have hne : A ≠ B := fun e => by subst e; rw [hx] at hy; cases hy; exact hab rfl
    rw [zbC hne];by_cases hnm : a.name = b.name
    ·have hbd : a.body ≠ b.body := fun e => hab (by cases a; cases b; simp_all);rw [zbC hbd] at h1
     repeat' (first
  | ((first | refine zaf ?_ | refine zez ?_ | refine zaj ?_ | refine zag ?_ | refine zai ?_ | fail); simp [hx, hy, hi2, hnm])
  | (refine zfY ?_)
  | (refine hk _ ?_; clear hk k; simp only [zao])
  | (refine zey rfl (by kernel_rfl) (by kernel_rfl) fun k hk => ?_; simp [hx, hy, hi2, hnm])
  | (refine ziw rfl (by simp [hx, hy, hi2, hnm]) (fun hc => ?_) (fun hc => ?_) <;> (try simp [hx, hy, hi2, hnm] at hc) <;> (try (exfalso; omega)) <;> (try simp [hx, hy, hi2, hnm]))
  | ((first | refine zap ?_ | refine zar ?_ | fail); simp only [zao])
  | (refine ⟨?_, by omega⟩)
  | (intro hc <;> (try (exfalso; omega)))
  | (refine CallV.fun_ (h1) (by first | rfl | fail) (by first | simp [hx, hy, hi2, hnm] <;> rfl | fail) ?_ <;> (try simp [hx, hy, hi2, hnm]))
  | fail)
     (refine EndOK.val (.inr rfl) ?_; simp [zay, zae, zaq, Tryz.results46])
    ·repeat' (first
  | ((first | refine zaf ?_ | refine zez ?_ | refine zaj ?_ | refine zag ?_ | refine zai ?_ | fail); simp [hx, hy, hi2, hnm])
  | (refine zfY ?_)
  | (refine hk _ ?_; clear hk k; simp only [zao])
  | (refine zey rfl (by kernel_rfl) (by kernel_rfl) fun k hk => ?_; simp [hx, hy, hi2, hnm])
  | (refine ziw rfl (by simp [hx, hy, hi2, hnm]) (fun hc => ?_) (fun hc => ?_) <;> (try simp [hx, hy, hi2, hnm] at hc) <;> (try (exfalso; omega)) <;> (try simp [hx, hy, hi2, hnm]))
  | ((first | refine zap ?_ | refine zar ?_ | fail); simp only [zao])
  | (refine ⟨?_, by omega⟩)
  | (intro hc <;> (try (exfalso; omega)))
  | fail)
     (refine EndOK.val (.inr rfl) ?_; simp [zay, zae, zaq, Tryz.results46])
 ·have hl' : ¬ (A.length : Int) = B.length := by omega
  rw [zbC (fun e => hl (by rw [e]))]
  (refine Fun.of_body Tryz.func46 rfl (by simp) fun Γ hn => ?_); simp only [entry, ziC, ziN, maC, maN, oA, Tryz.ntmps46]
  repeat' (first
  | ((first | refine zaf ?_ | refine zaj ?_ | refine zag ?_ | refine zai ?_ | fail); simp [hl, hl'])
  | (refine zap ?_; simp only [zao])
  | fail)
  (refine EndOK.val (.inr rfl) ?_; simp [zay, zae, zaq, Tryz.results46])
theorem zjU (a b : By) : Fun Tryz.prog 14 [.u (.agg (zaS a)), .u (.agg (zaS b))] (· = .u (.bool (eqB a b))) := by
 have e_lets := zhR a.lets b.lets;have e_due := zbX a.due b.due;have e_fine := zbX a.fine b.fine;have e_pay := zbX a.pay b.pay;have e_cover := zbX a.cover b.cover;have e_hold := zbX a.hold b.hold;unfold zfP at e_due e_fine e_pay e_cover e_hold;rw [Exp.row_eq, Exp.row_eq] at e_due e_fine e_pay e_cover e_hold;simp only [zeV] at e_lets;unfold zaS
 (refine Fun.of_body Tryz.func14 rfl (by simp) fun Γ hn => ?_); simp only [entry, ziC, ziN, maC, maN, oA, Tryz.ntmps14]
 obtain ⟨N, hN⟩ : ∃ N : Bool, N = (decide (a.kind = b.kind) && decide (a.period = b.period) && decide (a.grace = b.grace) && decide (a.wait = b.wait) && decide (a.last = b.last) && decide (a.order = b.order) && decide (a.sld = b.sld)) := ⟨_, rfl⟩;apply zdy (S := { n := 126, env := [(2, .ptr 0 0), (3, .ptr 1 0), (5, .u (.bool N))], obs := [(0, .box [.u (.int .i64 a.kind), .u (.int .i64 a.period), .u (.int .i64 a.grace), .u (.int .i64 a.wait), .u (.int .i64 a.last), .u (.int .i64 a.order), .u (.bool a.sld), .u (.int .i64 a.backs), .u (.int .i64 a.voices), .u (.int .i64 a.jury), .u (.int .i64 a.fund), .u (.sl (a.lets.map fun l => [.str l.name, .int .i64 l.body.op, .int .i64 l.body.n, .int .i64 l.body.unit, .str l.body.s, .sl (l.body.args.map Exp.row)])), .u (.int .i64 a.due.op), .u (.int .i64 a.due.n), .u (.int .i64 a.due.unit), .u (.str a.due.s), .u (.sl (a.due.args.map Exp.row)), .u (.int .i64 a.fine.op), .u (.int .i64 a.fine.n), .u (.int .i64 a.fine.unit), .u (.str a.fine.s), .u (.sl (a.fine.args.map Exp.row)), .u (.int .i64 a.pay.op), .u (.int .i64 a.pay.n), .u (.int .i64 a.pay.unit), .u (.str a.pay.s), .u (.sl (a.pay.args.map Exp.row)), .u (.int .i64 a.cover.op), .u (.int .i64 a.cover.n), .u (.int .i64 a.cover.unit), .u (.str a.cover.s), .u (.sl (a.cover.args.map Exp.row)), .u (.int .i64 a.hold.op), .u (.int .i64 a.hold.n), .u (.int .i64 a.hold.unit), .u (.str a.hold.s), .u (.sl (a.hold.args.map Exp.row))]), (1, .box [.u (.int .i64 b.kind), .u (.int .i64 b.period), .u (.int .i64 b.grace), .u (.int .i64 b.wait), .u (.int .i64 b.last), .u (.int .i64 b.order), .u (.bool b.sld), .u (.int .i64 b.backs), .u (.int .i64 b.voices), .u (.int .i64 b.jury), .u (.int .i64 b.fund), .u (.sl (b.lets.map fun l => [.str l.name, .int .i64 l.body.op, .int .i64 l.body.n, .int .i64 l.body.unit, .str l.body.s, .sl (l.body.args.map Exp.row)])), .u (.int .i64 b.due.op), .u (.int .i64 b.due.n), .u (.int .i64 b.due.unit), .u (.str b.due.s), .u (.sl (b.due.args.map Exp.row)), .u (.int .i64 b.fine.op), .u (.int .i64 b.fine.n), .u (.int .i64 b.fine.unit), .u (.str b.fine.s), .u (.sl (b.fine.args.map Exp.row)), .u (.int .i64 b.pay.op), .u (.int .i64 b.pay.n), .u (.int .i64 b.pay.unit), .u (.str b.pay.s), .u (.sl (b.pay.args.map Exp.row)), .u (.int .i64 b.cover.op), .u (.int .i64 b.cover.n), .u (.int .i64 b.cover.unit), .u (.str b.cover.s), .u (.sl (b.cover.args.map Exp.row)), .u (.int .i64 b.hold.op), .u (.int .i64 b.hold.n), .u (.int .i64 b.hold.unit), .u (.str b.hold.s), .u (.sl (b.hold.args.map Exp.row))])], next := 2 })
 case main =>
  intro key;by_cases q_kind : a.kind = b.kind
  ·skip
   by_cases q_period : a.period = b.period
   ·skip
    by_cases q_grace : a.grace = b.grace
    ·skip
     by_cases q_wait : a.wait = b.wait
     ·skip
      by_cases q_last : a.last = b.last
      ·skip
       by_cases q_order : a.order = b.order
       ·skip
        by_cases q_sld : a.sld = b.sld
        ·skip
         have hv : N = true := by rw [hN]; simp [q_kind, q_period, q_grace, q_wait, q_last, q_order, q_sld]
         repeat' (first
  | (refine zcO _ ?_ key; refine Wk.cut rfl ?_ ?_ ?_ ?_; all_goals (first | (simp [hn]; done) | (simp [wkO, zaa, getK, zab, zac, Ob.under, D.under, zad, zah, q_kind, q_period, q_grace, q_wait, q_last, q_order, q_sld, hv]; done) | (simp [wkU, zak, zaa, getK, D.under, q_kind, q_period, q_grace, q_wait, q_last, q_order, q_sld, hv]; done) | (simp [wkE, zak, zaa, getK, q_kind, q_period, q_grace, q_wait, q_last, q_order, q_sld, hv]; done) | fail))
  | ((first | refine zaf ?_ | refine zaj ?_ | refine zag ?_ | fail); simp [q_kind, q_period, q_grace, q_wait, q_last, q_order, q_sld])
  | fail)
        ·skip
         have hv : N = false := by rw [hN]; simp [q_kind, q_period, q_grace, q_wait, q_last, q_order, q_sld]
         repeat' (first
  | (refine zcO _ ?_ key; refine Wk.cut rfl ?_ ?_ ?_ ?_; all_goals (first | (simp [hn]; done) | (simp [wkO, zaa, getK, zab, zac, Ob.under, D.under, zad, zah, q_kind, q_period, q_grace, q_wait, q_last, q_order, q_sld, hv]; done) | (simp [wkU, zak, zaa, getK, D.under, q_kind, q_period, q_grace, q_wait, q_last, q_order, q_sld, hv]; done) | (simp [wkE, zak, zaa, getK, q_kind, q_period, q_grace, q_wait, q_last, q_order, q_sld, hv]; done) | fail))
  | ((first | refine zaf ?_ | refine zaj ?_ | refine zag ?_ | fail); simp [q_kind, q_period, q_grace, q_wait, q_last, q_order, q_sld])
  | fail)
       ·skip
        have hv : N = false := by rw [hN]; simp [q_kind, q_period, q_grace, q_wait, q_last, q_order]
        repeat' (first
  | (refine zcO _ ?_ key; refine Wk.cut rfl ?_ ?_ ?_ ?_; all_goals (first | (simp [hn]; done) | (simp [wkO, zaa, getK, zab, zac, Ob.under, D.under, zad, zah, q_kind, q_period, q_grace, q_wait, q_last, q_order, hv]; done) | (simp [wkU, zak, zaa, getK, D.under, q_kind, q_period, q_grace, q_wait, q_last, q_order, hv]; done) | (simp [wkE, zak, zaa, getK, q_kind, q_period, q_grace, q_wait, q_last, q_order, hv]; done) | fail))
  | ((first | refine zaf ?_ | refine zaj ?_ | refine zag ?_ | fail); simp [q_kind, q_period, q_grace, q_wait, q_last, q_order])
  | fail)
      ·skip
       have hv : N = false := by rw [hN]; simp [q_kind, q_period, q_grace, q_wait, q_last]
       repeat' (first
  | (refine zcO _ ?_ key; refine Wk.cut rfl ?_ ?_ ?_ ?_; all_goals (first | (simp [hn]; done) | (simp [wkO, zaa, getK, zab, zac, Ob.under, D.under, zad, zah, q_kind, q_period, q_grace, q_wait, q_last, hv]; done) | (simp [wkU, zak, zaa, getK, D.under, q_kind, q_period, q_grace, q_wait, q_last, hv]; done) | (simp [wkE, zak, zaa, getK, q_kind, q_period, q_grace, q_wait, q_last, hv]; done) | fail))
  | ((first | refine zaf ?_ | refine zaj ?_ | refine zag ?_ | fail); simp [q_kind, q_period, q_grace, q_wait, q_last])
  | fail)
     ·skip
      have hv : N = false := by rw [hN]; simp [q_kind, q_period, q_grace, q_wait]
      repeat' (first
  | (refine zcO _ ?_ key; refine Wk.cut rfl ?_ ?_ ?_ ?_; all_goals (first | (simp [hn]; done) | (simp [wkO, zaa, getK, zab, zac, Ob.under, D.under, zad, zah, q_kind, q_period, q_grace, q_wait, hv]; done) | (simp [wkU, zak, zaa, getK, D.under, q_kind, q_period, q_grace, q_wait, hv]; done) | (simp [wkE, zak, zaa, getK, q_kind, q_period, q_grace, q_wait, hv]; done) | fail))
  | ((first | refine zaf ?_ | refine zaj ?_ | refine zag ?_ | fail); simp [q_kind, q_period, q_grace, q_wait])
  | fail)
    ·skip
     have hv : N = false := by rw [hN]; simp [q_kind, q_period, q_grace]
     repeat' (first
  | (refine zcO _ ?_ key; refine Wk.cut rfl ?_ ?_ ?_ ?_; all_goals (first | (simp [hn]; done) | (simp [wkO, zaa, getK, zab, zac, Ob.under, D.under, zad, zah, q_kind, q_period, q_grace, hv]; done) | (simp [wkU, zak, zaa, getK, D.under, q_kind, q_period, q_grace, hv]; done) | (simp [wkE, zak, zaa, getK, q_kind, q_period, q_grace, hv]; done) | fail))
  | ((first | refine zaf ?_ | refine zaj ?_ | refine zag ?_ | fail); simp [q_kind, q_period, q_grace])
  | fail)
   ·skip
    have hv : N = false := by rw [hN]; simp [q_kind, q_period]
    repeat' (first
  | (refine zcO _ ?_ key; refine Wk.cut rfl ?_ ?_ ?_ ?_; all_goals (first | (simp [hn]; done) | (simp [wkO, zaa, getK, zab, zac, Ob.under, D.under, zad, zah, q_kind, q_period, hv]; done) | (simp [wkU, zak, zaa, getK, D.under, q_kind, q_period, hv]; done) | (simp [wkE, zak, zaa, getK, q_kind, q_period, hv]; done) | fail))
  | ((first | refine zaf ?_ | refine zaj ?_ | refine zag ?_ | fail); simp [q_kind, q_period])
  | fail)
  ·skip
   have hv : N = false := by rw [hN]; simp [q_kind]
   repeat' (first
  | (refine zcO _ ?_ key; refine Wk.cut rfl ?_ ?_ ?_ ?_; all_goals (first | (simp [hn]; done) | (simp [wkO, zaa, getK, zab, zac, Ob.under, D.under, zad, zah, q_kind, hv]; done) | (simp [wkU, zak, zaa, getK, D.under, q_kind, hv]; done) | (simp [wkE, zak, zaa, getK, q_kind, hv]; done) | fail))
  | ((first | refine zaf ?_ | refine zaj ?_ | refine zag ?_ | fail); simp [q_kind])
  | fail)
 case key =>
 obtain ⟨W, hW⟩ : ∃ W : Bool, W = (decide (a.backs = b.backs) && decide (a.voices = b.voices) && decide (a.jury = b.jury) && decide (a.fund = b.fund) && eqB a.lets b.lets) := ⟨_, rfl⟩;apply zdy (S := { n := 126, env := [(2, .ptr 0 0), (3, .ptr 1 0), (5, .u (.bool N)), (6, .u (.bool W))], obs := [(0, .box [.u (.int .i64 a.kind), .u (.int .i64 a.period), .u (.int .i64 a.grace), .u (.int .i64 a.wait), .u (.int .i64 a.last), .u (.int .i64 a.order), .u (.bool a.sld), .u (.int .i64 a.backs), .u (.int .i64 a.voices), .u (.int .i64 a.jury), .u (.int .i64 a.fund), .u (.sl (a.lets.map fun l => [.str l.name, .int .i64 l.body.op, .int .i64 l.body.n, .int .i64 l.body.unit, .str l.body.s, .sl (l.body.args.map Exp.row)])), .u (.int .i64 a.due.op), .u (.int .i64 a.due.n), .u (.int .i64 a.due.unit), .u (.str a.due.s), .u (.sl (a.due.args.map Exp.row)), .u (.int .i64 a.fine.op), .u (.int .i64 a.fine.n), .u (.int .i64 a.fine.unit), .u (.str a.fine.s), .u (.sl (a.fine.args.map Exp.row)), .u (.int .i64 a.pay.op), .u (.int .i64 a.pay.n), .u (.int .i64 a.pay.unit), .u (.str a.pay.s), .u (.sl (a.pay.args.map Exp.row)), .u (.int .i64 a.cover.op), .u (.int .i64 a.cover.n), .u (.int .i64 a.cover.unit), .u (.str a.cover.s), .u (.sl (a.cover.args.map Exp.row)), .u (.int .i64 a.hold.op), .u (.int .i64 a.hold.n), .u (.int .i64 a.hold.unit), .u (.str a.hold.s), .u (.sl (a.hold.args.map Exp.row))]), (1, .box [.u (.int .i64 b.kind), .u (.int .i64 b.period), .u (.int .i64 b.grace), .u (.int .i64 b.wait), .u (.int .i64 b.last), .u (.int .i64 b.order), .u (.bool b.sld), .u (.int .i64 b.backs), .u (.int .i64 b.voices), .u (.int .i64 b.jury), .u (.int .i64 b.fund), .u (.sl (b.lets.map fun l => [.str l.name, .int .i64 l.body.op, .int .i64 l.body.n, .int .i64 l.body.unit, .str l.body.s, .sl (l.body.args.map Exp.row)])), .u (.int .i64 b.due.op), .u (.int .i64 b.due.n), .u (.int .i64 b.due.unit), .u (.str b.due.s), .u (.sl (b.due.args.map Exp.row)), .u (.int .i64 b.fine.op), .u (.int .i64 b.fine.n), .u (.int .i64 b.fine.unit), .u (.str b.fine.s), .u (.sl (b.fine.args.map Exp.row)), .u (.int .i64 b.pay.op), .u (.int .i64 b.pay.n), .u (.int .i64 b.pay.unit), .u (.str b.pay.s), .u (.sl (b.pay.args.map Exp.row)), .u (.int .i64 b.cover.op), .u (.int .i64 b.cover.n), .u (.int .i64 b.cover.unit), .u (.str b.cover.s), .u (.sl (b.cover.args.map Exp.row)), .u (.int .i64 b.hold.op), .u (.int .i64 b.hold.n), .u (.int .i64 b.hold.unit), .u (.str b.hold.s), .u (.sl (b.hold.args.map Exp.row))])], next := 2 })
 case main =>
  intro key;by_cases q_backs : a.backs = b.backs
  ·skip
   by_cases q_voices : a.voices = b.voices
   ·skip
    by_cases q_jury : a.jury = b.jury
    ·skip
     by_cases q_fund : a.fund = b.fund
     ·skip
      by_cases q_lets : eqB a.lets b.lets = true
      ·rw [q_lets] at e_lets;have hv : W = true := by rw [hW]; simp [q_backs, q_voices, q_jury, q_fund, q_lets]
       repeat' (first
  | (refine zcO _ ?_ key; refine Wk.cut rfl ?_ ?_ ?_ ?_; all_goals (first | (simp [hn]; done) | (simp [wkO, zaa, getK, zab, zac, Ob.under, D.under, zad, zah, q_backs, q_voices, q_jury, q_fund, q_lets, hv]; done) | (simp [wkU, zak, zaa, getK, D.under, q_backs, q_voices, q_jury, q_fund, q_lets, hv]; done) | (simp [wkE, zak, zaa, getK, q_backs, q_voices, q_jury, q_fund, q_lets, hv]; done) | fail))
  | ((first | refine zaf ?_ | refine zaj ?_ | refine zag ?_ | fail); simp [q_backs, q_voices, q_jury, q_fund, q_lets])
  | (refine CallP.fE (e_lets) (by first | rfl | fail) (by first | simp [q_backs, q_voices, q_jury, q_fund, q_lets] <;> rfl | fail) ?_; (try simp [q_backs, q_voices, q_jury, q_fund, q_lets]))
  | fail)
      ·have q_letsf : eqB a.lets b.lets = false := by simpa using q_lets
       rw [q_letsf] at e_lets;have hv : W = false := by rw [hW]; simp [q_backs, q_voices, q_jury, q_fund, q_letsf]
       repeat' (first
  | (refine zcO _ ?_ key; refine Wk.cut rfl ?_ ?_ ?_ ?_; all_goals (first | (simp [hn]; done) | (simp [wkO, zaa, getK, zab, zac, Ob.under, D.under, zad, zah, q_backs, q_voices, q_jury, q_fund, q_letsf, hv]; done) | (simp [wkU, zak, zaa, getK, D.under, q_backs, q_voices, q_jury, q_fund, q_letsf, hv]; done) | (simp [wkE, zak, zaa, getK, q_backs, q_voices, q_jury, q_fund, q_letsf, hv]; done) | fail))
  | ((first | refine zaf ?_ | refine zaj ?_ | refine zag ?_ | fail); simp [q_backs, q_voices, q_jury, q_fund, q_letsf])
  | (refine CallP.fE (e_lets) (by first | rfl | fail) (by first | simp [q_backs, q_voices, q_jury, q_fund, q_letsf] <;> rfl | fail) ?_; (try simp [q_backs, q_voices, q_jury, q_fund, q_letsf]))
  | fail)
     ·skip
      have hv : W = false := by rw [hW]; simp [q_backs, q_voices, q_jury, q_fund]
      repeat' (first
  | (refine zcO _ ?_ key; refine Wk.cut rfl ?_ ?_ ?_ ?_; all_goals (first | (simp [hn]; done) | (simp [wkO, zaa, getK, zab, zac, Ob.under, D.under, zad, zah, q_backs, q_voices, q_jury, q_fund, hv]; done) | (simp [wkU, zak, zaa, getK, D.under, q_backs, q_voices, q_jury, q_fund, hv]; done) | (simp [wkE, zak, zaa, getK, q_backs, q_voices, q_jury, q_fund, hv]; done) | fail))
  | ((first | refine zaf ?_ | refine zaj ?_ | refine zag ?_ | fail); simp [q_backs, q_voices, q_jury, q_fund])
  | fail)
    ·skip
     have hv : W = false := by rw [hW]; simp [q_backs, q_voices, q_jury]
     repeat' (first
  | (refine zcO _ ?_ key; refine Wk.cut rfl ?_ ?_ ?_ ?_; all_goals (first | (simp [hn]; done) | (simp [wkO, zaa, getK, zab, zac, Ob.under, D.under, zad, zah, q_backs, q_voices, q_jury, hv]; done) | (simp [wkU, zak, zaa, getK, D.under, q_backs, q_voices, q_jury, hv]; done) | (simp [wkE, zak, zaa, getK, q_backs, q_voices, q_jury, hv]; done) | fail))
  | ((first | refine zaf ?_ | refine zaj ?_ | refine zag ?_ | fail); simp [q_backs, q_voices, q_jury])
  | fail)
   ·skip
    have hv : W = false := by rw [hW]; simp [q_backs, q_voices]
    repeat' (first
  | (refine zcO _ ?_ key; refine Wk.cut rfl ?_ ?_ ?_ ?_; all_goals (first | (simp [hn]; done) | (simp [wkO, zaa, getK, zab, zac, Ob.under, D.under, zad, zah, q_backs, q_voices, hv]; done) | (simp [wkU, zak, zaa, getK, D.under, q_backs, q_voices, hv]; done) | (simp [wkE, zak, zaa, getK, q_backs, q_voices, hv]; done) | fail))
  | ((first | refine zaf ?_ | refine zaj ?_ | refine zag ?_ | fail); simp [q_backs, q_voices])
  | fail)
  ·skip
   have hv : W = false := by rw [hW]; simp [q_backs]
   repeat' (first
  | (refine zcO _ ?_ key; refine Wk.cut rfl ?_ ?_ ?_ ?_; all_goals (first | (simp [hn]; done) | (simp [wkO, zaa, getK, zab, zac, Ob.under, D.under, zad, zah, q_backs, hv]; done) | (simp [wkU, zak, zaa, getK, D.under, q_backs, hv]; done) | (simp [wkE, zak, zaa, getK, q_backs, hv]; done) | fail))
  | ((first | refine zaf ?_ | refine zaj ?_ | refine zag ?_ | fail); simp [q_backs])
  | fail)
 case key =>
 by_cases q_N : N = true
 ·skip
  by_cases q_W : W = true
  ·skip
   by_cases q_due : eqB a.due b.due = true
   ·rw [q_due] at e_due;by_cases q_fine : eqB a.fine b.fine = true
    ·rw [q_fine] at e_fine;by_cases q_pay : eqB a.pay b.pay = true
     ·rw [q_pay] at e_pay;by_cases q_cover : eqB a.cover b.cover = true
      ·rw [q_cover] at e_cover;by_cases q_hold : eqB a.hold b.hold = true
       ·rw [q_hold] at e_hold;have hv : eqB a b = true := zb0.2 (by
         have k2 := hN.symm.trans q_N; have k3 := hW.symm.trans q_W; simp only [Bool.and_eq_true, decide_eq_true_eq] at k2 k3; obtain ⟨⟨⟨⟨⟨⟨y1, y2⟩, y3⟩, y4⟩, y5⟩, y6⟩, y7⟩ := k2; obtain ⟨⟨⟨⟨z1, z2⟩, z3⟩, z4⟩, z5⟩ := k3; exact zoR y1 y2 y3 y4 y5 y6 y7 z1 z2 z3 z4 z5 q_due q_fine q_pay q_cover q_hold)
        rw [hv]
        repeat' (first
  | ((first | refine zaf ?_ | refine zaj ?_ | refine zag ?_ | fail); simp [q_N, q_W, q_due, q_fine, q_pay, q_cover, q_hold])
  | (refine zap ?_; simp only [zao])
  | (refine CallP.fE (e_due) (by first | rfl | fail) (by first | simp [q_N, q_W, q_due, q_fine, q_pay, q_cover, q_hold] <;> rfl | fail) ?_; (try simp [q_N, q_W, q_due, q_fine, q_pay, q_cover, q_hold]))
  | (refine CallP.fE (e_fine) (by first | rfl | fail) (by first | simp [q_N, q_W, q_due, q_fine, q_pay, q_cover, q_hold] <;> rfl | fail) ?_; (try simp [q_N, q_W, q_due, q_fine, q_pay, q_cover, q_hold]))
  | (refine CallP.fE (e_pay) (by first | rfl | fail) (by first | simp [q_N, q_W, q_due, q_fine, q_pay, q_cover, q_hold] <;> rfl | fail) ?_; (try simp [q_N, q_W, q_due, q_fine, q_pay, q_cover, q_hold]))
  | (refine CallP.fE (e_cover) (by first | rfl | fail) (by first | simp [q_N, q_W, q_due, q_fine, q_pay, q_cover, q_hold] <;> rfl | fail) ?_; (try simp [q_N, q_W, q_due, q_fine, q_pay, q_cover, q_hold]))
  | (refine CallP.fE (e_hold) (by first | rfl | fail) (by first | simp [q_N, q_W, q_due, q_fine, q_pay, q_cover, q_hold] <;> rfl | fail) ?_; (try simp [q_N, q_W, q_due, q_fine, q_pay, q_cover, q_hold]))
  | fail)
        (refine EndOK.val (.inr rfl) ?_; simp [zay, zae, zaq, Tryz.results14])
       ·have q_holdf : eqB a.hold b.hold = false := by simpa using q_hold
        rw [q_holdf] at e_hold;have hv : eqB a b = false := zbC (fun e => by subst e; simp [zbB, hN, hW] at *);rw [hv]
        repeat' (first
  | ((first | refine zaf ?_ | refine zaj ?_ | refine zag ?_ | fail); simp [q_N, q_W, q_due, q_fine, q_pay, q_cover, q_holdf])
  | (refine zap ?_; simp only [zao])
  | (refine CallP.fE (e_due) (by first | rfl | fail) (by first | simp [q_N, q_W, q_due, q_fine, q_pay, q_cover, q_holdf] <;> rfl | fail) ?_; (try simp [q_N, q_W, q_due, q_fine, q_pay, q_cover, q_holdf]))
  | (refine CallP.fE (e_fine) (by first | rfl | fail) (by first | simp [q_N, q_W, q_due, q_fine, q_pay, q_cover, q_holdf] <;> rfl | fail) ?_; (try simp [q_N, q_W, q_due, q_fine, q_pay, q_cover, q_holdf]))
  | (refine CallP.fE (e_pay) (by first | rfl | fail) (by first | simp [q_N, q_W, q_due, q_fine, q_pay, q_cover, q_holdf] <;> rfl | fail) ?_; (try simp [q_N, q_W, q_due, q_fine, q_pay, q_cover, q_holdf]))
  | (refine CallP.fE (e_cover) (by first | rfl | fail) (by first | simp [q_N, q_W, q_due, q_fine, q_pay, q_cover, q_holdf] <;> rfl | fail) ?_; (try simp [q_N, q_W, q_due, q_fine, q_pay, q_cover, q_holdf]))
  | (refine CallP.fE (e_hold) (by first | rfl | fail) (by first | simp [q_N, q_W, q_due, q_fine, q_pay, q_cover, q_holdf] <;> rfl | fail) ?_; (try simp [q_N, q_W, q_due, q_fine, q_pay, q_cover, q_holdf]))
  | fail)
        (refine EndOK.val (.inr rfl) ?_; simp [zay, zae, zaq, Tryz.results14])
      ·have q_coverf : eqB a.cover b.cover = false := by simpa using q_cover
       rw [q_coverf] at e_cover;have hv : eqB a b = false := zbC (fun e => by subst e; simp [zbB, hN, hW] at *);rw [hv]
       repeat' (first
  | ((first | refine zaf ?_ | refine zaj ?_ | refine zag ?_ | fail); simp [q_N, q_W, q_due, q_fine, q_pay, q_coverf])
  | (refine zap ?_; simp only [zao])
  | (refine CallP.fE (e_due) (by first | rfl | fail) (by first | simp [q_N, q_W, q_due, q_fine, q_pay, q_coverf] <;> rfl | fail) ?_; (try simp [q_N, q_W, q_due, q_fine, q_pay, q_coverf]))
  | (refine CallP.fE (e_fine) (by first | rfl | fail) (by first | simp [q_N, q_W, q_due, q_fine, q_pay, q_coverf] <;> rfl | fail) ?_; (try simp [q_N, q_W, q_due, q_fine, q_pay, q_coverf]))
  | (refine CallP.fE (e_pay) (by first | rfl | fail) (by first | simp [q_N, q_W, q_due, q_fine, q_pay, q_coverf] <;> rfl | fail) ?_; (try simp [q_N, q_W, q_due, q_fine, q_pay, q_coverf]))
  | (refine CallP.fE (e_cover) (by first | rfl | fail) (by first | simp [q_N, q_W, q_due, q_fine, q_pay, q_coverf] <;> rfl | fail) ?_; (try simp [q_N, q_W, q_due, q_fine, q_pay, q_coverf]))
  | fail)
       (refine EndOK.val (.inr rfl) ?_; simp [zay, zae, zaq, Tryz.results14])
     ·have q_payf : eqB a.pay b.pay = false := by simpa using q_pay
      rw [q_payf] at e_pay;have hv : eqB a b = false := zbC (fun e => by subst e; simp [zbB, hN, hW] at *);rw [hv]
      repeat' (first
  | ((first | refine zaf ?_ | refine zaj ?_ | refine zag ?_ | fail); simp [q_N, q_W, q_due, q_fine, q_payf])
  | (refine zap ?_; simp only [zao])
  | (refine CallP.fE (e_due) (by first | rfl | fail) (by first | simp [q_N, q_W, q_due, q_fine, q_payf] <;> rfl | fail) ?_; (try simp [q_N, q_W, q_due, q_fine, q_payf]))
  | (refine CallP.fE (e_fine) (by first | rfl | fail) (by first | simp [q_N, q_W, q_due, q_fine, q_payf] <;> rfl | fail) ?_; (try simp [q_N, q_W, q_due, q_fine, q_payf]))
  | (refine CallP.fE (e_pay) (by first | rfl | fail) (by first | simp [q_N, q_W, q_due, q_fine, q_payf] <;> rfl | fail) ?_; (try simp [q_N, q_W, q_due, q_fine, q_payf]))
  | fail)
      (refine EndOK.val (.inr rfl) ?_; simp [zay, zae, zaq, Tryz.results14])
    ·have q_finef : eqB a.fine b.fine = false := by simpa using q_fine
     rw [q_finef] at e_fine;have hv : eqB a b = false := zbC (fun e => by subst e; simp [zbB, hN, hW] at *);rw [hv]
     repeat' (first
  | ((first | refine zaf ?_ | refine zaj ?_ | refine zag ?_ | fail); simp [q_N, q_W, q_due, q_finef])
  | (refine zap ?_; simp only [zao])
  | (refine CallP.fE (e_due) (by first | rfl | fail) (by first | simp [q_N, q_W, q_due, q_finef] <;> rfl | fail) ?_; (try simp [q_N, q_W, q_due, q_finef]))
  | (refine CallP.fE (e_fine) (by first | rfl | fail) (by first | simp [q_N, q_W, q_due, q_finef] <;> rfl | fail) ?_; (try simp [q_N, q_W, q_due, q_finef]))
  | fail)
     (refine EndOK.val (.inr rfl) ?_; simp [zay, zae, zaq, Tryz.results14])
   ·have q_duef : eqB a.due b.due = false := by simpa using q_due
    rw [q_duef] at e_due;have hv : eqB a b = false := zbC (fun e => by subst e; simp [zbB, hN, hW] at *);rw [hv]
    repeat' (first
  | ((first | refine zaf ?_ | refine zaj ?_ | refine zag ?_ | fail); simp [q_N, q_W, q_duef])
  | (refine zap ?_; simp only [zao])
  | (refine CallP.fE (e_due) (by first | rfl | fail) (by first | simp [q_N, q_W, q_duef] <;> rfl | fail) ?_; (try simp [q_N, q_W, q_duef]))
  | fail)
    (refine EndOK.val (.inr rfl) ?_; simp [zay, zae, zaq, Tryz.results14])
  ·skip
   have hv : eqB a b = false := zbC (fun e => by subst e; simp [zbB, hN, hW] at *);rw [hv]
   repeat' (first
  | ((first | refine zaf ?_ | refine zaj ?_ | refine zag ?_ | fail); simp [q_N, q_W])
  | (refine zap ?_; simp only [zao])
  | fail)
   (refine EndOK.val (.inr rfl) ?_; simp [zay, zae, zaq, Tryz.results14])
 ·skip
  have hv : eqB a b = false := zbC (fun e => by subst e; simp [zbB, hN, hW] at *);rw [hv]
  repeat' (first
  | ((first | refine zaf ?_ | refine zaj ?_ | refine zag ?_ | fail); simp [q_N])
  | (refine zap ?_; simp only [zao])
  | fail)
  (refine EndOK.val (.inr rfl) ?_; simp [zay, zae, zaq, Tryz.results14])
end Go.Proofs.YthnemhfamhnfjaaGreatDoor
namespace Go.Proofs.YthnemhfamhnfjaaGreatDoor
open Go Go.VL
attribute [local simp] HS zc2 zb3 evPure opd uOf zaF St.put St.at getK binD binI binS binB nilD aggD zgQ zha lookD lookR zcu Go.VL.nextD zcx zhu zhc zf2 zcw mkV zdj zbk zbu mapEff zdY zfQ Key.kk shiftI arith unD convD zdH loadD cellsAt fieldAddrD fieldD indexAddrD indexD sliceD cutD lenD minmaxD nilCheckD buildD fillD zbP zdb zeC setAll zcK zeO zco zg0 zcm St.add zaO zbF rowsOf zdA zcH zam zac zaa za7 zcC zaQ entry zbE zbO valD zb4 zcy zgh zdh zdi zbT zbK zaw zaW zbo delAll effD St.effS zcU za8 zaY zcV za9 za0 zb9 zaZ zaT zca zcS zbD zb8 zbl zb6 zb7 zaL mkD zbL zbv zbJ zaw zcn D.ids Op.operands Call.operands zby makeIfD makeFuncD typeAssertD zg9 zdw zdx zg1 zcv IntKind.bits zcN List.take_of_length_le List.range_succ
attribute [local irreducible] V G H HD HD2 HD4 zjP RetX zao Eff CallP CallV EndOK Fun Ret FinOK LoopI LoopW EndW
theorem zll (a b : By) : Fun Tryz.prog 4 [.u (.agg (zaS a)), .u (.agg (zaS b))] (· = .u (.bool true)) := by
 obtain ⟨A, hA⟩ := zna a;obtain ⟨B, hB⟩ := zna b;have hs := zme;cases A with
 | false =>
  unfold zaS at hA ⊢
  (refine Fun.of_bodyW Tryz.func4 rfl (by simp) fun Γ hn => ?_); simp only [entry, ziC, ziN, maC, maN, oA, Tryz.ntmps4]
  repeat' (first
  | ((first | refine zaf ?_ | refine zaj ?_ | refine zag ?_ | refine zai ?_ | fail); simp)
  | (refine zap ?_; simp only [zao])
  | (refine CallP.fE (hs) (by first | rfl | fail) (by first | (simp; done) | (simp; rfl) | fail) ?_; (try simp))
  | (refine CallP.fE (hA) (by first | rfl | fail) (by first | (simp; done) | (simp; rfl) | fail) ?_; (try simp))
  | fail)
  refine EndW.here ?_
  (refine EndOK.val (.inr rfl) ?_; simp [zay, zae, zaq, Tryz.results4])
 | true =>
  cases B with
  | false =>
   unfold zaS at hA hB ⊢
   (refine Fun.of_bodyW Tryz.func4 rfl (by simp) fun Γ hn => ?_); simp only [entry, ziC, ziN, maC, maN, oA, Tryz.ntmps4]
   repeat' (first
  | ((first | refine zaf ?_ | refine zaj ?_ | refine zag ?_ | refine zai ?_ | fail); simp)
  | (refine zap ?_; simp only [zao])
  | (refine CallP.fE (hs) (by first | rfl | fail) (by first | (simp; done) | (simp; rfl) | fail) ?_; (try simp))
  | (refine CallP.fE (hA) (by first | rfl | fail) (by first | (simp; done) | (simp; rfl) | fail) ?_; (try simp))
  | (refine CallP.fE (hB) (by first | rfl | fail) (by first | (simp; done) | (simp; rfl) | fail) ?_; (try simp))
  | fail)
   refine EndW.here ?_
   (refine EndOK.val (.inr rfl) ?_; simp [zay, zae, zaq, Tryz.results4])
  | true =>
   have c1 := ziW a;have c2 := zlh a;have c3 := zfS a.due;have c4 := zhT a.due;have c5 := zdu a;have c6 := zeh a;have c7 := zc8 a.due;have c8 := zd0 a.due;have c9 := zhg a b;have c10 := zjU a b;have c11 := zhg a a;have c12 : zcP a.due b.due := zbg a.due b.due;have c13 : zfP a.due b.due := zbX a.due b.due;rw [zbB] at c11;unfold zcP at c12;unfold zfP at c13;simp only [ze2] at c7 c8;rw [Exp.row_eq] at c3 c4;rw [Exp.row_eq, Exp.row_eq] at c12 c13;generalize printB a = PB at *;generalize zfb a.due = PX at *;generalize zcI a = RB at *;generalize zax 12 a.due = RX at *;generalize eqB a b = EB at *;generalize eqB a.due b.due = EX at *;unfold zaS at hA hB c1 c2 c5 c6 c9 c10 c11 ⊢
   (refine Fun.of_bodyW Tryz.func4 rfl (by simp) fun Γ hn => ?_); simp only [entry, ziC, ziN, maC, maN, oA, Tryz.ntmps4]
   repeat' (first
  | ((first | refine zaf ?_ | refine zaR rfl ?_ | refine zcR rfl ?_ | refine zaj ?_ | refine zag ?_ | refine zai ?_ | fail); simp)
  | (refine zaX (hC _ (by kernel_rfl)) (hk _ ?_); clear hC hk C k; simp only [zao])
  | (refine za2 rfl (by kernel_rfl) (by first | (simp [hn]; done) | (simp [hn]; omega) | fail) fun C k hC hk => ?_; simp)
  | (refine zbV rfl (by simp) (fun hc => ?_) (fun hc => ?_) <;> (try simp at hc) <;> (try (exfalso; omega)) <;> (try simp))
  | ((first | refine zap ?_ | refine zar ?_ | fail); simp only [zao])
  | (refine CallP.fE (hs) (by first | rfl | fail) (by first | (simp; done) | (simp; rfl) | fail) ?_; (try simp))
  | (refine CallP.fE (hA) (by first | rfl | fail) (by first | (simp; done) | (simp; rfl) | fail) ?_; (try simp))
  | (refine CallP.fE (hB) (by first | rfl | fail) (by first | (simp; done) | (simp; rfl) | fail) ?_; (try simp))
  | (refine CallP.fE (c1) (by first | rfl | fail) (by first | (simp; done) | (simp; rfl) | fail) ?_; (try simp))
  | (refine CallP.fE (c2) (by first | rfl | fail) (by first | (simp; done) | (simp; rfl) | fail) ?_; (try simp))
  | (refine CallP.fE (c3) (by first | rfl | fail) (by first | (simp; done) | (simp; rfl) | fail) ?_; (try simp))
  | (refine CallP.fE (c4) (by first | rfl | fail) (by first | (simp; done) | (simp; rfl) | fail) ?_; (try simp))
  | (refine CallV.fun_ (c5) (by first | rfl | fail) (by first | (simp; done) | (simp; rfl) | fail) ?_ <;> (try simp))
  | (refine CallV.fun_ (c6) (by first | rfl | fail) (by first | (simp; done) | (simp; rfl) | fail) ?_ <;> (try simp))
  | (refine CallV.fun_ (c7) (by first | rfl | fail) (by first | (simp; done) | (simp; rfl) | fail) ?_ <;> (try simp))
  | (refine CallV.fun_ (c8) (by first | rfl | fail) (by first | (simp; done) | (simp; rfl) | fail) ?_ <;> (try simp))
  | (refine CallV.fun_ (c11) (by first | rfl | fail) (by first | (simp; done) | (simp; rfl) | fail) ?_ <;> (try simp))
  | (refine CallV.fun_ (c9) (by first | rfl | fail) (by first | (simp; done) | (simp; rfl) | fail) ?_ <;> (try simp))
  | (refine CallV.fun_ (c10) (by first | rfl | fail) (by first | (simp; done) | (simp; rfl) | fail) ?_ <;> (try simp))
  | (refine CallV.fun_ (c12) (by first | rfl | fail) (by first | (simp; done) | (simp; rfl) | fail) ?_ <;> (try simp))
  | (refine CallV.fun_ (c13) (by first | rfl | fail) (by first | (simp; done) | (simp; rfl) | fail) ?_ <;> (try simp))
  | fail)
   refine EndW.here ?_
   (refine EndOK.val (.inr rfl) ?_; simp [zay, zae, zaq, Tryz.results4])
end Go.Proofs.YthnemhfamhnfjaaGreatDoor
