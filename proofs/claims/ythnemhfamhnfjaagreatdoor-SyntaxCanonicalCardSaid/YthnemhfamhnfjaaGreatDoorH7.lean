/- Texts joined by a program of mine: Zl Ze Zo Zt Lw. -/
import Derived.Test.YthnemhfamhnfjaaGreatDoorH6
set_option linter.all false
set_option maxRecDepth 100000
set_option maxHeartbeats 8000000
namespace Go.Proofs.YthnemhfamhnfjaaGreatDoor
open Go Go.VL
attribute [local simp] HS zdy zck evPure opd uOf zaI St.put St.at getK binD binI binS binB nilD aggD zii zjj lookD lookR zcY Go.VL.nextD zc1 zkb zjm zhD zcO mkV zdU zbt zbE mapEff zeJ zgV Key.kk shiftI arith unD convD zeH loadD cellsAt fieldAddrD fieldD indexAddrD indexD sliceD cutD lenD minmaxD nilCheckD buildD fillD zb4 zdM zfi setAll zdm zfu zcU zja zcL St.add za0 zbZ rowsOf zew zc6 zak zac zaa zbe zc4 zaY entry zbS zb9 valD zcn zcT zhO zdS zdT zcc zbU zaw za2 zbx delAll effD St.effS zdP zbk zbb zdQ zbl zbd zcD zbc za4 zcE zdH zbV zcz zbw zcx zcy zaP mkD zbO zbG zbT zaw zcR D.ids Op.operands Call.operands zbN makeIfD makeFuncD typeAssertD zji zei zej zjh zcZ IntKind.bits zdq List.take_of_length_le List.range_succ
attribute [local irreducible] V G H HD HD2 HD4 zns RetX zap Eff CallP CallV EndOK Fun Ret FinOK LoopI LoopW EndW
set_option maxHeartbeats 40000000 in
theorem znO (b : By) (hb : zbD b = true) : RetX Tryz.prog 19 [.u (.agg (zbf b))] [] 0 (fun r o n => r = .val (.tup [.u (.str (printB b).1), .u (.int .i64 (printB b).2)])) := by
 have hri := zdI b
 rw [hb] at hri
 have hh := hb
 simp only [zbD, zlg, zlk, Bool.and_eq_true, decide_eq_true_eq] at hh
 obtain ⟨⟨⟨⟨⟨⟨⟨⟨i1, i2⟩, i3⟩, i4⟩, i5⟩, hsl⟩, hLn⟩, hLb⟩, ⟨⟨⟨hrdue, hrfine⟩, hrpay⟩, hrcover⟩, hrhold⟩ := hh
 have hLs := zhj [] b.lets hLb
 simp only [inB, List.any_cons, List.any_nil, Bool.or_false, Bool.not_eq_true', Bool.or_eq_false_iff, decide_eq_false_iff_not, Int.not_lt] at i1 i2 i3 i4 i5
 have hca : zam Tryz.prog 62 = true := by kernel_rfl
 have hprB : printB b = if 2000 < (textP b).length then ([], 6) else (textP b, 0) := by unfold printB; rw [if_pos hb]
 rw [hprB]
 generalize hT : textP b = TT
 obtain ⟨T0, e0⟩ : ∃ T0, T0 = ziR b := ⟨_, rfl⟩
 have m0 : T0.length ≤ 100 := by
  rw [e0, ziR, zbF]
  split
  ·decide
  ·split
   ·decide
   ·split <;> decide
 have hok : True := trivial
 clear hLb
 unfold zbf at hri ⊢
 obtain ⟨CL, hCL⟩ : ∃ CL : List D, CL = [.u (.int .i64 b.kind), .u (.int .i64 b.period), .u (.int .i64 b.grace), .u (.int .i64 b.wait), .u (.int .i64 b.last), .u (.int .i64 b.order), .u (.bool b.sld), .u (.int .i64 b.backs), .u (.int .i64 b.voices), .u (.int .i64 b.jury), .u (.int .i64 b.fund), .u (.sl (b.lets.map fun l => [.str l.name, .int .i64 l.body.op, .int .i64 l.body.n, .int .i64 l.body.unit, .str l.body.s, .sl (l.body.args.map Exp.row)])), .u (.int .i64 b.due.op), .u (.int .i64 b.due.n), .u (.int .i64 b.due.unit), .u (.str b.due.s), .u (.sl (b.due.args.map Exp.row)), .u (.int .i64 b.fine.op), .u (.int .i64 b.fine.n), .u (.int .i64 b.fine.unit), .u (.str b.fine.s), .u (.sl (b.fine.args.map Exp.row)), .u (.int .i64 b.pay.op), .u (.int .i64 b.pay.n), .u (.int .i64 b.pay.unit), .u (.str b.pay.s), .u (.sl (b.pay.args.map Exp.row)), .u (.int .i64 b.cover.op), .u (.int .i64 b.cover.n), .u (.int .i64 b.cover.unit), .u (.str b.cover.s), .u (.sl (b.cover.args.map Exp.row)), .u (.int .i64 b.hold.op), .u (.int .i64 b.hold.n), .u (.int .i64 b.hold.unit), .u (.str b.hold.s), .u (.sl (b.hold.args.map Exp.row))] := ⟨_, rfl⟩
 (refine RetX.of_bodyW Tryz.func19 rfl (by simp) fun Γ hn hpan => ?_); simp only [entry, ziC, ziN, maC, maN, oA, Tryz.ntmps19]
 apply zo3 (S := { n := 118, env := [(1, .ptr 0 0), (4, .ptr 1 0), (5, .ptr 2 0), (6, .fnc (.func 55) [.ptr 2 0]), (7, .fnc (.func 57) [.ptr 2 0])], obs := [(0, .box [.u (.int .i64 b.kind), .u (.int .i64 b.period), .u (.int .i64 b.grace), .u (.int .i64 b.wait), .u (.int .i64 b.last), .u (.int .i64 b.order), .u (.bool b.sld), .u (.int .i64 b.backs), .u (.int .i64 b.voices), .u (.int .i64 b.jury), .u (.int .i64 b.fund), .u (.sl (b.lets.map fun l => [.str l.name, .int .i64 l.body.op, .int .i64 l.body.n, .int .i64 l.body.unit, .str l.body.s, .sl (l.body.args.map Exp.row)])), .u (.int .i64 b.due.op), .u (.int .i64 b.due.n), .u (.int .i64 b.due.unit), .u (.str b.due.s), .u (.sl (b.due.args.map Exp.row)), .u (.int .i64 b.fine.op), .u (.int .i64 b.fine.n), .u (.int .i64 b.fine.unit), .u (.str b.fine.s), .u (.sl (b.fine.args.map Exp.row)), .u (.int .i64 b.pay.op), .u (.int .i64 b.pay.n), .u (.int .i64 b.pay.unit), .u (.str b.pay.s), .u (.sl (b.pay.args.map Exp.row)), .u (.int .i64 b.cover.op), .u (.int .i64 b.cover.n), .u (.int .i64 b.cover.unit), .u (.str b.cover.s), .u (.sl (b.cover.args.map Exp.row)), .u (.int .i64 b.hold.op), .u (.int .i64 b.hold.n), .u (.int .i64 b.hold.unit), .u (.str b.hold.s), .u (.sl (b.hold.args.map Exp.row))]), (2, zca), (1, zdp 3 T0), (3, zdo T0)], next := 4 })
 case main =>
  intro key
  cases hsd : b.sld with
  | true =>
   rw [ziR, if_pos hsd] at e0
   have hln := fun nx (h : 3 ≤ nx) => zgK [[99, 105, 114, 99, 108, 101], [98, 105, 100, 100, 105, 110, 103], [115, 101, 97, 108, 101, 100]] 1 nx (by omega) (by rw [← e0]; omega) (by simp)
   rw [← e0] at hln
   simp only [List.map_cons, List.map_nil] at hln
   repeat' (first
  | (refine zgR (by first | (simp; done) | fail) (by simp) ?_; simp)
  | ((first | refine zaf ?_ | refine zaj ?_ | refine zah ?_ | refine zai ?_ | refine zaG ?_ | fail); simp [hsd])
  | (refine zaq ?_; simp only [zap])
  | (refine CallP.fE (hri) (by first | rfl | fail) (by first | simp [hsd] <;> rfl | fail) ⟨by first | assumption | (simp; done) | fail, by simp, ?_⟩; (try simp [hsd]))
  | (refine zar (by first | rfl | fail) ?_; simp [hsd, frzN, frz1, zaz, zay, St.frz, St.frzS, frzS, fv, zaH, za3, za5, zaE, zat, zal, del, frz, za6])
  | fail)
   refine CallP.okL (hln _ (by simp)) (by simp [zaa, getK]) (by rfl) (by rfl) ⟨by first | assumption | (simp; done), by simp, ?_⟩
   simp [zdf, del]
   refine zaj ?_
   simp only [zap]
   refine zhE _ ?_ key
   exact (Wk.ren ((fun x => if x = 3 then 5 else x)) rfl (by first | (simp [hn]; done) | (intro i hi; rw [hn] at hi; constructor <;> (try simp) <;> (try (intro _)) <;> omega)) (by simp [zgx, St.lp, zan, zaa, getK, zac, zak, D.under, D.le, D.ren] <;> (try (intros; simp_all; done)) <;> (try omega)) (by simp [wkR, St.lp, zaa, getK, zac, zak, obR, leU, zbg, zaS, Ob.under, D.under, D.le, D.ren] <;> (try (intros; simp_all; done)) <;> (try omega)) (by simp))
  | false =>
   have hk3 : b.kind = 0 ∨ b.kind = 1 ∨ b.kind = 2 := by omega
   have go : ∀ (kw : W8) (kd : Int), b.kind = kd → (kd = 0 ∧ kw = [114, 111, 116, 97, 116, 105, 110, 103] ∨ kd = 1 ∧ kw = [98, 105, 100, 100, 105, 110, 103] ∨ kd = 2 ∧ kw = [115, 97, 118, 105, 110, 103]) → T0 = zbF [[99, 105, 114, 99, 108, 101], kw] := fun kw kd h1 h2 => by
    rw [e0, ziR, hsd]
    rcases h2 with ⟨rfl, rfl⟩ | ⟨rfl, rfl⟩ | ⟨rfl, rfl⟩ <;> simp [h1]
   rcases hk3 with hk0 | hk0 | hk0
   ·have e1 := go [114, 111, 116, 97, 116, 105, 110, 103] 0 hk0 (by decide)
    have hln := fun nx (h : 3 ≤ nx) => zgK [[99, 105, 114, 99, 108, 101], [114, 111, 116, 97, 116, 105, 110, 103]] 1 nx (by omega) (by rw [← e1]; omega) (by simp)
    rw [← e1] at hln
    simp only [List.map_cons, List.map_nil] at hln
    repeat' (first
  | (refine zgR (by first | (simp; done) | fail) (by simp) ?_; simp)
  | (refine zdx ?_; simp [hsd, hk0])
  | (refine zeB rfl rfl (by decide +kernel) (by first | (simp [hn]; done) | (simp [hn]; omega) | fail) fun C k hC hk => ?_; simp [hsd, hk0])
  | ((first | refine zaf ?_ | refine zbo rfl ?_ | refine zb8 rfl ?_ | refine zaj ?_ | refine zah ?_ | refine zai ?_ | fail); simp [hsd, hk0])
  | (refine zbH (hC _ (by kernel_rfl)) (hk _ ?_); clear hC hk C k; simp only [zap])
  | (refine zaq ?_; simp only [zap])
  | (refine CallP.fE (hri) (by first | rfl | fail) (by first | simp [hsd, hk0] <;> rfl | fail) ⟨by first | assumption | (simp; done) | fail, by simp, ?_⟩; (try simp [hsd, hk0]))
  | (refine zar (by first | rfl | fail) ?_; simp [hsd, hk0, frzN, frz1, zaz, zay, St.frz, St.frzS, frzS, fv, zaH, za3, za5, zaE, zat, zal, del, frz, za6])
  | fail)
    refine CallP.okL (hln _ (by simp)) (by simp [zaa, getK]) (by rfl) (by rfl) ⟨by first | assumption | (simp; done), by simp, ?_⟩
    simp [zdf, del]
    refine zaj ?_
    simp only [zap]
    refine zhE _ ?_ key
    exact (Wk.ren ((fun x => if x = 3 then 6 else x)) rfl (by first | (simp [hn]; done) | (intro i hi; rw [hn] at hi; constructor <;> (try simp) <;> (try (intro _)) <;> omega)) (by simp [zgx, St.lp, zan, zaa, getK, zac, zak, D.under, D.le, D.ren] <;> (try (intros; simp_all; done)) <;> (try omega)) (by simp [wkR, St.lp, zaa, getK, zac, zak, obR, leU, zbg, zaS, Ob.under, D.under, D.le, D.ren] <;> (try (intros; simp_all; done)) <;> (try omega)) (by simp))
   ·have e1 := go [98, 105, 100, 100, 105, 110, 103] 1 hk0 (by decide)
    have hln := fun nx (h : 3 ≤ nx) => zgK [[99, 105, 114, 99, 108, 101], [98, 105, 100, 100, 105, 110, 103]] 1 nx (by omega) (by rw [← e1]; omega) (by simp)
    rw [← e1] at hln
    simp only [List.map_cons, List.map_nil] at hln
    repeat' (first
  | (refine zgR (by first | (simp; done) | fail) (by simp) ?_; simp)
  | (refine zdx ?_; simp [hsd, hk0])
  | (refine zeB rfl rfl (by decide +kernel) (by first | (simp [hn]; done) | (simp [hn]; omega) | fail) fun C k hC hk => ?_; simp [hsd, hk0])
  | ((first | refine zaf ?_ | refine zbo rfl ?_ | refine zb8 rfl ?_ | refine zaj ?_ | refine zah ?_ | refine zai ?_ | fail); simp [hsd, hk0])
  | (refine zbH (hC _ (by kernel_rfl)) (hk _ ?_); clear hC hk C k; simp only [zap])
  | (refine zaq ?_; simp only [zap])
  | (refine CallP.fE (hri) (by first | rfl | fail) (by first | simp [hsd, hk0] <;> rfl | fail) ⟨by first | assumption | (simp; done) | fail, by simp, ?_⟩; (try simp [hsd, hk0]))
  | (refine zar (by first | rfl | fail) ?_; simp [hsd, hk0, frzN, frz1, zaz, zay, St.frz, St.frzS, frzS, fv, zaH, za3, za5, zaE, zat, zal, del, frz, za6])
  | fail)
    refine CallP.okL (hln _ (by simp)) (by simp [zaa, getK]) (by rfl) (by rfl) ⟨by first | assumption | (simp; done), by simp, ?_⟩
    simp [zdf, del]
    refine zaj ?_
    simp only [zap]
    refine zhE _ ?_ key
    exact (Wk.ren ((fun x => if x = 3 then 6 else x)) rfl (by first | (simp [hn]; done) | (intro i hi; rw [hn] at hi; constructor <;> (try simp) <;> (try (intro _)) <;> omega)) (by simp [zgx, St.lp, zan, zaa, getK, zac, zak, D.under, D.le, D.ren] <;> (try (intros; simp_all; done)) <;> (try omega)) (by simp [wkR, St.lp, zaa, getK, zac, zak, obR, leU, zbg, zaS, Ob.under, D.under, D.le, D.ren] <;> (try (intros; simp_all; done)) <;> (try omega)) (by simp))
   ·have e1 := go [115, 97, 118, 105, 110, 103] 2 hk0 (by decide)
    have hln := fun nx (h : 3 ≤ nx) => zgK [[99, 105, 114, 99, 108, 101], [115, 97, 118, 105, 110, 103]] 1 nx (by omega) (by rw [← e1]; omega) (by simp)
    rw [← e1] at hln
    simp only [List.map_cons, List.map_nil] at hln
    repeat' (first
  | (refine zgR (by first | (simp; done) | fail) (by simp) ?_; simp)
  | (refine zdx ?_; simp [hsd, hk0])
  | (refine zeB rfl rfl (by decide +kernel) (by first | (simp [hn]; done) | (simp [hn]; omega) | fail) fun C k hC hk => ?_; simp [hsd, hk0])
  | ((first | refine zaf ?_ | refine zbo rfl ?_ | refine zb8 rfl ?_ | refine zaj ?_ | refine zah ?_ | refine zai ?_ | fail); simp [hsd, hk0])
  | (refine zbH (hC _ (by kernel_rfl)) (hk _ ?_); clear hC hk C k; simp only [zap])
  | (refine zaq ?_; simp only [zap])
  | (refine CallP.fE (hri) (by first | rfl | fail) (by first | simp [hsd, hk0] <;> rfl | fail) ⟨by first | assumption | (simp; done) | fail, by simp, ?_⟩; (try simp [hsd, hk0]))
  | (refine zar (by first | rfl | fail) ?_; simp [hsd, hk0, frzN, frz1, zaz, zay, St.frz, St.frzS, frzS, fv, zaH, za3, za5, zaE, zat, zal, del, frz, za6])
  | fail)
    refine CallP.okL (hln _ (by simp)) (by simp [zaa, getK]) (by rfl) (by rfl) ⟨by first | assumption | (simp; done), by simp, ?_⟩
    simp [zdf, del]
    refine zaj ?_
    simp only [zap]
    refine zhE _ ?_ key
    exact (Wk.ren ((fun x => if x = 3 then 6 else x)) rfl (by first | (simp [hn]; done) | (intro i hi; rw [hn] at hi; constructor <;> (try simp) <;> (try (intro _)) <;> omega)) (by simp [zgx, St.lp, zan, zaa, getK, zac, zak, D.under, D.le, D.ren] <;> (try (intros; simp_all; done)) <;> (try omega)) (by simp [wkR, St.lp, zaa, getK, zac, zak, obR, leU, zbg, zaS, Ob.under, D.under, D.le, D.ren] <;> (try (intros; simp_all; done)) <;> (try omega)) (by simp))
 case key =>
 rw [← hCL]
 have x0 : CL[0]? = some (.u (.int .i64 b.kind)) := by rw [hCL]; rfl
 have x1 : CL[1]? = some (.u (.int .i64 b.period)) := by rw [hCL]; rfl
 have x2 : CL[2]? = some (.u (.int .i64 b.grace)) := by rw [hCL]; rfl
 have x3 : CL[3]? = some (.u (.int .i64 b.wait)) := by rw [hCL]; rfl
 have x4 : CL[4]? = some (.u (.int .i64 b.last)) := by rw [hCL]; rfl
 have x5 : CL[5]? = some (.u (.int .i64 b.order)) := by rw [hCL]; rfl
 have x6 : CL[6]? = some (.u (.bool b.sld)) := by rw [hCL]; rfl
 have x7 : CL[7]? = some (.u (.int .i64 b.backs)) := by rw [hCL]; rfl
 have x8 : CL[8]? = some (.u (.int .i64 b.voices)) := by rw [hCL]; rfl
 have x9 : CL[9]? = some (.u (.int .i64 b.jury)) := by rw [hCL]; rfl
 have x10 : CL[10]? = some (.u (.int .i64 b.fund)) := by rw [hCL]; rfl
 have x11 : CL[11]? = some (.u (.sl (b.lets.map fun l => [.str l.name, .int .i64 l.body.op, .int .i64 l.body.n, .int .i64 l.body.unit, .str l.body.s, .sl (l.body.args.map Exp.row)]))) := by rw [hCL]; rfl
 have x12 : CL[12]? = some (.u (.int .i64 b.due.op)) := by rw [hCL]; rfl
 have x13 : CL[13]? = some (.u (.int .i64 b.due.n)) := by rw [hCL]; rfl
 have x14 : CL[14]? = some (.u (.int .i64 b.due.unit)) := by rw [hCL]; rfl
 have x15 : CL[15]? = some (.u (.str b.due.s)) := by rw [hCL]; rfl
 have x16 : CL[16]? = some (.u (.sl (b.due.args.map Exp.row))) := by rw [hCL]; rfl
 have x17 : CL[17]? = some (.u (.int .i64 b.fine.op)) := by rw [hCL]; rfl
 have x18 : CL[18]? = some (.u (.int .i64 b.fine.n)) := by rw [hCL]; rfl
 have x19 : CL[19]? = some (.u (.int .i64 b.fine.unit)) := by rw [hCL]; rfl
 have x20 : CL[20]? = some (.u (.str b.fine.s)) := by rw [hCL]; rfl
 have x21 : CL[21]? = some (.u (.sl (b.fine.args.map Exp.row))) := by rw [hCL]; rfl
 have x22 : CL[22]? = some (.u (.int .i64 b.pay.op)) := by rw [hCL]; rfl
 have x23 : CL[23]? = some (.u (.int .i64 b.pay.n)) := by rw [hCL]; rfl
 have x24 : CL[24]? = some (.u (.int .i64 b.pay.unit)) := by rw [hCL]; rfl
 have x25 : CL[25]? = some (.u (.str b.pay.s)) := by rw [hCL]; rfl
 have x26 : CL[26]? = some (.u (.sl (b.pay.args.map Exp.row))) := by rw [hCL]; rfl
 have x27 : CL[27]? = some (.u (.int .i64 b.cover.op)) := by rw [hCL]; rfl
 have x28 : CL[28]? = some (.u (.int .i64 b.cover.n)) := by rw [hCL]; rfl
 have x29 : CL[29]? = some (.u (.int .i64 b.cover.unit)) := by rw [hCL]; rfl
 have x30 : CL[30]? = some (.u (.str b.cover.s)) := by rw [hCL]; rfl
 have x31 : CL[31]? = some (.u (.sl (b.cover.args.map Exp.row))) := by rw [hCL]; rfl
 have x32 : CL[32]? = some (.u (.int .i64 b.hold.op)) := by rw [hCL]; rfl
 have x33 : CL[33]? = some (.u (.int .i64 b.hold.n)) := by rw [hCL]; rfl
 have x34 : CL[34]? = some (.u (.int .i64 b.hold.unit)) := by rw [hCL]; rfl
 have x35 : CL[35]? = some (.u (.str b.hold.s)) := by rw [hCL]; rfl
 have x36 : CL[36]? = some (.u (.sl (b.hold.args.map Exp.row))) := by rw [hCL]; rfl
 have xun : (∀ x : D, x ∈ CL → D.under 4 x = true) = True := eq_true (by rw [hCL]; simp [D.under])
 have y12 : 17 ≤ CL.length := by rw [hCL]; simp
 have z12 : List.take 5 (List.drop 12 CL) = [.u (.int .i64 b.due.op), .u (.int .i64 b.due.n), .u (.int .i64 b.due.unit), .u (.str b.due.s), .u (.sl (b.due.args.map Exp.row))] := by rw [hCL]; rfl
 have y17 : 22 ≤ CL.length := by rw [hCL]; simp
 have z17 : List.take 5 (List.drop 17 CL) = [.u (.int .i64 b.fine.op), .u (.int .i64 b.fine.n), .u (.int .i64 b.fine.unit), .u (.str b.fine.s), .u (.sl (b.fine.args.map Exp.row))] := by rw [hCL]; rfl
 have y22 : 27 ≤ CL.length := by rw [hCL]; simp
 have z22 : List.take 5 (List.drop 22 CL) = [.u (.int .i64 b.pay.op), .u (.int .i64 b.pay.n), .u (.int .i64 b.pay.unit), .u (.str b.pay.s), .u (.sl (b.pay.args.map Exp.row))] := by rw [hCL]; rfl
 have y27 : 32 ≤ CL.length := by rw [hCL]; simp
 have z27 : List.take 5 (List.drop 27 CL) = [.u (.int .i64 b.cover.op), .u (.int .i64 b.cover.n), .u (.int .i64 b.cover.unit), .u (.str b.cover.s), .u (.sl (b.cover.args.map Exp.row))] := by rw [hCL]; rfl
 have y32 : 37 ≤ CL.length := by rw [hCL]; simp
 have z32 : List.take 5 (List.drop 32 CL) = [.u (.int .i64 b.hold.op), .u (.int .i64 b.hold.n), .u (.int .i64 b.hold.unit), .u (.str b.hold.s), .u (.sl (b.hold.args.map Exp.row))] := by rw [hCL]; rfl
 have xfz : ∀ σ, CL.map (frzS σ) = CL := fun σ => by rw [hCL]; simp [VL.frzS]
 have xle : ∀ ρ nx, leU ρ nx CL CL := fun ρ nx => by rw [hCL]; simp [leU, D.le, D.ren, D.under]
 have p1 := zdi T0 [112, 101, 114, 105, 111, 100] b.period [[100, 97, 121, 115]]
 obtain ⟨T1, e1⟩ : ∃ T1, T1 = T0 ++ zb1 [112, 101, 114, 105, 111, 100] b.period [[100, 97, 121, 115]] := ⟨_, rfl⟩
 have l1 : (zb1 [112, 101, 114, 105, 111, 100] b.period [[100, 97, 121, 115]]).length ≤ 100 := zdl (by omega) (by omega) (by decide)
 have m1 : T1.length ≤ T0.length + 100 := by rw [e1, List.length_append]; omega
 rw [← e1] at p1
 repeat' (first
  | ((first | refine zaf ?_ | refine zah ?_ | fail); simp [x0, x1, x2, x3, x4, x5, x6, x7, x8, x9, x10, x11, x12, x13, x14, x15, x16, x17, x18, x19, x20, x21, x22, x23, x24, x25, x26, x27, x28, x29, x30, x31, x32, x33, x34, x35, x36, xfz])
  | (refine zar (by first | rfl | fail) ?_; simp [x0, x1, x2, x3, x4, x5, x6, x7, x8, x9, x10, x11, x12, x13, x14, x15, x16, x17, x18, x19, x20, x21, x22, x23, x24, x25, x26, x27, x28, x29, x30, x31, x32, x33, x34, x35, x36, xfz, frzN, frz1, zaz, zay, St.frz, St.frzS, frzS, fv, zaH, za3, za5, zaE, zat, zal, del, frz, za6])
  | fail)
 refine CallP.okE (p1 3 _ (by omega) (by first | omega | simp <;> omega | fail) (by omega) (by omega) (by omega) (by simp)) (by first | (simp [zaa, getK, zab, zac]; done) | fail) (by rfl) (by first | assumption | (simp; done) | fail) (by rfl) (by simp) ?_
 rintro d o N hN ⟨rfl, j', h3, hlt, hge, rfl⟩
 simp at hge
 have q0 : ¬ j' = 0 := by omega
 have q1 : ¬ j' = 1 := by omega
 have q2 : ¬ j' = 2 := by omega
 have q3 : ¬ 0 = j' := by omega
 have q4 : ¬ 1 = j' := by omega
 have q5 : ¬ 2 = j' := by omega
 simp [zdf, del]
 refine zaj ?_
 simp only [zap]
 refine zhE { n := 118, env := [(1, .ptr 0 0), (4, .ptr 1 0), (5, .ptr 2 0), (6, .fnc (.func 55) [.ptr 2 0]), (7, .fnc (.func 57) [.ptr 2 0])], obs := [(0, .box CL), (2, zca), (1, zdp 3 T1), (3, zdo T1)], next := 4 } (Wk.ren ((fun x => if x = 3 then j' else x)) rfl (by first | (simp [hn]; done) | (intro i hi; rw [hn] at hi; constructor <;> (try simp) <;> (try (intro _)) <;> omega)) (by simp [zgx, St.lp, zan, zaa, getK, zac, zak, D.under, D.le, D.ren, h3, hlt, q0, q1, q2, q3, q4, q5, xle, xfz] <;> (try (intros; simp_all; done)) <;> (try omega)) (by simp [wkR, St.lp, zaa, getK, zac, zak, obR, leU, zbg, zaS, Ob.under, D.under, D.le, D.ren, h3, hlt, q0, q1, q2, q3, q4, q5, xle, xfz] <;> (try (intros; simp_all; done)) <;> (try omega)) (by simp [h3, hlt, q0, q1, q2, q3, q4, q5, xle, xfz])) ?_
 have p2 := zdi T1 [108, 97, 115, 116] b.last []
 obtain ⟨T2, e2⟩ : ∃ T2, T2 = T1 ++ zb1 [108, 97, 115, 116] b.last [] := ⟨_, rfl⟩
 have l2 : (zb1 [108, 97, 115, 116] b.last []).length ≤ 100 := zdl (by omega) (by omega) (by decide)
 have m2 : T2.length ≤ T1.length + 100 := by rw [e2, List.length_append]; omega
 rw [← e2] at p2
 repeat' (first
  | ((first | refine zaf ?_ | refine zah ?_ | fail); simp [x0, x1, x2, x3, x4, x5, x6, x7, x8, x9, x10, x11, x12, x13, x14, x15, x16, x17, x18, x19, x20, x21, x22, x23, x24, x25, x26, x27, x28, x29, x30, x31, x32, x33, x34, x35, x36, xfz])
  | fail)
 refine CallP.okE (zk4 (p2 3 _ (by omega) (by first | omega | simp <;> omega | fail) (by omega) (by omega) (by omega) (by simp))) (by first | (simp [zaa, getK, zab, zac]; done) | fail) (by rfl) (by first | assumption | (simp; done) | fail) (by rfl) (by simp) ?_
 rintro d o N hN ⟨rfl, j', h3, hlt, hge, rfl⟩
 simp at hge
 have q0 : ¬ j' = 0 := by omega
 have q1 : ¬ j' = 1 := by omega
 have q2 : ¬ j' = 2 := by omega
 have q3 : ¬ 0 = j' := by omega
 have q4 : ¬ 1 = j' := by omega
 have q5 : ¬ 2 = j' := by omega
 simp [zdf, del]
 refine zaj ?_
 simp only [zap]
 refine zhE { n := 118, env := [(1, .ptr 0 0), (4, .ptr 1 0), (5, .ptr 2 0), (6, .fnc (.func 55) [.ptr 2 0]), (7, .fnc (.func 57) [.ptr 2 0])], obs := [(0, .box CL), (2, zca), (1, zdp 3 T2), (3, zdo T2)], next := 4 } (Wk.ren ((fun x => if x = 3 then j' else x)) rfl (by first | (simp [hn]; done) | (intro i hi; rw [hn] at hi; constructor <;> (try simp) <;> (try (intro _)) <;> omega)) (by simp [zgx, St.lp, zan, zaa, getK, zac, zak, D.under, D.le, D.ren, h3, hlt, q0, q1, q2, q3, q4, q5, xle, xfz] <;> (try (intros; simp_all; done)) <;> (try omega)) (by simp [wkR, St.lp, zaa, getK, zac, zak, obR, leU, zbg, zaS, Ob.under, D.under, D.le, D.ren, h3, hlt, q0, q1, q2, q3, q4, q5, xle, xfz] <;> (try (intros; simp_all; done)) <;> (try omega)) (by simp [h3, hlt, q0, q1, q2, q3, q4, q5, xle, xfz])) ?_
 have p3 := zdi T2 [103, 114, 97, 99, 101] b.grace [[100, 97, 121, 115]]
 obtain ⟨T3, e3⟩ : ∃ T3, T3 = T2 ++ zb1 [103, 114, 97, 99, 101] b.grace [[100, 97, 121, 115]] := ⟨_, rfl⟩
 have l3 : (zb1 [103, 114, 97, 99, 101] b.grace [[100, 97, 121, 115]]).length ≤ 100 := zdl (by omega) (by omega) (by decide)
 have m3 : T3.length ≤ T2.length + 100 := by rw [e3, List.length_append]; omega
 rw [← e3] at p3
 repeat' (first
  | ((first | refine zaf ?_ | refine zah ?_ | fail); simp [x0, x1, x2, x3, x4, x5, x6, x7, x8, x9, x10, x11, x12, x13, x14, x15, x16, x17, x18, x19, x20, x21, x22, x23, x24, x25, x26, x27, x28, x29, x30, x31, x32, x33, x34, x35, x36, xfz])
  | (refine zar (by first | rfl | fail) ?_; simp [x0, x1, x2, x3, x4, x5, x6, x7, x8, x9, x10, x11, x12, x13, x14, x15, x16, x17, x18, x19, x20, x21, x22, x23, x24, x25, x26, x27, x28, x29, x30, x31, x32, x33, x34, x35, x36, xfz, frzN, frz1, zaz, zay, St.frz, St.frzS, frzS, fv, zaH, za3, za5, zaE, zat, zal, del, frz, za6])
  | fail)
 refine CallP.okE (p3 3 _ (by omega) (by first | omega | simp <;> omega | fail) (by omega) (by omega) (by omega) (by simp)) (by first | (simp [zaa, getK, zab, zac]; done) | fail) (by rfl) (by first | assumption | (simp; done) | fail) (by rfl) (by simp) ?_
 rintro d o N hN ⟨rfl, j', h3, hlt, hge, rfl⟩
 simp at hge
 have q0 : ¬ j' = 0 := by omega
 have q1 : ¬ j' = 1 := by omega
 have q2 : ¬ j' = 2 := by omega
 have q3 : ¬ 0 = j' := by omega
 have q4 : ¬ 1 = j' := by omega
 have q5 : ¬ 2 = j' := by omega
 simp [zdf, del]
 refine zaj ?_
 simp only [zap]
 refine zhE { n := 118, env := [(1, .ptr 0 0), (4, .ptr 1 0), (5, .ptr 2 0), (6, .fnc (.func 55) [.ptr 2 0]), (7, .fnc (.func 57) [.ptr 2 0])], obs := [(0, .box CL), (2, zca), (1, zdp 3 T3), (3, zdo T3)], next := 4 } (Wk.ren ((fun x => if x = 3 then j' else x)) rfl (by first | (simp [hn]; done) | (intro i hi; rw [hn] at hi; constructor <;> (try simp) <;> (try (intro _)) <;> omega)) (by simp [zgx, St.lp, zan, zaa, getK, zac, zak, D.under, D.le, D.ren, h3, hlt, q0, q1, q2, q3, q4, q5, xle, xfz] <;> (try (intros; simp_all; done)) <;> (try omega)) (by simp [wkR, St.lp, zaa, getK, zac, zak, obR, leU, zbg, zaS, Ob.under, D.under, D.le, D.ren, h3, hlt, q0, q1, q2, q3, q4, q5, xle, xfz] <;> (try (intros; simp_all; done)) <;> (try omega)) (by simp [h3, hlt, q0, q1, q2, q3, q4, q5, xle, xfz])) ?_
 have p4 := zdi T3 [119, 97, 105, 116] b.wait [[100, 97, 121, 115]]
 obtain ⟨T4, e4⟩ : ∃ T4, T4 = T3 ++ zb1 [119, 97, 105, 116] b.wait [[100, 97, 121, 115]] := ⟨_, rfl⟩
 have l4 : (zb1 [119, 97, 105, 116] b.wait [[100, 97, 121, 115]]).length ≤ 100 := zdl (by omega) (by omega) (by decide)
 have m4 : T4.length ≤ T3.length + 100 := by rw [e4, List.length_append]; omega
 rw [← e4] at p4
 repeat' (first
  | ((first | refine zaf ?_ | refine zah ?_ | fail); simp [x0, x1, x2, x3, x4, x5, x6, x7, x8, x9, x10, x11, x12, x13, x14, x15, x16, x17, x18, x19, x20, x21, x22, x23, x24, x25, x26, x27, x28, x29, x30, x31, x32, x33, x34, x35, x36, xfz])
  | (refine zar (by first | rfl | fail) ?_; simp [x0, x1, x2, x3, x4, x5, x6, x7, x8, x9, x10, x11, x12, x13, x14, x15, x16, x17, x18, x19, x20, x21, x22, x23, x24, x25, x26, x27, x28, x29, x30, x31, x32, x33, x34, x35, x36, xfz, frzN, frz1, zaz, zay, St.frz, St.frzS, frzS, fv, zaH, za3, za5, zaE, zat, zal, del, frz, za6])
  | fail)
 refine CallP.okE (p4 3 _ (by omega) (by first | omega | simp <;> omega | fail) (by omega) (by omega) (by omega) (by simp)) (by first | (simp [zaa, getK, zab, zac]; done) | fail) (by rfl) (by first | assumption | (simp; done) | fail) (by rfl) (by simp) ?_
 rintro d o N hN ⟨rfl, j', h3, hlt, hge, rfl⟩
 simp at hge
 have q0 : ¬ j' = 0 := by omega
 have q1 : ¬ j' = 1 := by omega
 have q2 : ¬ j' = 2 := by omega
 have q3 : ¬ 0 = j' := by omega
 have q4 : ¬ 1 = j' := by omega
 have q5 : ¬ 2 = j' := by omega
 simp [zdf, del]
 refine zaj ?_
 simp only [zap]
 refine zhE { n := 118, env := [(1, .ptr 0 0), (4, .ptr 1 0), (5, .ptr 2 0), (6, .fnc (.func 55) [.ptr 2 0]), (7, .fnc (.func 57) [.ptr 2 0])], obs := [(0, .box CL), (2, zca), (1, zdp 3 T4), (3, zdo T4)], next := 4 } (Wk.ren ((fun x => if x = 3 then j' else x)) rfl (by first | (simp [hn]; done) | (intro i hi; rw [hn] at hi; constructor <;> (try simp) <;> (try (intro _)) <;> omega)) (by simp [zgx, St.lp, zan, zaa, getK, zac, zak, D.under, D.le, D.ren, h3, hlt, q0, q1, q2, q3, q4, q5, xle, xfz] <;> (try (intros; simp_all; done)) <;> (try omega)) (by simp [wkR, St.lp, zaa, getK, zac, zak, obR, leU, zbg, zaS, Ob.under, D.under, D.le, D.ren, h3, hlt, q0, q1, q2, q3, q4, q5, xle, xfz] <;> (try (intros; simp_all; done)) <;> (try omega)) (by simp [h3, hlt, q0, q1, q2, q3, q4, q5, xle, xfz])) ?_
 obtain ⟨T5, e5⟩ : ∃ T5, T5 = T4 ++ zhY b.order := ⟨_, rfl⟩
 have ho3 : b.order = 0 ∨ b.order = 1 ∨ b.order = 2 := by omega
 have l5 : (zhY b.order).length ≤ 100 := by rcases ho3 with h | h | h <;> rw [h] <;> decide
 have m5 : T5.length ≤ T4.length + 100 := by rw [e5, List.length_append]; omega
 apply zo3 (S := { n := 118, env := [(1, .ptr 0 0), (4, .ptr 1 0), (5, .ptr 2 0), (6, .fnc (.func 55) [.ptr 2 0]), (7, .fnc (.func 57) [.ptr 2 0])], obs := [(0, .box CL), (2, zca), (1, zdp 3 T5), (3, zdo T5)], next := 4 })
 case main =>
  intro key2
  rcases ho3 with ho | ho | ho
  ·have e2 : T5 = T4 := by rw [e5, ho, zhY, if_pos rfl, List.append_nil]
   repeat' (first
  | ((first | refine zaf ?_ | refine zaj ?_ | refine zah ?_ | refine zai ?_ | fail); simp [x0, x1, x2, x3, x4, x5, x6, x7, x8, x9, x10, x11, x12, x13, x14, x15, x16, x17, x18, x19, x20, x21, x22, x23, x24, x25, x26, x27, x28, x29, x30, x31, x32, x33, x34, x35, x36, xfz, ho])
  | (refine zaG ?_; simp [x0, x1, x2, x3, x4, x5, x6, x7, x8, x9, x10, x11, x12, x13, x14, x15, x16, x17, x18, x19, x20, x21, x22, x23, x24, x25, x26, x27, x28, x29, x30, x31, x32, x33, x34, x35, x36, xfz, ho]))
   refine zaq ?_
   simp only [zap]
   refine zhE _ ?_ key2
   rw [e2]
   exact (Wk.cut rfl (by simp [hn, St.lp]) (by simp [wkO, St.lp, zaa, getK, Ob.under, D.under, zad, zae, xle, xun]) (by simp [wkU, St.lp, zan, zaa, getK, D.under, xle, xun]) (by simp [wkE, St.lp, zan, zaa, getK, xle, xun] <;> (try (intros; simp_all; done)) <;> (try (intros; omega)) <;> (try grind)))
  ·have e2 : T5 = T4 ++ zbF [[111, 114, 100, 101, 114], [100, 114, 97, 119]] := by rw [e5, ho]; rfl
   have hor := zga
   simp only [ordersW, List.map_cons, List.map_nil] at hor
   have hln := fun nx (h : 4 ≤ nx) => zhh T4 [[111, 114, 100, 101, 114], [100, 114, 97, 119]] 3 nx (by omega) (by omega) (by have := zeP [[111, 114, 100, 101, 114], [100, 114, 97, 119]]; rw [zbF]; simp at this ⊢; omega) (by simp)
   rw [← e2] at hln
   simp only [List.map_cons, List.map_nil] at hln
   repeat' (first
  | ((first | refine zaf ?_ | refine zaj ?_ | refine zah ?_ | refine zai ?_ | fail); simp [x0, x1, x2, x3, x4, x5, x6, x7, x8, x9, x10, x11, x12, x13, x14, x15, x16, x17, x18, x19, x20, x21, x22, x23, x24, x25, x26, x27, x28, x29, x30, x31, x32, x33, x34, x35, x36, xfz, ho])
  | (refine zaG ?_; simp [x0, x1, x2, x3, x4, x5, x6, x7, x8, x9, x10, x11, x12, x13, x14, x15, x16, x17, x18, x19, x20, x21, x22, x23, x24, x25, x26, x27, x28, x29, x30, x31, x32, x33, x34, x35, x36, xfz, ho]))
   repeat' (first
  | (refine zdx ?_; simp [x0, x1, x2, x3, x4, x5, x6, x7, x8, x9, x10, x11, x12, x13, x14, x15, x16, x17, x18, x19, x20, x21, x22, x23, x24, x25, x26, x27, x28, x29, x30, x31, x32, x33, x34, x35, x36, xfz, ho])
  | (refine zeB rfl rfl (by decide +kernel) (by first | (simp [hn]; done) | (simp [hn]; omega) | fail) fun C k hC hk => ?_; simp [x0, x1, x2, x3, x4, x5, x6, x7, x8, x9, x10, x11, x12, x13, x14, x15, x16, x17, x18, x19, x20, x21, x22, x23, x24, x25, x26, x27, x28, x29, x30, x31, x32, x33, x34, x35, x36, xfz, ho])
  | ((first | refine zaf ?_ | refine zbo rfl ?_ | refine zb8 rfl ?_ | fail); simp [x0, x1, x2, x3, x4, x5, x6, x7, x8, x9, x10, x11, x12, x13, x14, x15, x16, x17, x18, x19, x20, x21, x22, x23, x24, x25, x26, x27, x28, x29, x30, x31, x32, x33, x34, x35, x36, xfz, ho])
  | (refine zbH (hC _ (by kernel_rfl)) (hk _ ?_); clear hC hk C k; simp only [zap])
  | (refine CallV.fun_ (hor) (by first | rfl | fail) (by first | simp [x0, x1, x2, x3, x4, x5, x6, x7, x8, x9, x10, x11, x12, x13, x14, x15, x16, x17, x18, x19, x20, x21, x22, x23, x24, x25, x26, x27, x28, x29, x30, x31, x32, x33, x34, x35, x36, xfz, ho] <;> rfl | fail) ⟨by first | assumption | (simp; done) | fail, by simp, ?_⟩ <;> (try simp [x0, x1, x2, x3, x4, x5, x6, x7, x8, x9, x10, x11, x12, x13, x14, x15, x16, x17, x18, x19, x20, x21, x22, x23, x24, x25, x26, x27, x28, x29, x30, x31, x32, x33, x34, x35, x36, xfz, ho]))
  | (refine zar (by first | rfl | fail) ?_; simp [x0, x1, x2, x3, x4, x5, x6, x7, x8, x9, x10, x11, x12, x13, x14, x15, x16, x17, x18, x19, x20, x21, x22, x23, x24, x25, x26, x27, x28, x29, x30, x31, x32, x33, x34, x35, x36, xfz, ho, frzN, frz1, zaz, zay, St.frz, St.frzS, frzS, fv, zaH, za3, za5, zaE, zat, zal, del, frz, za6])
  | fail)
   refine CallP.okL (hln _ (by simp)) (by simp [zaa, getK]) (by rfl) (by rfl) ⟨by first | assumption | (simp; done), by simp, ?_⟩
   simp [zdf, del]
   refine zaj ?_
   simp only [zap]
   refine zhE _ ?_ key2
   exact (Wk.ren ((fun x => if x = 3 then 5 else x)) rfl (by first | (simp [hn]; done) | (intro i hi; rw [hn] at hi; constructor <;> (try simp) <;> (try (intro _)) <;> omega)) (by simp [zgx, St.lp, zan, zaa, getK, zac, zak, D.under, D.le, D.ren, xle, xfz] <;> (try (intros; simp_all; done)) <;> (try omega)) (by simp [wkR, St.lp, zaa, getK, zac, zak, obR, leU, zbg, zaS, Ob.under, D.under, D.le, D.ren, xle, xfz] <;> (try (intros; simp_all; done)) <;> (try omega)) (by simp [xle, xfz]))
  ·have e2 : T5 = T4 ++ zbF [[111, 114, 100, 101, 114], [110, 101, 101, 100]] := by rw [e5, ho]; rfl
   have hor := zga
   simp only [ordersW, List.map_cons, List.map_nil] at hor
   have hln := fun nx (h : 4 ≤ nx) => zhh T4 [[111, 114, 100, 101, 114], [110, 101, 101, 100]] 3 nx (by omega) (by omega) (by have := zeP [[111, 114, 100, 101, 114], [110, 101, 101, 100]]; rw [zbF]; simp at this ⊢; omega) (by simp)
   rw [← e2] at hln
   simp only [List.map_cons, List.map_nil] at hln
   repeat' (first
  | ((first | refine zaf ?_ | refine zaj ?_ | refine zah ?_ | refine zai ?_ | fail); simp [x0, x1, x2, x3, x4, x5, x6, x7, x8, x9, x10, x11, x12, x13, x14, x15, x16, x17, x18, x19, x20, x21, x22, x23, x24, x25, x26, x27, x28, x29, x30, x31, x32, x33, x34, x35, x36, xfz, ho])
  | (refine zaG ?_; simp [x0, x1, x2, x3, x4, x5, x6, x7, x8, x9, x10, x11, x12, x13, x14, x15, x16, x17, x18, x19, x20, x21, x22, x23, x24, x25, x26, x27, x28, x29, x30, x31, x32, x33, x34, x35, x36, xfz, ho]))
   repeat' (first
  | (refine zdx ?_; simp [x0, x1, x2, x3, x4, x5, x6, x7, x8, x9, x10, x11, x12, x13, x14, x15, x16, x17, x18, x19, x20, x21, x22, x23, x24, x25, x26, x27, x28, x29, x30, x31, x32, x33, x34, x35, x36, xfz, ho])
  | (refine zeB rfl rfl (by decide +kernel) (by first | (simp [hn]; done) | (simp [hn]; omega) | fail) fun C k hC hk => ?_; simp [x0, x1, x2, x3, x4, x5, x6, x7, x8, x9, x10, x11, x12, x13, x14, x15, x16, x17, x18, x19, x20, x21, x22, x23, x24, x25, x26, x27, x28, x29, x30, x31, x32, x33, x34, x35, x36, xfz, ho])
  | ((first | refine zaf ?_ | refine zbo rfl ?_ | refine zb8 rfl ?_ | fail); simp [x0, x1, x2, x3, x4, x5, x6, x7, x8, x9, x10, x11, x12, x13, x14, x15, x16, x17, x18, x19, x20, x21, x22, x23, x24, x25, x26, x27, x28, x29, x30, x31, x32, x33, x34, x35, x36, xfz, ho])
  | (refine zbH (hC _ (by kernel_rfl)) (hk _ ?_); clear hC hk C k; simp only [zap])
  | (refine CallV.fun_ (hor) (by first | rfl | fail) (by first | simp [x0, x1, x2, x3, x4, x5, x6, x7, x8, x9, x10, x11, x12, x13, x14, x15, x16, x17, x18, x19, x20, x21, x22, x23, x24, x25, x26, x27, x28, x29, x30, x31, x32, x33, x34, x35, x36, xfz, ho] <;> rfl | fail) ⟨by first | assumption | (simp; done) | fail, by simp, ?_⟩ <;> (try simp [x0, x1, x2, x3, x4, x5, x6, x7, x8, x9, x10, x11, x12, x13, x14, x15, x16, x17, x18, x19, x20, x21, x22, x23, x24, x25, x26, x27, x28, x29, x30, x31, x32, x33, x34, x35, x36, xfz, ho]))
  | (refine zar (by first | rfl | fail) ?_; simp [x0, x1, x2, x3, x4, x5, x6, x7, x8, x9, x10, x11, x12, x13, x14, x15, x16, x17, x18, x19, x20, x21, x22, x23, x24, x25, x26, x27, x28, x29, x30, x31, x32, x33, x34, x35, x36, xfz, ho, frzN, frz1, zaz, zay, St.frz, St.frzS, frzS, fv, zaH, za3, za5, zaE, zat, zal, del, frz, za6])
  | fail)
   refine CallP.okL (hln _ (by simp)) (by simp [zaa, getK]) (by rfl) (by rfl) ⟨by first | assumption | (simp; done), by simp, ?_⟩
   simp [zdf, del]
   refine zaj ?_
   simp only [zap]
   refine zhE _ ?_ key2
   exact (Wk.ren ((fun x => if x = 3 then 5 else x)) rfl (by first | (simp [hn]; done) | (intro i hi; rw [hn] at hi; constructor <;> (try simp) <;> (try (intro _)) <;> omega)) (by simp [zgx, St.lp, zan, zaa, getK, zac, zak, D.under, D.le, D.ren, xle, xfz] <;> (try (intros; simp_all; done)) <;> (try omega)) (by simp [wkR, St.lp, zaa, getK, zac, zak, obR, leU, zbg, zaS, Ob.under, D.under, D.le, D.ren, xle, xfz] <;> (try (intros; simp_all; done)) <;> (try omega)) (by simp [xle, xfz]))
 case key =>
 have p6 := zdi T5 [98, 97, 99, 107, 115] b.backs []
 obtain ⟨T6, e6⟩ : ∃ T6, T6 = T5 ++ zb1 [98, 97, 99, 107, 115] b.backs [] := ⟨_, rfl⟩
 have l6 : (zb1 [98, 97, 99, 107, 115] b.backs []).length ≤ 100 := zdl (by omega) (by omega) (by decide)
 have m6 : T6.length ≤ T5.length + 100 := by rw [e6, List.length_append]; omega
 rw [← e6] at p6
 repeat' (first
  | ((first | refine zaf ?_ | refine zah ?_ | fail); simp [x0, x1, x2, x3, x4, x5, x6, x7, x8, x9, x10, x11, x12, x13, x14, x15, x16, x17, x18, x19, x20, x21, x22, x23, x24, x25, x26, x27, x28, x29, x30, x31, x32, x33, x34, x35, x36, xfz])
  | fail)
 refine CallP.okE (zk4 (p6 3 _ (by omega) (by first | omega | simp <;> omega | fail) (by omega) (by omega) (by omega) (by simp))) (by first | (simp [zaa, getK, zab, zac]; done) | fail) (by rfl) (by first | assumption | (simp; done) | fail) (by rfl) (by simp) ?_
 rintro d o N hN ⟨rfl, j', h3, hlt, hge, rfl⟩
 simp at hge
 have q0 : ¬ j' = 0 := by omega
 have q1 : ¬ j' = 1 := by omega
 have q2 : ¬ j' = 2 := by omega
 have q3 : ¬ 0 = j' := by omega
 have q4 : ¬ 1 = j' := by omega
 have q5 : ¬ 2 = j' := by omega
 simp [zdf, del]
 refine zaj ?_
 simp only [zap]
 refine zhE { n := 118, env := [(1, .ptr 0 0), (4, .ptr 1 0), (5, .ptr 2 0), (6, .fnc (.func 55) [.ptr 2 0]), (7, .fnc (.func 57) [.ptr 2 0])], obs := [(0, .box CL), (2, zca), (1, zdp 3 T6), (3, zdo T6)], next := 4 } (Wk.ren ((fun x => if x = 3 then j' else x)) rfl (by first | (simp [hn]; done) | (intro i hi; rw [hn] at hi; constructor <;> (try simp) <;> (try (intro _)) <;> omega)) (by simp [zgx, St.lp, zan, zaa, getK, zac, zak, D.under, D.le, D.ren, h3, hlt, q0, q1, q2, q3, q4, q5, xle, xfz] <;> (try (intros; simp_all; done)) <;> (try omega)) (by simp [wkR, St.lp, zaa, getK, zac, zak, obR, leU, zbg, zaS, Ob.under, D.under, D.le, D.ren, h3, hlt, q0, q1, q2, q3, q4, q5, xle, xfz] <;> (try (intros; simp_all; done)) <;> (try omega)) (by simp [h3, hlt, q0, q1, q2, q3, q4, q5, xle, xfz])) ?_
 have p7 := zdi T6 [118, 111, 105, 99, 101, 115] b.voices [[112, 101, 114], [109, 105, 108, 108, 101]]
 obtain ⟨T7, e7⟩ : ∃ T7, T7 = T6 ++ zb1 [118, 111, 105, 99, 101, 115] b.voices [[112, 101, 114], [109, 105, 108, 108, 101]] := ⟨_, rfl⟩
 have l7 : (zb1 [118, 111, 105, 99, 101, 115] b.voices [[112, 101, 114], [109, 105, 108, 108, 101]]).length ≤ 100 := zdl (by omega) (by omega) (by decide)
 have m7 : T7.length ≤ T6.length + 100 := by rw [e7, List.length_append]; omega
 rw [← e7] at p7
 repeat' (first
  | ((first | refine zaf ?_ | refine zah ?_ | fail); simp [x0, x1, x2, x3, x4, x5, x6, x7, x8, x9, x10, x11, x12, x13, x14, x15, x16, x17, x18, x19, x20, x21, x22, x23, x24, x25, x26, x27, x28, x29, x30, x31, x32, x33, x34, x35, x36, xfz])
  | (refine zar (by first | rfl | fail) ?_; simp [x0, x1, x2, x3, x4, x5, x6, x7, x8, x9, x10, x11, x12, x13, x14, x15, x16, x17, x18, x19, x20, x21, x22, x23, x24, x25, x26, x27, x28, x29, x30, x31, x32, x33, x34, x35, x36, xfz, frzN, frz1, zaz, zay, St.frz, St.frzS, frzS, fv, zaH, za3, za5, zaE, zat, zal, del, frz, za6])
  | fail)
 refine CallP.okE (p7 3 _ (by omega) (by first | omega | simp <;> omega | fail) (by omega) (by omega) (by omega) (by simp)) (by first | (simp [zaa, getK, zab, zac]; done) | fail) (by rfl) (by first | assumption | (simp; done) | fail) (by rfl) (by simp) ?_
 rintro d o N hN ⟨rfl, j', h3, hlt, hge, rfl⟩
 simp at hge
 have q0 : ¬ j' = 0 := by omega
 have q1 : ¬ j' = 1 := by omega
 have q2 : ¬ j' = 2 := by omega
 have q3 : ¬ 0 = j' := by omega
 have q4 : ¬ 1 = j' := by omega
 have q5 : ¬ 2 = j' := by omega
 simp [zdf, del]
 refine zaj ?_
 simp only [zap]
 refine zhE { n := 118, env := [(1, .ptr 0 0), (4, .ptr 1 0), (5, .ptr 2 0), (6, .fnc (.func 55) [.ptr 2 0]), (7, .fnc (.func 57) [.ptr 2 0])], obs := [(0, .box CL), (2, zca), (1, zdp 3 T7), (3, zdo T7)], next := 4 } (Wk.ren ((fun x => if x = 3 then j' else x)) rfl (by first | (simp [hn]; done) | (intro i hi; rw [hn] at hi; constructor <;> (try simp) <;> (try (intro _)) <;> omega)) (by simp [zgx, St.lp, zan, zaa, getK, zac, zak, D.under, D.le, D.ren, h3, hlt, q0, q1, q2, q3, q4, q5, xle, xfz] <;> (try (intros; simp_all; done)) <;> (try omega)) (by simp [wkR, St.lp, zaa, getK, zac, zak, obR, leU, zbg, zaS, Ob.under, D.under, D.le, D.ren, h3, hlt, q0, q1, q2, q3, q4, q5, xle, xfz] <;> (try (intros; simp_all; done)) <;> (try omega)) (by simp [h3, hlt, q0, q1, q2, q3, q4, q5, xle, xfz])) ?_
 have p8 := zdi T7 [106, 117, 114, 121] b.jury []
 obtain ⟨T8, e8⟩ : ∃ T8, T8 = T7 ++ zb1 [106, 117, 114, 121] b.jury [] := ⟨_, rfl⟩
 have l8 : (zb1 [106, 117, 114, 121] b.jury []).length ≤ 100 := zdl (by omega) (by omega) (by decide)
 have m8 : T8.length ≤ T7.length + 100 := by rw [e8, List.length_append]; omega
 rw [← e8] at p8
 repeat' (first
  | ((first | refine zaf ?_ | refine zah ?_ | fail); simp [x0, x1, x2, x3, x4, x5, x6, x7, x8, x9, x10, x11, x12, x13, x14, x15, x16, x17, x18, x19, x20, x21, x22, x23, x24, x25, x26, x27, x28, x29, x30, x31, x32, x33, x34, x35, x36, xfz])
  | fail)
 refine CallP.okE (zk4 (p8 3 _ (by omega) (by first | omega | simp <;> omega | fail) (by omega) (by omega) (by omega) (by simp))) (by first | (simp [zaa, getK, zab, zac]; done) | fail) (by rfl) (by first | assumption | (simp; done) | fail) (by rfl) (by simp) ?_
 rintro d o N hN ⟨rfl, j', h3, hlt, hge, rfl⟩
 simp at hge
 have q0 : ¬ j' = 0 := by omega
 have q1 : ¬ j' = 1 := by omega
 have q2 : ¬ j' = 2 := by omega
 have q3 : ¬ 0 = j' := by omega
 have q4 : ¬ 1 = j' := by omega
 have q5 : ¬ 2 = j' := by omega
 simp [zdf, del]
 refine zaj ?_
 simp only [zap]
 refine zhE { n := 118, env := [(1, .ptr 0 0), (4, .ptr 1 0), (5, .ptr 2 0), (6, .fnc (.func 55) [.ptr 2 0]), (7, .fnc (.func 57) [.ptr 2 0])], obs := [(0, .box CL), (2, zca), (1, zdp 3 T8), (3, zdo T8)], next := 4 } (Wk.ren ((fun x => if x = 3 then j' else x)) rfl (by first | (simp [hn]; done) | (intro i hi; rw [hn] at hi; constructor <;> (try simp) <;> (try (intro _)) <;> omega)) (by simp [zgx, St.lp, zan, zaa, getK, zac, zak, D.under, D.le, D.ren, h3, hlt, q0, q1, q2, q3, q4, q5, xle, xfz] <;> (try (intros; simp_all; done)) <;> (try omega)) (by simp [wkR, St.lp, zaa, getK, zac, zak, obR, leU, zbg, zaS, Ob.under, D.under, D.le, D.ren, h3, hlt, q0, q1, q2, q3, q4, q5, xle, xfz] <;> (try (intros; simp_all; done)) <;> (try omega)) (by simp [h3, hlt, q0, q1, q2, q3, q4, q5, xle, xfz])) ?_
 have p9 := zdi T8 [102, 117, 110, 100] b.fund [[112, 101, 114], [109, 105, 108, 108, 101]]
 obtain ⟨T9, e9⟩ : ∃ T9, T9 = T8 ++ zb1 [102, 117, 110, 100] b.fund [[112, 101, 114], [109, 105, 108, 108, 101]] := ⟨_, rfl⟩
 have l9 : (zb1 [102, 117, 110, 100] b.fund [[112, 101, 114], [109, 105, 108, 108, 101]]).length ≤ 100 := zdl (by omega) (by omega) (by decide)
 have m9 : T9.length ≤ T8.length + 100 := by rw [e9, List.length_append]; omega
 rw [← e9] at p9
 repeat' (first
  | ((first | refine zaf ?_ | refine zah ?_ | fail); simp [x0, x1, x2, x3, x4, x5, x6, x7, x8, x9, x10, x11, x12, x13, x14, x15, x16, x17, x18, x19, x20, x21, x22, x23, x24, x25, x26, x27, x28, x29, x30, x31, x32, x33, x34, x35, x36, xfz])
  | (refine zar (by first | rfl | fail) ?_; simp [x0, x1, x2, x3, x4, x5, x6, x7, x8, x9, x10, x11, x12, x13, x14, x15, x16, x17, x18, x19, x20, x21, x22, x23, x24, x25, x26, x27, x28, x29, x30, x31, x32, x33, x34, x35, x36, xfz, frzN, frz1, zaz, zay, St.frz, St.frzS, frzS, fv, zaH, za3, za5, zaE, zat, zal, del, frz, za6])
  | fail)
 refine CallP.okE (p9 3 _ (by omega) (by first | omega | simp <;> omega | fail) (by omega) (by omega) (by omega) (by simp)) (by first | (simp [zaa, getK, zab, zac]; done) | fail) (by rfl) (by first | assumption | (simp; done) | fail) (by rfl) (by simp) ?_
 rintro d o N hN ⟨rfl, j', h3, hlt, hge, rfl⟩
 simp at hge
 have q0 : ¬ j' = 0 := by omega
 have q1 : ¬ j' = 1 := by omega
 have q2 : ¬ j' = 2 := by omega
 have q3 : ¬ 0 = j' := by omega
 have q4 : ¬ 1 = j' := by omega
 have q5 : ¬ 2 = j' := by omega
 simp [zdf, del]
 refine zaj ?_
 simp only [zap]
 refine zhE { n := 118, env := [(1, .ptr 0 0), (4, .ptr 1 0), (5, .ptr 2 0), (6, .fnc (.func 55) [.ptr 2 0]), (7, .fnc (.func 57) [.ptr 2 0])], obs := [(0, .box CL), (2, zca), (1, zdp 3 T9), (3, zdo T9)], next := 4 } (Wk.ren ((fun x => if x = 3 then j' else x)) rfl (by first | (simp [hn]; done) | (intro i hi; rw [hn] at hi; constructor <;> (try simp) <;> (try (intro _)) <;> omega)) (by simp [zgx, St.lp, zan, zaa, getK, zac, zak, D.under, D.le, D.ren, h3, hlt, q0, q1, q2, q3, q4, q5, xle, xfz] <;> (try (intros; simp_all; done)) <;> (try omega)) (by simp [wkR, St.lp, zaa, getK, zac, zak, obR, leU, zbg, zaS, Ob.under, D.under, D.le, D.ren, h3, hlt, q0, q1, q2, q3, q4, q5, xle, xfz] <;> (try (intros; simp_all; done)) <;> (try omega)) (by simp [h3, hlt, q0, q1, q2, q3, q4, q5, xle, xfz])) ?_
 obtain ⟨F, eF⟩ : ∃ F : Nat → W8, F = fun i => T9 ++ zfI (b.lets.take i) := ⟨_, rfl⟩
 have hF0 : F 0 = T9 := by rw [eF]; simp [zfI]
 have hFs : ∀ i l, b.lets[i]? = some l → F (i + 1) = F i ++ zpH l := fun i l h => by rw [eF]; simp only; rw [zmX h, List.append_assoc]
 have hFl : ∀ i, i ≤ b.lets.length → (F i).length ≤ T9.length + 2000000000 := fun i hi => by
  rw [eF]
  have h1 := zj9 (b.lets.take i) fun l hl => hLs l (List.mem_of_mem_take hl)
  simp only [List.length_append, List.length_take] at h1 ⊢
  omega
 obtain ⟨T10, e10⟩ : ∃ T10, T10 = F b.lets.length := ⟨_, rfl⟩
 have m10 : T10.length ≤ T9.length + 2000000000 := by rw [e10]; exact hFl _ (Nat.le_refl _)
 have eL : T10 = T9 ++ zfI b.lets := by rw [e10, eF]; simp only; rw [List.take_length]
 clear eF
 repeat' (first
  | ((first | refine zaf ?_ | refine zaj ?_ | refine zah ?_ | refine zaD ?_ | fail); simp [x0, x1, x2, x3, x4, x5, x6, x7, x8, x9, x10, x11, x12, x13, x14, x15, x16, x17, x18, x19, x20, x21, x22, x23, x24, x25, x26, x27, x28, x29, x30, x31, x32, x33, x34, x35, x36, xfz])
  | fail)
 refine zd8 (α := { i : Nat // i ≤ b.lets.length }) [1, 4, 5, 7, 79, 80] (fun x => [(81, .u (.int .i64 x.1))]) (fun x => [(0, .box CL), (2, zca), (1, zdp 3 (F x.1)), (3, zdo (F x.1))]) 4 (fun x => b.lets.length - x.1) ⟨0, by omega⟩ ?_ ?_
 ·exact (Wk.cut rfl (by simp [hn, St.lp]) (by simp [wkO, St.lp, zaa, getK, Ob.under, D.under, zad, zae, xle, xun, hF0]) (by simp [wkU, St.lp, zan, zaa, getK, D.under, xle, xun, hF0]) (by simp [wkE, St.lp, zan, zaa, getK, xle, xun, hF0] <;> (try (intros; simp_all; done)) <;> (try (intros; omega)) <;> (try grind)))
 rintro ⟨i, hi⟩
 have hFi := hFl i hi
 simp [St.lp, St.only, zan, zaa, getK]
 rcases hx : b.lets[i]? with _ | l
 case some =>
  have hlt : i < b.lets.length := (lGE.1 hx).1
  obtain ⟨hln, hlr⟩ := hLs l (List.mem_of_getElem? hx)
  have hn20 := ziO hln
  have htl := zcA hlr (Nat.le_refl _) 0
  have hsh := zgG 12 (Nat.le_refl _) l.body hlr 0
  rw [Exp.row_eq] at hsh
  have hnx := hFs i l hx
  rw [zpH] at hnx
  have hlw := zlV hln hlr
  rw [zpH] at hlw
  have hw := fun nx (h : 4 ≤ nx) => zhh (F i) [[108, 101, 116], l.name, [61], txt l.body 0] 3 nx (by omega) (by omega) (by omega) (by simp)
  rw [← hnx] at hw
  simp only [List.map_cons, List.map_nil] at hw
  generalize txt l.body 0 = TB at *
  generalize hFN : F (i + 1) = FN at *
  generalize hFI : F i = FI at *
  repeat' (first
  | (refine zdx ?_; simp [x0, x1, x2, x3, x4, x5, x6, x7, x8, x9, x10, x11, x12, x13, x14, x15, x16, x17, x18, x19, x20, x21, x22, x23, x24, x25, x26, x27, x28, x29, x30, x31, x32, x33, x34, x35, x36, xfz, hx])
  | (refine zeB rfl rfl (by decide +kernel) (by first | (simp [hn]; done) | (simp [hn]; omega) | fail) fun C k hC hk => ?_; simp [x0, x1, x2, x3, x4, x5, x6, x7, x8, x9, x10, x11, x12, x13, x14, x15, x16, x17, x18, x19, x20, x21, x22, x23, x24, x25, x26, x27, x28, x29, x30, x31, x32, x33, x34, x35, x36, xfz, hx])
  | ((first | refine zaf ?_ | refine zbo rfl ?_ | refine zb8 rfl ?_ | refine zaj ?_ | fail); simp [x0, x1, x2, x3, x4, x5, x6, x7, x8, x9, x10, x11, x12, x13, x14, x15, x16, x17, x18, x19, x20, x21, x22, x23, x24, x25, x26, x27, x28, x29, x30, x31, x32, x33, x34, x35, x36, xfz, hx])
  | (refine ⟨by omega, ?_⟩)
  | (refine zah ?_; simp [x0, x1, x2, x3, x4, x5, x6, x7, x8, x9, x10, x11, x12, x13, x14, x15, x16, x17, x18, x19, x20, x21, x22, x23, x24, x25, x26, x27, x28, x29, x30, x31, x32, x33, x34, x35, x36, xfz, hx])
  | (refine zbH (hC _ (by kernel_rfl)) (hk _ ?_); clear hC hk C k; simp only [zap])
  | (refine zaG ?_; simp [x0, x1, x2, x3, x4, x5, x6, x7, x8, x9, x10, x11, x12, x13, x14, x15, x16, x17, x18, x19, x20, x21, x22, x23, x24, x25, x26, x27, x28, x29, x30, x31, x32, x33, x34, x35, x36, xfz, hx])
  | (refine zaq ?_; simp only [zap])
  | (refine ⟨?_, by omega⟩)
  | (intro hc <;> (try (exfalso; omega)))
  | (refine CallV.fun_ (hsh) (by first | rfl | fail) (by first | simp [x0, x1, x2, x3, x4, x5, x6, x7, x8, x9, x10, x11, x12, x13, x14, x15, x16, x17, x18, x19, x20, x21, x22, x23, x24, x25, x26, x27, x28, x29, x30, x31, x32, x33, x34, x35, x36, xfz, hx] <;> rfl | fail) ⟨by first | assumption | (simp; done) | fail, by simp, ?_⟩ <;> (try simp [x0, x1, x2, x3, x4, x5, x6, x7, x8, x9, x10, x11, x12, x13, x14, x15, x16, x17, x18, x19, x20, x21, x22, x23, x24, x25, x26, x27, x28, x29, x30, x31, x32, x33, x34, x35, x36, xfz, hx]))
  | (refine zar (by first | rfl | fail) ?_; simp [x0, x1, x2, x3, x4, x5, x6, x7, x8, x9, x10, x11, x12, x13, x14, x15, x16, x17, x18, x19, x20, x21, x22, x23, x24, x25, x26, x27, x28, x29, x30, x31, x32, x33, x34, x35, x36, xfz, hx, frzN, frz1, zaz, zay, St.frz, St.frzS, frzS, fv, zaH, za3, za5, zaE, zat, zal, del, frz, za6])
  | (refine CallP.okL (hw _ (by first | omega | simp <;> omega | fail)) (by first | (simp [x0, x1, x2, x3, x4, x5, x6, x7, x8, x9, x10, x11, x12, x13, x14, x15, x16, x17, x18, x19, x20, x21, x22, x23, x24, x25, x26, x27, x28, x29, x30, x31, x32, x33, x34, x35, x36, xfz, hx, zaa, getK, zab, zac, zak, zaP, del]; done) | fail) (by rfl) (by rfl) ⟨by first | assumption | (simp; done) | fail, by simp, ?_⟩; (try simp [x0, x1, x2, x3, x4, x5, x6, x7, x8, x9, x10, x11, x12, x13, x14, x15, x16, x17, x18, x19, x20, x21, x22, x23, x24, x25, x26, x27, x28, x29, x30, x31, x32, x33, x34, x35, x36, xfz, hx, zdf, del]))
  | fail)
  refine LoopW.next ⟨i + 1, by omega⟩ (by simp; omega) ?_
  exact (Wk.ren ((fun x => if x = 3 then 6 else x)) rfl (by first | (simp [hn]; done) | (intro i hi; rw [hn] at hi; constructor <;> (try simp) <;> (try (intro _)) <;> omega)) (by simp [zgx, St.lp, zan, zaa, getK, zac, zak, D.under, D.le, D.ren, xle, xfz, xun, hFN] <;> (try (intros; simp_all; done)) <;> (try omega)) (by simp [wkR, St.lp, zaa, getK, zac, zak, obR, leU, zbg, zaS, Ob.under, D.under, D.le, D.ren, xle, xfz, xun, hFN] <;> (try (intros; simp_all; done)) <;> (try omega)) (by simp [xle, xfz, xun, hFN]))
 case none =>
 have hge : b.lets.length ≤ i := by simpa using hx
 obtain rfl : i = b.lets.length := by omega
 rw [← e10]
 clear hFs hFl hFi hx
 have p11 := zdn T10 [100, 117, 101] b.due
 rw [Exp.row_eq] at p11
 obtain ⟨T11, e11⟩ : ∃ T11, T11 = T10 ++ clauseT [100, 117, 101] b.due := ⟨_, rfl⟩
 have m11 : T11.length ≤ T10.length + 60000000 := by rw [e11, List.length_append]; have := zdN (w := [100, 117, 101]) (by decide) hrdue; omega
 rw [← e11] at p11
 repeat' (first
  | ((first | refine zaf ?_ | refine zaj ?_ | refine zah ?_ | fail); simp [y12, z12, xfz])
  | (refine zce ?_; simp [zap])
  | fail)
 refine CallP.okE (p11 3 _ (by omega) (by first | omega | simp <;> omega | fail) hrdue (by simp; omega)) (by first | (simp [zaa, getK, zab, zac]; done) | fail) (by rfl) (by first | assumption | (simp; done) | fail) (by rfl) (by simp) ?_
 rintro d o N hN ⟨rfl, j', h3, hlt, hge, rfl⟩
 simp at hge
 have q0 : ¬ j' = 0 := by omega
 have q1 : ¬ j' = 1 := by omega
 have q2 : ¬ j' = 2 := by omega
 have q3 : ¬ 0 = j' := by omega
 have q4 : ¬ 1 = j' := by omega
 have q5 : ¬ 2 = j' := by omega
 simp [zdf, del]
 refine zaj ?_
 simp only [zap]
 refine zhE { n := 118, env := [(1, .ptr 0 0), (4, .ptr 1 0), (5, .ptr 2 0), (7, .fnc (.func 57) [.ptr 2 0])], obs := [(0, .box CL), (2, zca), (1, zdp 3 T11), (3, zdo T11)], next := 4 } (Wk.ren ((fun x => if x = 3 then j' else x)) rfl (by first | (simp [hn]; done) | (intro i hi; rw [hn] at hi; constructor <;> (try simp) <;> (try (intro _)) <;> omega)) (by simp [zgx, St.lp, zan, zaa, getK, zac, zak, D.under, D.le, D.ren, h3, hlt, q0, q1, q2, q3, q4, q5, xle, xfz] <;> (try (intros; simp_all; done)) <;> (try omega)) (by simp [wkR, St.lp, zaa, getK, zac, zak, obR, leU, zbg, zaS, Ob.under, D.under, D.le, D.ren, h3, hlt, q0, q1, q2, q3, q4, q5, xle, xfz] <;> (try (intros; simp_all; done)) <;> (try omega)) (by simp [h3, hlt, q0, q1, q2, q3, q4, q5, xle, xfz])) ?_
 have p12 := zdn T11 [102, 105, 110, 101] b.fine
 rw [Exp.row_eq] at p12
 obtain ⟨T12, e12⟩ : ∃ T12, T12 = T11 ++ clauseT [102, 105, 110, 101] b.fine := ⟨_, rfl⟩
 have m12 : T12.length ≤ T11.length + 60000000 := by rw [e12, List.length_append]; have := zdN (w := [102, 105, 110, 101]) (by decide) hrfine; omega
 rw [← e12] at p12
 repeat' (first
  | ((first | refine zaf ?_ | refine zah ?_ | fail); simp [y17, z17, xfz])
  | fail)
 refine CallP.okE (p12 3 _ (by omega) (by first | omega | simp <;> omega | fail) hrfine (by simp; omega)) (by first | (simp [zaa, getK, zab, zac]; done) | fail) (by rfl) (by first | assumption | (simp; done) | fail) (by rfl) (by simp) ?_
 rintro d o N hN ⟨rfl, j', h3, hlt, hge, rfl⟩
 simp at hge
 have q0 : ¬ j' = 0 := by omega
 have q1 : ¬ j' = 1 := by omega
 have q2 : ¬ j' = 2 := by omega
 have q3 : ¬ 0 = j' := by omega
 have q4 : ¬ 1 = j' := by omega
 have q5 : ¬ 2 = j' := by omega
 simp [zdf, del]
 refine zaj ?_
 simp only [zap]
 refine zhE { n := 118, env := [(1, .ptr 0 0), (4, .ptr 1 0), (5, .ptr 2 0), (7, .fnc (.func 57) [.ptr 2 0])], obs := [(0, .box CL), (2, zca), (1, zdp 3 T12), (3, zdo T12)], next := 4 } (Wk.ren ((fun x => if x = 3 then j' else x)) rfl (by first | (simp [hn]; done) | (intro i hi; rw [hn] at hi; constructor <;> (try simp) <;> (try (intro _)) <;> omega)) (by simp [zgx, St.lp, zan, zaa, getK, zac, zak, D.under, D.le, D.ren, h3, hlt, q0, q1, q2, q3, q4, q5, xle, xfz] <;> (try (intros; simp_all; done)) <;> (try omega)) (by simp [wkR, St.lp, zaa, getK, zac, zak, obR, leU, zbg, zaS, Ob.under, D.under, D.le, D.ren, h3, hlt, q0, q1, q2, q3, q4, q5, xle, xfz] <;> (try (intros; simp_all; done)) <;> (try omega)) (by simp [h3, hlt, q0, q1, q2, q3, q4, q5, xle, xfz])) ?_
 have p13 := zdn T12 [112, 97, 121] b.pay
 rw [Exp.row_eq] at p13
 obtain ⟨T13, e13⟩ : ∃ T13, T13 = T12 ++ clauseT [112, 97, 121] b.pay := ⟨_, rfl⟩
 have m13 : T13.length ≤ T12.length + 60000000 := by rw [e13, List.length_append]; have := zdN (w := [112, 97, 121]) (by decide) hrpay; omega
 rw [← e13] at p13
 repeat' (first
  | ((first | refine zaf ?_ | refine zah ?_ | fail); simp [y22, z22, xfz])
  | fail)
 refine CallP.okE (p13 3 _ (by omega) (by first | omega | simp <;> omega | fail) hrpay (by simp; omega)) (by first | (simp [zaa, getK, zab, zac]; done) | fail) (by rfl) (by first | assumption | (simp; done) | fail) (by rfl) (by simp) ?_
 rintro d o N hN ⟨rfl, j', h3, hlt, hge, rfl⟩
 simp at hge
 have q0 : ¬ j' = 0 := by omega
 have q1 : ¬ j' = 1 := by omega
 have q2 : ¬ j' = 2 := by omega
 have q3 : ¬ 0 = j' := by omega
 have q4 : ¬ 1 = j' := by omega
 have q5 : ¬ 2 = j' := by omega
 simp [zdf, del]
 refine zaj ?_
 simp only [zap]
 refine zhE { n := 118, env := [(1, .ptr 0 0), (4, .ptr 1 0), (5, .ptr 2 0), (7, .fnc (.func 57) [.ptr 2 0])], obs := [(0, .box CL), (2, zca), (1, zdp 3 T13), (3, zdo T13)], next := 4 } (Wk.ren ((fun x => if x = 3 then j' else x)) rfl (by first | (simp [hn]; done) | (intro i hi; rw [hn] at hi; constructor <;> (try simp) <;> (try (intro _)) <;> omega)) (by simp [zgx, St.lp, zan, zaa, getK, zac, zak, D.under, D.le, D.ren, h3, hlt, q0, q1, q2, q3, q4, q5, xle, xfz] <;> (try (intros; simp_all; done)) <;> (try omega)) (by simp [wkR, St.lp, zaa, getK, zac, zak, obR, leU, zbg, zaS, Ob.under, D.under, D.le, D.ren, h3, hlt, q0, q1, q2, q3, q4, q5, xle, xfz] <;> (try (intros; simp_all; done)) <;> (try omega)) (by simp [h3, hlt, q0, q1, q2, q3, q4, q5, xle, xfz])) ?_
 have p14 := zdn T13 [99, 111, 118, 101, 114] b.cover
 rw [Exp.row_eq] at p14
 obtain ⟨T14, e14⟩ : ∃ T14, T14 = T13 ++ clauseT [99, 111, 118, 101, 114] b.cover := ⟨_, rfl⟩
 have m14 : T14.length ≤ T13.length + 60000000 := by rw [e14, List.length_append]; have := zdN (w := [99, 111, 118, 101, 114]) (by decide) hrcover; omega
 rw [← e14] at p14
 repeat' (first
  | ((first | refine zaf ?_ | refine zah ?_ | fail); simp [y27, z27, xfz])
  | fail)
 refine CallP.okE (p14 3 _ (by omega) (by first | omega | simp <;> omega | fail) hrcover (by simp; omega)) (by first | (simp [zaa, getK, zab, zac]; done) | fail) (by rfl) (by first | assumption | (simp; done) | fail) (by rfl) (by simp) ?_
 rintro d o N hN ⟨rfl, j', h3, hlt, hge, rfl⟩
 simp at hge
 have q0 : ¬ j' = 0 := by omega
 have q1 : ¬ j' = 1 := by omega
 have q2 : ¬ j' = 2 := by omega
 have q3 : ¬ 0 = j' := by omega
 have q4 : ¬ 1 = j' := by omega
 have q5 : ¬ 2 = j' := by omega
 simp [zdf, del]
 refine zaj ?_
 simp only [zap]
 refine zhE { n := 118, env := [(1, .ptr 0 0), (4, .ptr 1 0), (5, .ptr 2 0), (7, .fnc (.func 57) [.ptr 2 0])], obs := [(0, .box CL), (2, zca), (1, zdp 3 T14), (3, zdo T14)], next := 4 } (Wk.ren ((fun x => if x = 3 then j' else x)) rfl (by first | (simp [hn]; done) | (intro i hi; rw [hn] at hi; constructor <;> (try simp) <;> (try (intro _)) <;> omega)) (by simp [zgx, St.lp, zan, zaa, getK, zac, zak, D.under, D.le, D.ren, h3, hlt, q0, q1, q2, q3, q4, q5, xle, xfz] <;> (try (intros; simp_all; done)) <;> (try omega)) (by simp [wkR, St.lp, zaa, getK, zac, zak, obR, leU, zbg, zaS, Ob.under, D.under, D.le, D.ren, h3, hlt, q0, q1, q2, q3, q4, q5, xle, xfz] <;> (try (intros; simp_all; done)) <;> (try omega)) (by simp [h3, hlt, q0, q1, q2, q3, q4, q5, xle, xfz])) ?_
 have p15 := zdn T14 [104, 111, 108, 100] b.hold
 rw [Exp.row_eq] at p15
 obtain ⟨T15, e15⟩ : ∃ T15, T15 = T14 ++ clauseT [104, 111, 108, 100] b.hold := ⟨_, rfl⟩
 have m15 : T15.length ≤ T14.length + 60000000 := by rw [e15, List.length_append]; have := zdN (w := [104, 111, 108, 100]) (by decide) hrhold; omega
 rw [← e15] at p15
 repeat' (first
  | ((first | refine zaf ?_ | refine zah ?_ | fail); simp [y32, z32, xfz])
  | fail)
 refine CallP.okE (p15 3 _ (by omega) (by first | omega | simp <;> omega | fail) hrhold (by simp; omega)) (by first | (simp [zaa, getK, zab, zac]; done) | fail) (by rfl) (by first | assumption | (simp; done) | fail) (by rfl) (by simp) ?_
 rintro d o N hN ⟨rfl, j', h3, hlt, hge, rfl⟩
 simp at hge
 have q0 : ¬ j' = 0 := by omega
 have q1 : ¬ j' = 1 := by omega
 have q2 : ¬ j' = 2 := by omega
 have q3 : ¬ 0 = j' := by omega
 have q4 : ¬ 1 = j' := by omega
 have q5 : ¬ 2 = j' := by omega
 simp [zdf, del]
 refine zaj ?_
 simp only [zap]
 refine zhE { n := 118, env := [(1, .ptr 0 0), (4, .ptr 1 0), (5, .ptr 2 0), (7, .fnc (.func 57) [.ptr 2 0])], obs := [(0, .box CL), (2, zca), (1, zdp 3 T15), (3, zdo T15)], next := 4 } (Wk.ren ((fun x => if x = 3 then j' else x)) rfl (by first | (simp [hn]; done) | (intro i hi; rw [hn] at hi; constructor <;> (try simp) <;> (try (intro _)) <;> omega)) (by simp [zgx, St.lp, zan, zaa, getK, zac, zak, D.under, D.le, D.ren, h3, hlt, q0, q1, q2, q3, q4, q5, xle, xfz] <;> (try (intros; simp_all; done)) <;> (try omega)) (by simp [wkR, St.lp, zaa, getK, zac, zak, obR, leU, zbg, zaS, Ob.under, D.under, D.le, D.ren, h3, hlt, q0, q1, q2, q3, q4, q5, xle, xfz] <;> (try (intros; simp_all; done)) <;> (try omega)) (by simp [h3, hlt, q0, q1, q2, q3, q4, q5, xle, xfz])) ?_
 have hTT : TT = T15 := by
  rw [← hT, textP, e15, e14, e13, e12, e11, eL, e9, e8, e7, e6, e5, e4, e3, e2, e1, e0]
 have n0 : 0 < T0.length := by rw [e0, ziR, zbF]; simp
 have hge : T0.length ≤ T15.length := by
  simp only [e15, e14, e13, e12, e11, eL, e9, e8, e7, e6, e5, e4, e3, e2, e1, List.length_append]
  omega
 have hne0 : T15 ≠ [] := fun h => by rw [h] at hge; simp at hge; rw [hge] at n0; simp at n0
 rw [hTT]
 have hst := fun nx (h : 4 ≤ nx) => zmy 1 3 nx (by omega) (by omega) (by decide) T15 hne0
 have hft := zma T15
 by_cases hbig : 2000 < T15.length
 ·rw [if_pos hbig] at hft ⊢
  repeat' (first
  | ((first | refine zaf ?_ | refine zaj ?_ | refine zah ?_ | fail); simp [xfz])
  | (refine zas ?_; simp only [zap])
  | (refine CallP.fE (hft) (by first | rfl | fail) (by first | simp [xfz] <;> rfl | fail) ⟨by first | assumption | (simp; done) | fail, by simp, ?_⟩; (try simp [xfz]))
  | (refine CallP.okL (hst _ (by first | omega | simp <;> omega | fail)) (by first | (simp [xfz, zaa, getK, zab, zac, zak, zaP, del]; done) | fail) (by rfl) (by rfl) ⟨by first | assumption | (simp; done) | fail, by simp, ?_⟩; (try simp [xfz, zdf, del]))
  | fail)
  (refine EndW.here ?_; (first | (refine EndOK.fin (.inr rfl) ?_) | (refine EndOK.fin (.inl rfl) ?_)); simp [zaM, zag, Tryz.results19]; refine FinOK.here (by simp) ?_; try simp)
 ·rw [if_neg hbig] at hft ⊢
  repeat' (first
  | ((first | refine zaf ?_ | refine zaj ?_ | refine zah ?_ | fail); simp [xfz])
  | (refine zas ?_; simp only [zap])
  | (refine CallP.fE (hft) (by first | rfl | fail) (by first | simp [xfz] <;> rfl | fail) ⟨by first | assumption | (simp; done) | fail, by simp, ?_⟩; (try simp [xfz]))
  | (refine CallP.okL (hst _ (by first | omega | simp <;> omega | fail)) (by first | (simp [xfz, zaa, getK, zab, zac, zak, zaP, del]; done) | fail) (by rfl) (by rfl) ⟨by first | assumption | (simp; done) | fail, by simp, ?_⟩; (try simp [xfz, zdf, del]))
  | fail)
  (refine EndW.here ?_; (first | (refine EndOK.fin (.inr rfl) ?_) | (refine EndOK.fin (.inl rfl) ?_)); simp [zaM, zag, Tryz.results19]; refine FinOK.here (by simp) ?_; try simp)
theorem zjE (b : By) : Fun Tryz.prog 19 [.u (.agg (zbf b))] (· = .tup [.u (.str (printB b).1), .u (.int .i64 (printB b).2)]) := by
 cases hb : zbD b with
 | true =>
  unfold Fun
  exact (znO b hb).ret (fun d o n h => by
   cases h
   exact ⟨by simp [zau], rfl⟩) (fun ch o n h => by cases h)
 | false =>
  have hri := zdI b
  rw [hb] at hri
  have hp : printB b = ([], 1) := by unfold printB; rw [if_neg (by simp [hb])]
  rw [hp]
  unfold zbf at hri ⊢
  (refine Fun.of_body Tryz.func19 rfl (by simp) fun Γ hn => ?_); simp only [entry, ziC, ziN, maC, maN, oA, Tryz.ntmps19]
  repeat' (first
  | ((first | refine zaf ?_ | refine zaj ?_ | refine zah ?_ | refine zai ?_ | fail); simp)
  | (refine zas ?_; simp only [zap])
  | (refine CallP.fE (hri) (by first | rfl | fail) (by first | (simp; done) | (simp; rfl) | fail) ?_; (try simp))
  | fail)
  (refine EndOK.val (.inr rfl) ?_; simp [zaM, zag, zau, Tryz.results19])
theorem zqa (i j q nx : Nat) (hi : i < nx) (hj : j < nx) (hq : q < nx) (hij : i ≠ j) (hiq : i ≠ q) (hjq : j ≠ q) (p e : Int) (cells : List U) :
  RetDf Tryz.prog 35 [.ptr i 0, .ptr j 0, .ptr q 0] [(i, .box [.u (.int .i64 p)]), (j, .box [.u (.int .i64 e)]), (q, .box (cells.map .u))] nx .returning
   (fun u o n => settle u = .returning ∧ n = nx ∧ o = [(i, .box [.u (.int .i64 p)]), (j, .box [.u (.int .i64 e)]), (q, .box (cells.map .u))]) := by
 have hne := zaB hi
 have hne2 := zaB hj
 have hne3 := zaB hq
 have hc0 := zhw i j nx hi hj hij p e
 refine RetDf.of_body Tryz.func35 rfl (by simp) (by simp) rfl fun Γ hn => ?_
 simp [entry, zkU, Tryz.ntmps35]
 refine CallP.x2 hc0 (by simp [getK]) (by simp [getK, hij, Ne.symm hij]) hij rfl rfl (by simp) (by simp) (fun d o1 nx' hnx h => ?_) (fun ch o1 nx' hnx h => by cases h.1)
 obtain ⟨h1, rfl, h4⟩ := h
 have h4 := h4.symm
 subst h4
 cases h1
 simp [del, hij, Ne.symm hij, hiq, hjq, Ne.symm hiq, Ne.symm hjq]
 repeat' (first
  | (refine zai ?_; simp [hij, hiq, hjq])
  | (refine zaq ?_; simp only [zap])
  | fail)
 (refine ⟨by simp, { n := _, env := [], obs := [(i, .box [.u (.int .i64 p)]), (j, .box [.u (.int .i64 e)]), (q, .box (cells.map .u))], next := nx }, (Wk.cut rfl (by simp [hn]) (by simp [wkO, zaa, getK, zab, zac, Ob.under, D.under, zad, zae, hi, hj, hq, hne, hne2, hne3, hij, hiq, hjq, Ne.symm hij, Ne.symm hiq, Ne.symm hjq]) (by simp [wkU, zan, zaa, getK, D.under, hi, hj, hq, hne, hne2, hne3, hij, hiq, hjq, Ne.symm hij, Ne.symm hiq, Ne.symm hjq]) (by simp [wkE, zan, zaa, getK, hi, hj, hq, hne, hne2, hne3, hij, hiq, hjq, Ne.symm hij, Ne.symm hiq, Ne.symm hjq])), by simp [hn], ?_⟩; try simp)
 all_goals rfl
theorem zqb (i j q nx : Nat) (hi : i < nx) (hj : j < nx) (hq : q < nx) (hij : i ≠ j) (hiq : i ≠ q) (hjq : j ≠ q) (p e pos err : Int) :
  RetDf Tryz.prog 35 [.ptr i 0, .ptr j 0, .ptr q 0] [(i, .box [.u (.int .i64 p)]), (j, .box [.u (.int .i64 e)]), (q, zp5)] nx (.panicking (chP pos err))
   (fun u o n => settle u = .returning ∧ n = nx ∧ o = [(i, .box [.u (.int .i64 pos)]), (j, .box [.u (.int .i64 err)]), (q, zp5)]) := by
 have hne := zaB hi
 have hne2 := zaB hj
 have hne3 := zaB hq
 have hc0 := zhv i j nx hi hj hij p e pos err
 refine RetDf.of_body Tryz.func35 rfl (by simp) (by simp) rfl fun Γ hn => ?_
 simp [entry, zkU, chP, Tryz.ntmps35]
 refine CallP.x2 hc0 (by simp [getK]) (by simp [getK, hij, Ne.symm hij]) hij rfl rfl (by simp) (by simp) (fun d o1 nx' hnx h => ?_) (fun ch o1 nx' hnx h => by cases h.1)
 obtain ⟨h1, rfl, h4⟩ := h
 have h4 := h4.symm
 subst h4
 cases h1
 simp [del, hij, Ne.symm hij, hiq, hjq, Ne.symm hiq, Ne.symm hjq]
 repeat' (first
  | ((first | refine zaf ?_ | refine zaj ?_ | refine zai ?_ | refine zaG ?_ | fail); simp [hij, hiq, hjq])
  | fail)
 (refine ⟨by simp, { n := _, env := [], obs := [(i, .box [.u (.int .i64 pos)]), (j, .box [.u (.int .i64 err)]), (q, zp5)], next := nx }, (Wk.cut rfl (by simp [hn]) (by simp [wkO, zaa, getK, zab, zac, Ob.under, D.under, zad, zae, hi, hj, hq, hne, hne2, hne3, hij, hiq, hjq, Ne.symm hij, Ne.symm hiq, Ne.symm hjq]) (by simp [wkU, zan, zaa, getK, D.under, hi, hj, hq, hne, hne2, hne3, hij, hiq, hjq, Ne.symm hij, Ne.symm hiq, Ne.symm hjq]) (by simp [wkE, zan, zaa, getK, hi, hj, hq, hne, hne2, hne3, hij, hiq, hjq, Ne.symm hij, Ne.symm hiq, Ne.symm hjq])), by simp [hn], ?_⟩; try simp)
 all_goals rfl
theorem znS (s : W8) : RetX Tryz.prog 10 [.u (.str s)] [] 0 (fun r o n => r = .val (zrR (zcG s))) := by
 skip
 unfold zcG
 cases hlx : zgs s with
 | error pe =>
  obtain ⟨p, e⟩ := pe
  have ho := fun nx => zlD s p e nx hlx
  have he := (zlO hlx).1
  simp only
  (refine RetX.zdC Tryz.func10 rfl (by simp) fun Γ hn hdfr hpan hesc => ?_); simp only [entry, ziC, ziN, maC, maN, oA, Tryz.ntmps10]
  repeat' (first
  | ((first | refine zaf ?_ | refine zbo rfl ?_ | refine zb8 rfl ?_ | refine zaj ?_ | refine zah ?_ | refine zai ?_ | fail); simp [he])
  | (refine zbH (hC _ (by kernel_rfl)) (hk _ ?_); clear hC hk C k; simp only [zap])
  | (refine zb0 rfl (by kernel_rfl) (by first | (simp [hn]; done) | (simp [hn]; omega) | fail) fun C k hC hk => ?_; simp [he])
  | (refine zas ?_; simp only [zap])
  | (refine CallP.okL (ho _) (by first | (simp [he, zaa, getK, zab, zac, zak, zaP, del]; done) | fail) (by rfl) (by rfl) ?_; (try simp [he, zdf, del]))
  | fail)
  refine EndW.norm ?_
  simp [St.norm, zbh, zb3, zcs, zct]
  (refine EndW.here ?_; (first | (refine EndOK.fin (.inr rfl) ?_) | (refine EndOK.fin (.inl rfl) ?_)); simp [zaM, zag, Tryz.results10]; refine FinOK.here (by simp) ?_; try simp)
  simp [zrR, zbf, zdV, zdg, Exp.op, Exp.n, Exp.unit, Exp.s, Exp.args]
 | ok l =>
  obtain ⟨hl, hl2, hl0⟩ := ziP hlx
  have ho := fun nx => zn0 s l nx hlx
  have hE := zno l hl0 hl hl2
  simp only
  cases hr : zkL l with
  | stop pos e =>
   simp only [hr] at hE ⊢
   (refine RetX.zdC Tryz.func10 rfl (by simp) fun Γ hn hdfr hpan hesc => ?_); simp only [entry, ziC, ziN, maC, maN, oA, Tryz.ntmps10]
   rw [zdF]
   repeat' (first
  | ((first | refine zaf ?_ | refine zaj ?_ | refine zah ?_ | refine zai ?_ | fail); simp)
  | (refine zaq ?_; simp only [zap])
  | (refine CallP.okL (ho _) (by first | (simp [zaa, getK, zab, zac, zak, zaP, del]; done) | fail) (by rfl) (by rfl) ?_; (try simp [zdf, del]))
  | fail)
   refine zgo hesc hdfr rfl (by simp) ?_
   have hn0 := hn
   have hpan0 := hpan
   intro Γ' hn hpan
   simp
   repeat' (first
  | ((first | refine zaf ?_ | refine zah ?_ | fail); simp)
  | (refine CallP.zem (hE) (by first | (simp [zaa, getK, zab, zac]; done) | fail) (by rfl) (by first | assumption | (simp; done) | fail) (by rfl) (by simp) ?_; rintro ob' ⟨q', rfl⟩; refine ⟨_, Wk.refl _, ?_⟩)
  | fail)
   refine hpan _ _ ?_
   refine LeaveD.of [(1, .box [.u (.int .i64 0)]), (2, .box [.u (.int .i64 0)]), (0, zp5)] (by simp [zaa, getK, zab, zac]) (zqb 1 2 0 _ (by simp) (by simp) (by simp) (by decide) (by decide) (by decide) 0 0 _ _) ?_
   simp only [show Γ.base.n0 = 0 from hn0]
   simp [zdf, del]
   refine EndW.norm ?_
   simp [St.norm, zbh, zb3, zcs, zct]
   (refine EndW.here ?_; (first | (refine EndOK.fin (.inr rfl) ?_) | (refine EndOK.fin (.inl rfl) ?_)); simp [zaM, zag, Tryz.results10]; refine FinOK.here (by simp) ?_; try simp)
   simp [zrR, zbf, zdV, zdg, Exp.op, Exp.n, Exp.unit, Exp.s, Exp.args]
  | ok b q =>
   have hEx : RetX Tryz.prog 37 [.ptr 3 0] [(3, pOb l 0)] 4 (fun r o n => r = .val (.u (.agg (zbf b))) ∧ o = [(3, pOb l q)] ∧ n = 4) := by
    rw [hr] at hE
    exact hE
   unfold zbf at hEx
   (refine RetX.zdC Tryz.func10 rfl (by simp) fun Γ hn hdfr hpan hesc => ?_); simp only [entry, ziC, ziN, maC, maN, oA, Tryz.ntmps10]
   rw [zdF]
   repeat' (first
  | ((first | refine zaf ?_ | refine zaj ?_ | refine zah ?_ | refine zai ?_ | fail); simp)
  | (refine zaq ?_; simp only [zap])
  | (refine CallP.okL (ho _) (by first | (simp [zaa, getK, zab, zac, zak, zaP, del]; done) | fail) (by rfl) (by rfl) ?_; (try simp [zdf, del]))
  | fail)
   refine zgo hesc hdfr rfl (by simp) ?_
   have hn0 := hn
   have hpan0 := hpan
   intro Γ' hn hpan
   simp
   repeat' (first
  | ((first | refine zaf ?_ | refine zaj ?_ | refine zah ?_ | fail); simp [del])
  | (refine zas ?_; simp only [zap])
  | (refine CallP.ok1 (hEx) (by first | (simp [del, zaa, getK, zab, zac]; done) | fail) (by rfl) (by rfl) ?_; (try simp [del]))
  | fail)
   refine ⟨rfl, ?_⟩
   refine LeaveD.of [(1, .box [.u (.int .i64 0)]), (2, .box [.u (.int .i64 0)]), (0, .box ((zbf b).map .u))] (by simp [zaa, getK, zab, zac, zbf]) (zqa 1 2 0 _ (by simp) (by simp) (by simp) (by decide) (by decide) (by decide) 0 0 _) ?_
   simp only [show Γ.base.n0 = 0 from hn0]
   simp [zdf, del, zbf]
   (refine EndW.here ?_; (first | (refine EndOK.fin (.inr rfl) ?_) | (refine EndOK.fin (.inl rfl) ?_)); simp [zaM, zag, Tryz.results10]; refine FinOK.here (by simp) ?_; try simp)
   simp [zrR, zbf]
theorem zfC (s : W8) : Fun Tryz.prog 10 [.u (.str s)] (· = .tup [byD (zcG s).1, .u (.int .i64 (zcG s).2.1), .u (.int .i64 (zcG s).2.2)]) := by
 unfold Fun
 exact (znS s).ret (fun d o n h => by
  cases h
  exact ⟨by simp [zrR, zau], rfl⟩) (fun ch o n h => by cases h)
theorem ziG {s : W8} {b : By} {p e : Int} (h : zhX s = (b, p, e)) : Fun Tryz.prog 10 [.u (.str s)] (· = .tup [byD b, .u (.int .i64 p), .u (.int .i64 e)]) := by
 have h1 := zfC s
 rw [znU, h] at h1
 exact h1
theorem zjS {s : W8} {b : Exp} {p e : Int} (h : zjP s = (b, p, e)) : Fun Tryz.prog 12 [.u (.str s)] (· = .tup [zgB b, .u (.int .i64 p), .u (.int .i64 e)]) := by
 have h1 := zbR s
 rw [znT, h] at h1
 exact h1
theorem zjF {e : Exp} {s : W8} (h : zaA 12 e = true) (ht : txt e 0 = s) (hs : s.length ≤ 2000) : Fun Tryz.prog 21 [.u (.agg e.row)] (· = .tup [.u (.str s), .u (.int .i64 0)]) := by
 have h1 := zdW e
 rw [show zfB e = (s, 0) by unfold zfB; rw [if_pos h, ht, if_neg (by omega)]] at h1
 exact h1
theorem dM : zeU 9 (.agg [.int .i64 4, .int .i64 0, .int .i64 0, .str [], .sl [[.int .i64 0, .int .i64 3, .int .i64 1, .str [], .nil], [.int .i64 2, .int .i64 0, .int .i64 0, .str [], .sl [[.int .i64 0, .int .i64 5, .int .i64 3, .str [], .nil], [.int .i64 1, .int .i64 0, .int .i64 0, .str [112, 111, 116], .nil]]]]]) = .agg eM.row := by simp [zeU, Exp.row_eq, eM, eS, Exp.op, Exp.n, Exp.unit, Exp.s, Exp.args]
theorem dS : zeU 9 (.agg [.int .i64 2, .int .i64 0, .int .i64 0, .str [], .sl [[.int .i64 0, .int .i64 5, .int .i64 3, .str [], .nil], [.int .i64 1, .int .i64 0, .int .i64 0, .str [112, 111, 116], .nil]]]) = .agg eS.row := by simp [zeU, Exp.row_eq, eM, eS, Exp.op, Exp.n, Exp.unit, Exp.s, Exp.args]
theorem dZ : zeU 9 (.agg [.int .i64 1, .int .i64 0, .int .i64 0, .str [], .nil]) = .agg (Exp.mk 1 0 0 [] []).row := by simp [zeU, Exp.row_eq, eM, eS, Exp.op, Exp.n, Exp.unit, Exp.s, Exp.args]
theorem znH : Fun Tryz.prog 9 [] (· = .u (.bool true)) := by
 have h1 := zjS pv1
 have h2 := zjF rA tA (by decide)
 have h3 : Fun Tryz.prog 21 ([.agg [.int .i64 4, .int .i64 0, .int .i64 0, .str [], .sl [[.int .i64 0, .int .i64 3, .int .i64 1, .str [], .nil], [.int .i64 2, .int .i64 0, .int .i64 0, .str [], .sl [[.int .i64 0, .int .i64 5, .int .i64 3, .str [], .nil], [.int .i64 1, .int .i64 0, .int .i64 0, .str [112, 111, 116], .nil]]]]]].map .u) (· = .tup [.u (.str [51, 32, 42, 32, 40, 32, 53, 32, 99, 111, 105, 110, 115, 32, 43, 32, 112, 111, 116, 32, 41]), .u (.int .i64 0)]) := Fun.zro 9 (by simp only [List.map_cons, List.map_nil, dM]; exact zjF rM tM (by decide))
 have h4 := ziG pv3
 have h5 : Fun Tryz.prog 19 [.u (.agg (zbf bB))] (· = .tup [.u (.str [99, 105, 114, 99, 108, 101, 32, 115, 97, 118, 105, 110, 103, 32, 59, 10, 112, 101, 114, 105, 111, 100, 32, 55, 32, 100, 97, 121, 115, 32, 59, 10, 108, 97, 115, 116, 32, 49, 48, 32, 59, 10, 100, 117, 101, 32, 49, 48, 48, 32, 99, 111, 105, 110, 115, 32, 59, 10]), .u (.int .i64 0)]) := by
  have h := zjE bB
  have e : textP bB = [99, 105, 114, 99, 108, 101, 32, 115, 97, 118, 105, 110, 103, 32, 59, 10, 112, 101, 114, 105, 111, 100, 32, 55, 32, 100, 97, 121, 115, 32, 59, 10, 108, 97, 115, 116, 32, 49, 48, 32, 59, 10, 100, 117, 101, 32, 49, 48, 48, 32, 99, 111, 105, 110, 115, 32, 59, 10] := tB
  rw [show printB bB = ([99, 105, 114, 99, 108, 101, 32, 115, 97, 118, 105, 110, 103, 32, 59, 10, 112, 101, 114, 105, 111, 100, 32, 55, 32, 100, 97, 121, 115, 32, 59, 10, 108, 97, 115, 116, 32, 49, 48, 32, 59, 10, 100, 117, 101, 32, 49, 48, 48, 32, 99, 111, 105, 110, 115, 32, 59, 10], 0) by unfold printB; rw [if_pos rB, e, if_neg (by decide)]] at h
  exact h
 have h6 := ziG pv4
 have h7 := ziG pv5
 have h8 := zjS pv2
 have h9 := zdI bB
 rw [rB] at h9
 have h10 : Fun Tryz.prog 23 ([.agg [.int .i64 0, .int .i64 0, .int .i64 0, .int .i64 0, .int .i64 0, .int .i64 0, .bool false, .int .i64 0, .int .i64 0, .int .i64 0, .int .i64 0, .nil, .int .i64 0, .int .i64 0, .int .i64 0, .str [], .nil, .int .i64 0, .int .i64 0, .int .i64 0, .str [], .nil, .int .i64 0, .int .i64 0, .int .i64 0, .str [], .nil, .int .i64 0, .int .i64 0, .int .i64 0, .str [], .nil, .int .i64 0, .int .i64 0, .int .i64 0, .str [], .nil]].map .u) (· = .u (.bool false)) := Fun.zro 9 (by have h := zdI zdV; rw [rz] at h; exact h)
 have h11 : Fun Tryz.prog 25 ([.agg [.int .i64 2, .int .i64 0, .int .i64 0, .str [], .sl [[.int .i64 0, .int .i64 5, .int .i64 3, .str [], .nil], [.int .i64 1, .int .i64 0, .int .i64 0, .str [112, 111, 116], .nil]]]].map .u) (· = .u (.bool true)) := Fun.zro 9 (by have h := zci eS; rw [rS, zgB, ← Exp.row_eq] at h; simp only [List.map_cons, List.map_nil, dS]; exact h)
 have h12 : Fun Tryz.prog 25 ([.agg [.int .i64 1, .int .i64 0, .int .i64 0, .str [], .nil]].map .u) (· = .u (.bool false)) := Fun.zro 9 (by have h := zci (.mk 1 0 0 [] []); rw [rZ, zgB, ← Exp.row_eq] at h; simp only [List.map_cons, List.map_nil, dZ]; exact h)
 have h13 := ze0 [112, 101, 114, 105, 111, 100]
 rw [nP] at h13
 have h14 := ze0 [99, 111, 105, 110, 115]
 rw [nC] at h14
 have h15 := zjx bB
 have h16 : Fun Tryz.prog 28 ([.agg [.int .i64 2, .int .i64 0, .int .i64 0, .str [], .sl [[.int .i64 0, .int .i64 5, .int .i64 3, .str [], .nil], [.int .i64 1, .int .i64 0, .int .i64 0, .str [112, 111, 116], .nil]]], .agg [.int .i64 2, .int .i64 0, .int .i64 0, .str [], .sl [[.int .i64 0, .int .i64 5, .int .i64 3, .str [], .nil], [.int .i64 1, .int .i64 0, .int .i64 0, .str [112, 111, 116], .nil]]]].map .u) (· = .u (.bool true)) := Fun.zro 9 (by have h := zcg eS eS; rw [zdu, zex] at h; simp only [List.map_cons, List.map_nil, dS]; exact h)
 rw [Exp.row_eq] at h2
 simp only [zgB, byD, zbf, List.map_cons, List.map_nil] at h1 h3 h4 h6 h7 h8 h10 h11 h12 h15 h16 h5 h9
 generalize eA = e1 at *
 generalize bB = b1 at *
 (refine Fun.of_bodyW Tryz.func9 rfl (by simp) fun Γ hn => ?_); simp only [entry, ziC, ziN, maC, maN, oA, Tryz.ntmps9]
 repeat' (first
  | ((first | refine zaf ?_ | refine zaj ?_ | refine zah ?_ | fail); simp)
  | (refine CallP.fE (h1) (by first | rfl | fail) (by first | (simp; done) | (simp; rfl) | fail) ?_; (try simp))
  | (refine CallP.fE (h2) (by first | rfl | fail) (by first | (simp; done) | (simp; rfl) | fail) ?_; (try simp))
  | fail)
 refine zjg (Wk.frzN 1 _) ?_
 simp [frzN, frz1, zaz, zay, St.frz, St.frzS, frzS, fv, zaH, za3, za5, zaE, zat, zal, del, frz, za6]
 refine zjg (Wk.frzN 1 _) ?_
 simp [frzN, frz1, zaz, zay, St.frz, St.frzS, frzS, fv, zaH, za3, za5, zaE, zat, zal, del, frz, za6]
 repeat' (first
  | ((first | refine zaf ?_ | refine zaj ?_ | refine zah ?_ | fail); simp)
  | (refine zas ?_; simp only [zap])
  | (refine CallP.fE (h3) (by first | rfl | fail) (by first | (simp; done) | (simp; rfl) | fail) ?_; (try simp))
  | (refine CallP.fE (h4) (by first | rfl | fail) (by first | (simp; done) | (simp; rfl) | fail) ?_; (try simp))
  | (refine CallP.fE (h5) (by first | rfl | fail) (by first | (simp; done) | (simp; rfl) | fail) ?_; (try simp))
  | (refine CallP.fE (h6) (by first | rfl | fail) (by first | (simp; done) | (simp; rfl) | fail) ?_; (try simp))
  | (refine CallP.fE (h7) (by first | rfl | fail) (by first | (simp; done) | (simp; rfl) | fail) ?_; (try simp))
  | (refine CallP.fE (h8) (by first | rfl | fail) (by first | (simp; done) | (simp; rfl) | fail) ?_; (try simp))
  | (refine CallP.fE (h9) (by first | rfl | fail) (by first | (simp; done) | (simp; rfl) | fail) ?_; (try simp))
  | (refine CallP.fE (h10) (by first | rfl | fail) (by first | (simp; done) | (simp; rfl) | fail) ?_; (try simp))
  | (refine CallP.fE (h11) (by first | rfl | fail) (by first | (simp; done) | (simp; rfl) | fail) ?_; (try simp))
  | (refine CallP.fE (h12) (by first | rfl | fail) (by first | (simp; done) | (simp; rfl) | fail) ?_; (try simp))
  | (refine CallP.fE (h13) (by first | rfl | fail) (by first | (simp; done) | (simp; rfl) | fail) ?_; (try simp))
  | (refine CallP.fE (h14) (by first | rfl | fail) (by first | (simp; done) | (simp; rfl) | fail) ?_; (try simp))
  | (refine CallP.fE (h15) (by first | rfl | fail) (by first | (simp; done) | (simp; rfl) | fail) ?_; (try simp))
  | (refine CallP.fE (h16) (by first | rfl | fail) (by first | (simp; done) | (simp; rfl) | fail) ?_; (try simp))
  | fail)
 refine EndW.here ?_
 (refine EndOK.val (.inr rfl) ?_; simp [zaM, zag, zau, Tryz.results9])
theorem zse : Fun Tryz.prog 14 ([.agg [.int .i64 0, .int .i64 0, .int .i64 0, .int .i64 0, .int .i64 0, .int .i64 0, .bool false, .int .i64 0, .int .i64 0, .int .i64 0, .int .i64 0, .sl [], .int .i64 0, .int .i64 0, .int .i64 0, .str [], .sl [], .int .i64 0, .int .i64 0, .int .i64 0, .str [], .sl [], .int .i64 0, .int .i64 0, .int .i64 0, .str [], .sl [], .int .i64 0, .int .i64 0, .int .i64 0, .str [], .sl [], .int .i64 0, .int .i64 0, .int .i64 0, .str [], .sl []], .agg [.int .i64 0, .int .i64 0, .int .i64 0, .int .i64 0, .int .i64 0, .int .i64 0, .bool false, .int .i64 0, .int .i64 0, .int .i64 0, .int .i64 0, .nil, .int .i64 0, .int .i64 0, .int .i64 0, .str [], .nil, .int .i64 0, .int .i64 0, .int .i64 0, .str [], .nil, .int .i64 0, .int .i64 0, .int .i64 0, .str [], .nil, .int .i64 0, .int .i64 0, .int .i64 0, .str [], .nil, .int .i64 0, .int .i64 0, .int .i64 0, .str [], .nil]].map .u) (· = .u (.bool true)) := Fun.zro 9 (zhV zdV)
theorem zrE : Fun Tryz.prog 15 ([.agg [.int .i64 0, .int .i64 0, .int .i64 0, .str [], .sl []], .agg [.int .i64 0, .int .i64 0, .int .i64 0, .str [], .nil]].map .u) (· = .u (.bool true)) := Fun.zro 9 (by
 have h := zbQ zdg zdg
 rw [zfc, zex] at h
 rw [show (Exp.row zdg) = [.int .i64 0, .int .i64 0, .int .i64 0, .str [], .sl []] by rw [Exp.row_eq]; rfl] at h
 exact h)
/-- What can be parsed, of a string. -/
theorem zq6 (s : W8) : ∃ (b : By) (at_ e : Int), zcG s = (b, at_, e) ∧ 0 ≤ at_ ∧ at_ ≤ s.length ∧ (e ≠ 0 ∧ b = zdV ∨ e = 0 ∧ at_ = 0 ∧ zbD b = true ∧ (printB b = ([], 6) ∨ ∃ T : W8, T.length ≤ 2000 ∧ printB b = (T, 0) ∧ zcG (zbp T) = (b, 0, 0))) := by
 obtain ⟨h1, h2, h3⟩ := zjT s
 obtain ⟨b, p, e, hr⟩ : ∃ b p e, zcG s = (b, p, e) := ⟨_, _, _, rfl⟩
 rw [hr] at h1 h2 h3
 refine ⟨b, p, e, hr, h1, h2, ?_⟩
 rcases h3 with ⟨h3, h4⟩ | ⟨h3, h4⟩
 ·exact .inl ⟨h3, h4⟩
 ·cases h3
  refine .inr ⟨rfl, rfl, h4, ?_⟩
  by_cases hl : 2000 < (textP b).length
  ·exact .inl (by unfold printB; rw [if_pos h4, if_pos hl])
  ·exact .inr ⟨textP b, by omega, by unfold printB; rw [if_pos h4, if_neg hl], zqZ h4 hl⟩
theorem zpR (s : W8) : ∃ (b : Exp) (at_ e : Int), zcj s = (b, at_, e) ∧ 0 ≤ at_ ∧ at_ ≤ s.length ∧ (e ≠ 0 ∧ b = zdg ∨ e = 0 ∧ at_ = 0 ∧ zaA 12 b = true ∧ (zfB b = ([], 6) ∨ ∃ T : W8, T.length ≤ 2000 ∧ zfB b = (T, 0) ∧ zcj (zbp T) = (b, 0, 0))) := by
 obtain ⟨h1, h2, h3⟩ := zjQ s
 obtain ⟨b, p, e, hr⟩ : ∃ b p e, zcj s = (b, p, e) := ⟨_, _, _, rfl⟩
 rw [hr] at h1 h2 h3
 refine ⟨b, p, e, hr, h1, h2, ?_⟩
 rcases h3 with ⟨h3, h4⟩ | ⟨h3, h4⟩
 ·exact .inl ⟨h3, h4⟩
 ·cases h3
  refine .inr ⟨rfl, rfl, h4, ?_⟩
  by_cases hl : 2000 < (txt b 0).length
  ·exact .inl (by unfold zfB; rw [if_pos h4, if_pos hl])
  ·exact .inr ⟨txt b 0, by omega, by unfold zfB; rw [if_pos h4, if_neg hl], zpQ h4 hl⟩
theorem zg5 (x : Exp) : Fun Tryz.prog 15 [.u (.agg [.int .i64 x.op, .int .i64 x.n, .int .i64 x.unit, .str x.s, .sl (x.args.map Exp.row)]), .u (.agg [.int .i64 x.op, .int .i64 x.n, .int .i64 x.unit, .str x.s, .sl (x.args.map Exp.row)])] (· = .u (.bool true)) := by
 have h := zbQ x x
 rw [zfc, zex, Exp.row_eq] at h
 exact h
theorem zoU (s : W8) : Fun Tryz.prog 6 [.u (.str s)] (· = .u (.bool true)) := by
 have hs := znH
 by_cases hlong : 2100 < s.length
 ·have hlong2 : (2100 : Int) < s.length := by omega
  (refine Fun.of_bodyW Tryz.func6 rfl (by simp) fun Γ hn => ?_); simp only [entry, ziC, ziN, maC, maN, oA, Tryz.ntmps6]
  repeat' (first
  | ((first | refine zaf ?_ | refine zaj ?_ | refine zah ?_ | refine zai ?_ | fail); simp [hlong, hlong2])
  | (refine zas ?_; simp only [zap])
  | (refine CallP.fE (hs) (by first | rfl | fail) (by first | simp [hlong, hlong2] <;> rfl | fail) ?_; (try simp [hlong, hlong2]))
  | fail)
  refine EndW.here ?_
  (refine EndOK.val (.inr rfl) ?_; simp [zaM, zag, zau, Tryz.results6])
 have hlong2 : ¬ (2100 : Int) < s.length := by omega
 obtain ⟨b, pb, eb, hPb, hb0, hb1, hB⟩ := zq6 s
 obtain ⟨x, px, ex, hPx, hx0, hx1, hX⟩ := zpR s
 have hp := zfC s
 rw [hPb] at hp
 have xp := zbR s
 rw [hPx] at xp
 have hz : eb ≠ 0 → Fun Tryz.prog 14 [.u (.agg (zbf b)), .u (.agg [.int .i64 0, .int .i64 0, .int .i64 0, .int .i64 0, .int .i64 0, .int .i64 0, .bool false, .int .i64 0, .int .i64 0, .int .i64 0, .int .i64 0, .nil, .int .i64 0, .int .i64 0, .int .i64 0, .str [], .nil, .int .i64 0, .int .i64 0, .int .i64 0, .str [], .nil, .int .i64 0, .int .i64 0, .int .i64 0, .str [], .nil, .int .i64 0, .int .i64 0, .int .i64 0, .str [], .nil, .int .i64 0, .int .i64 0, .int .i64 0, .str [], .nil])] (· = .u (.bool true)) := fun h => by
  obtain rfl : b = zdV := by rcases hB with g | g; exact g.2; exact absurd g.1 h
  exact zse
 have xz : ¬ ex = 0 → Fun Tryz.prog 15 [.u (.agg [.int .i64 x.op, .int .i64 x.n, .int .i64 x.unit, .str x.s, .sl (x.args.map Exp.row)]), .u (.agg [.int .i64 0, .int .i64 0, .int .i64 0, .str [], .nil])] (· = .u (.bool true)) := fun h => by
  obtain rfl : x = zdg := by rcases hX with g | g; exact g.2; exact absurd g.1 h
  exact zrE
 simp only [byD, zbf, zgB] at hp xp hz
 have nb0 : ¬ pb < 0 := by omega
 have nb1 : ¬ (s.length : Int) < pb := by omega
 have nx0 : ¬ px < 0 := by omega
 have nx1 : ¬ (s.length : Int) < px := by omega
 clear hPb hPx
 rcases hB with ⟨hB1, hB2⟩ | ⟨hB1, hB2, hB3, hB4⟩
 ·have hz' := hz hB1
  rcases hX with ⟨hX1, hX2⟩ | ⟨hX1, hX2, hX3, hX4⟩
  ·have xz' := xz hX1
   (refine Fun.of_bodyW Tryz.func6 rfl (by simp) fun Γ hn => ?_); simp only [entry, ziC, ziN, maC, maN, oA, Tryz.ntmps6]
   repeat' (first
  | ((first | refine zaf ?_ | refine zaj ?_ | refine zah ?_ | refine zai ?_ | fail); simp [hlong, hlong2, nb0, nb1, nx0, nx1, hB1, hX1])
  | ((first | refine zas ?_ | refine zaq ?_ | fail); simp only [zap])
  | (refine CallP.fE (hs) (by first | rfl | fail) (by first | simp [hlong, hlong2, nb0, nb1, nx0, nx1, hB1, hX1] <;> rfl | fail) ?_; (try simp [hlong, hlong2, nb0, nb1, nx0, nx1, hB1, hX1]))
  | (refine CallP.fE (hp) (by first | rfl | fail) (by first | simp [hlong, hlong2, nb0, nb1, nx0, nx1, hB1, hX1] <;> rfl | fail) ?_; (try simp [hlong, hlong2, nb0, nb1, nx0, nx1, hB1, hX1]))
  | (refine CallP.fE (xp) (by first | rfl | fail) (by first | simp [hlong, hlong2, nb0, nb1, nx0, nx1, hB1, hX1] <;> rfl | fail) ?_; (try simp [hlong, hlong2, nb0, nb1, nx0, nx1, hB1, hX1]))
  | (refine CallP.fE (hz') (by first | rfl | fail) (by first | simp [hlong, hlong2, nb0, nb1, nx0, nx1, hB1, hX1] <;> rfl | fail) ?_; (try simp [hlong, hlong2, nb0, nb1, nx0, nx1, hB1, hX1]))
  | (refine CallP.fE (xz') (by first | rfl | fail) (by first | simp [hlong, hlong2, nb0, nb1, nx0, nx1, hB1, hX1] <;> rfl | fail) ?_; (try simp [hlong, hlong2, nb0, nb1, nx0, nx1, hB1, hX1]))
  | fail)
   refine EndW.here ?_
   (refine EndOK.val (.inr rfl) ?_; simp [zaM, zag, zau, Tryz.results6])
  ·have xri := zci x
   rw [hX3] at xri
   have xpr := zdW x
   rw [Exp.row_eq] at xpr
   simp only [zgB] at xri
   have xsm := zg5 x
   rcases hX4 with hX4 | ⟨U, hX4, hX5, hX6⟩
   ·rw [hX4] at xpr
    have xfd := zdZ [] (by decide)
    have xpa := zbR (zbp [])
    obtain ⟨x2, p2, e2⟩ := zcj (zbp [])
    simp only [zgB] at xpa
    (refine Fun.of_bodyW Tryz.func6 rfl (by simp) fun Γ hn => ?_); simp only [entry, ziC, ziN, maC, maN, oA, Tryz.ntmps6]
    repeat' (first
  | ((first | refine zaf ?_ | refine zaj ?_ | refine zah ?_ | refine zai ?_ | fail); simp [hlong, hlong2, nb0, nb1, nx0, nx1, hB1, hX1, hX2])
  | ((first | refine zas ?_ | refine zaq ?_ | fail); simp only [zap])
  | (refine ⟨?_, by omega⟩)
  | (refine CallP.fE (hs) (by first | rfl | fail) (by first | simp [hlong, hlong2, nb0, nb1, nx0, nx1, hB1, hX1, hX2] <;> rfl | fail) ?_; (try simp [hlong, hlong2, nb0, nb1, nx0, nx1, hB1, hX1, hX2]))
  | (refine CallP.fE (hp) (by first | rfl | fail) (by first | simp [hlong, hlong2, nb0, nb1, nx0, nx1, hB1, hX1, hX2] <;> rfl | fail) ?_; (try simp [hlong, hlong2, nb0, nb1, nx0, nx1, hB1, hX1, hX2]))
  | (refine CallP.fE (xp) (by first | rfl | fail) (by first | simp [hlong, hlong2, nb0, nb1, nx0, nx1, hB1, hX1, hX2] <;> rfl | fail) ?_; (try simp [hlong, hlong2, nb0, nb1, nx0, nx1, hB1, hX1, hX2]))
  | (refine CallP.fE (hz') (by first | rfl | fail) (by first | simp [hlong, hlong2, nb0, nb1, nx0, nx1, hB1, hX1, hX2] <;> rfl | fail) ?_; (try simp [hlong, hlong2, nb0, nb1, nx0, nx1, hB1, hX1, hX2]))
  | (refine CallP.fE (xri) (by first | rfl | fail) (by first | simp [hlong, hlong2, nb0, nb1, nx0, nx1, hB1, hX1, hX2] <;> rfl | fail) ?_; (try simp [hlong, hlong2, nb0, nb1, nx0, nx1, hB1, hX1, hX2]))
  | (refine CallP.fE (xpr) (by first | rfl | fail) (by first | simp [hlong, hlong2, nb0, nb1, nx0, nx1, hB1, hX1, hX2] <;> rfl | fail) ?_; (try simp [hlong, hlong2, nb0, nb1, nx0, nx1, hB1, hX1, hX2]))
  | (refine CallP.fE (xfd) (by first | rfl | fail) (by first | simp [hlong, hlong2, nb0, nb1, nx0, nx1, hB1, hX1, hX2] <;> rfl | fail) ?_; (try simp [hlong, hlong2, nb0, nb1, nx0, nx1, hB1, hX1, hX2]))
  | (refine CallP.fE (xpa) (by first | rfl | fail) (by first | simp [hlong, hlong2, nb0, nb1, nx0, nx1, hB1, hX1, hX2] <;> rfl | fail) ?_; (try simp [hlong, hlong2, nb0, nb1, nx0, nx1, hB1, hX1, hX2]))
  | fail)
    refine EndW.here ?_
    (refine EndOK.val (.inr rfl) ?_; simp [zaM, zag, zau, Tryz.results6])
   ·rw [hX5] at xpr
    have xfd := zdZ U (by omega)
    have xpa := zbR (zbp U)
    rw [hX6] at xpa
    generalize zbp U = U2 at xfd xpa
    simp only [zgB] at xpa
    (refine Fun.of_bodyW Tryz.func6 rfl (by simp) fun Γ hn => ?_); simp only [entry, ziC, ziN, maC, maN, oA, Tryz.ntmps6]
    repeat' (first
  | ((first | refine zaf ?_ | refine zaj ?_ | refine zah ?_ | refine zai ?_ | fail); simp [hlong, hlong2, nb0, nb1, nx0, nx1, hB1, hX1, hX2])
  | ((first | refine zas ?_ | refine zaq ?_ | fail); simp only [zap])
  | (refine ⟨?_, by omega⟩)
  | (refine CallP.fE (hs) (by first | rfl | fail) (by first | simp [hlong, hlong2, nb0, nb1, nx0, nx1, hB1, hX1, hX2] <;> rfl | fail) ?_; (try simp [hlong, hlong2, nb0, nb1, nx0, nx1, hB1, hX1, hX2]))
  | (refine CallP.fE (hp) (by first | rfl | fail) (by first | simp [hlong, hlong2, nb0, nb1, nx0, nx1, hB1, hX1, hX2] <;> rfl | fail) ?_; (try simp [hlong, hlong2, nb0, nb1, nx0, nx1, hB1, hX1, hX2]))
  | (refine CallP.fE (xp) (by first | rfl | fail) (by first | simp [hlong, hlong2, nb0, nb1, nx0, nx1, hB1, hX1, hX2] <;> rfl | fail) ?_; (try simp [hlong, hlong2, nb0, nb1, nx0, nx1, hB1, hX1, hX2]))
  | (refine CallP.fE (hz') (by first | rfl | fail) (by first | simp [hlong, hlong2, nb0, nb1, nx0, nx1, hB1, hX1, hX2] <;> rfl | fail) ?_; (try simp [hlong, hlong2, nb0, nb1, nx0, nx1, hB1, hX1, hX2]))
  | (refine CallP.fE (xri) (by first | rfl | fail) (by first | simp [hlong, hlong2, nb0, nb1, nx0, nx1, hB1, hX1, hX2] <;> rfl | fail) ?_; (try simp [hlong, hlong2, nb0, nb1, nx0, nx1, hB1, hX1, hX2]))
  | (refine CallP.fE (xpr) (by first | rfl | fail) (by first | simp [hlong, hlong2, nb0, nb1, nx0, nx1, hB1, hX1, hX2] <;> rfl | fail) ?_; (try simp [hlong, hlong2, nb0, nb1, nx0, nx1, hB1, hX1, hX2]))
  | (refine CallP.fE (xfd) (by first | rfl | fail) (by first | simp [hlong, hlong2, nb0, nb1, nx0, nx1, hB1, hX1, hX2] <;> rfl | fail) ?_; (try simp [hlong, hlong2, nb0, nb1, nx0, nx1, hB1, hX1, hX2]))
  | (refine CallP.fE (xpa) (by first | rfl | fail) (by first | simp [hlong, hlong2, nb0, nb1, nx0, nx1, hB1, hX1, hX2] <;> rfl | fail) ?_; (try simp [hlong, hlong2, nb0, nb1, nx0, nx1, hB1, hX1, hX2]))
  | (refine CallP.fE (xsm) (by first | rfl | fail) (by first | simp [hlong, hlong2, nb0, nb1, nx0, nx1, hB1, hX1, hX2] <;> rfl | fail) ?_; (try simp [hlong, hlong2, nb0, nb1, nx0, nx1, hB1, hX1, hX2]))
  | fail)
    refine EndW.here ?_
    (refine EndOK.val (.inr rfl) ?_; simp [zaM, zag, zau, Tryz.results6])
 ·have hri := zdI b
  rw [hB3] at hri
  have hpr := zjE b
  unfold zbf at hri hpr
  rcases hB4 with hB4 | ⟨T, hB4, hB5, hB6⟩
  ·rw [hB4] at hpr
   have hfd := zdZ [] (by decide)
   have hpa := zfC (zbp [])
   obtain ⟨b2, p3, e3⟩ := zcG (zbp [])
   simp only [byD, zbf] at hpa
   rcases hX with ⟨hX1, hX2⟩ | ⟨hX1, hX2, hX3, hX4⟩
   ·have xz' := xz hX1
    (refine Fun.of_bodyW Tryz.func6 rfl (by simp) fun Γ hn => ?_); simp only [entry, ziC, ziN, maC, maN, oA, Tryz.ntmps6]
    repeat' (first
  | ((first | refine zaf ?_ | refine zaj ?_ | refine zah ?_ | refine zai ?_ | fail); simp [hlong, hlong2, nb0, nb1, nx0, nx1, hB1, hB2, hX1])
  | ((first | refine zas ?_ | refine zaq ?_ | fail); simp only [zap])
  | (refine ⟨?_, by omega⟩)
  | (refine CallP.fE (hs) (by first | rfl | fail) (by first | simp [hlong, hlong2, nb0, nb1, nx0, nx1, hB1, hB2, hX1] <;> rfl | fail) ?_; (try simp [hlong, hlong2, nb0, nb1, nx0, nx1, hB1, hB2, hX1]))
  | (refine CallP.fE (hp) (by first | rfl | fail) (by first | simp [hlong, hlong2, nb0, nb1, nx0, nx1, hB1, hB2, hX1] <;> rfl | fail) ?_; (try simp [hlong, hlong2, nb0, nb1, nx0, nx1, hB1, hB2, hX1]))
  | (refine CallP.fE (xp) (by first | rfl | fail) (by first | simp [hlong, hlong2, nb0, nb1, nx0, nx1, hB1, hB2, hX1] <;> rfl | fail) ?_; (try simp [hlong, hlong2, nb0, nb1, nx0, nx1, hB1, hB2, hX1]))
  | (refine CallP.fE (hri) (by first | rfl | fail) (by first | simp [hlong, hlong2, nb0, nb1, nx0, nx1, hB1, hB2, hX1] <;> rfl | fail) ?_; (try simp [hlong, hlong2, nb0, nb1, nx0, nx1, hB1, hB2, hX1]))
  | (refine CallP.fE (hpr) (by first | rfl | fail) (by first | simp [hlong, hlong2, nb0, nb1, nx0, nx1, hB1, hB2, hX1] <;> rfl | fail) ?_; (try simp [hlong, hlong2, nb0, nb1, nx0, nx1, hB1, hB2, hX1]))
  | (refine CallP.fE (hfd) (by first | rfl | fail) (by first | simp [hlong, hlong2, nb0, nb1, nx0, nx1, hB1, hB2, hX1] <;> rfl | fail) ?_; (try simp [hlong, hlong2, nb0, nb1, nx0, nx1, hB1, hB2, hX1]))
  | (refine CallP.fE (hpa) (by first | rfl | fail) (by first | simp [hlong, hlong2, nb0, nb1, nx0, nx1, hB1, hB2, hX1] <;> rfl | fail) ?_; (try simp [hlong, hlong2, nb0, nb1, nx0, nx1, hB1, hB2, hX1]))
  | (refine CallP.fE (xz') (by first | rfl | fail) (by first | simp [hlong, hlong2, nb0, nb1, nx0, nx1, hB1, hB2, hX1] <;> rfl | fail) ?_; (try simp [hlong, hlong2, nb0, nb1, nx0, nx1, hB1, hB2, hX1]))
  | fail)
    refine EndW.here ?_
    (refine EndOK.val (.inr rfl) ?_; simp [zaM, zag, zau, Tryz.results6])
   ·have xri := zci x
    rw [hX3] at xri
    have xpr := zdW x
    rw [Exp.row_eq] at xpr
    simp only [zgB] at xri
    have xsm := zg5 x
    rcases hX4 with hX4 | ⟨U, hX4, hX5, hX6⟩
    ·rw [hX4] at xpr
     have xfd := zdZ [] (by decide)
     have xpa := zbR (zbp [])
     obtain ⟨x2, p2, e2⟩ := zcj (zbp [])
     simp only [zgB] at xpa
     (refine Fun.of_bodyW Tryz.func6 rfl (by simp) fun Γ hn => ?_); simp only [entry, ziC, ziN, maC, maN, oA, Tryz.ntmps6]
     repeat' (first
  | ((first | refine zaf ?_ | refine zaj ?_ | refine zah ?_ | refine zai ?_ | fail); simp [hlong, hlong2, nb0, nb1, nx0, nx1, hB1, hB2, hX1, hX2])
  | ((first | refine zas ?_ | refine zaq ?_ | fail); simp only [zap])
  | (refine ⟨?_, by omega⟩)
  | (refine CallP.fE (hs) (by first | rfl | fail) (by first | simp [hlong, hlong2, nb0, nb1, nx0, nx1, hB1, hB2, hX1, hX2] <;> rfl | fail) ?_; (try simp [hlong, hlong2, nb0, nb1, nx0, nx1, hB1, hB2, hX1, hX2]))
  | (refine CallP.fE (hp) (by first | rfl | fail) (by first | simp [hlong, hlong2, nb0, nb1, nx0, nx1, hB1, hB2, hX1, hX2] <;> rfl | fail) ?_; (try simp [hlong, hlong2, nb0, nb1, nx0, nx1, hB1, hB2, hX1, hX2]))
  | (refine CallP.fE (xp) (by first | rfl | fail) (by first | simp [hlong, hlong2, nb0, nb1, nx0, nx1, hB1, hB2, hX1, hX2] <;> rfl | fail) ?_; (try simp [hlong, hlong2, nb0, nb1, nx0, nx1, hB1, hB2, hX1, hX2]))
  | (refine CallP.fE (hri) (by first | rfl | fail) (by first | simp [hlong, hlong2, nb0, nb1, nx0, nx1, hB1, hB2, hX1, hX2] <;> rfl | fail) ?_; (try simp [hlong, hlong2, nb0, nb1, nx0, nx1, hB1, hB2, hX1, hX2]))
  | (refine CallP.fE (hpr) (by first | rfl | fail) (by first | simp [hlong, hlong2, nb0, nb1, nx0, nx1, hB1, hB2, hX1, hX2] <;> rfl | fail) ?_; (try simp [hlong, hlong2, nb0, nb1, nx0, nx1, hB1, hB2, hX1, hX2]))
  | (refine CallP.fE (hfd) (by first | rfl | fail) (by first | simp [hlong, hlong2, nb0, nb1, nx0, nx1, hB1, hB2, hX1, hX2] <;> rfl | fail) ?_; (try simp [hlong, hlong2, nb0, nb1, nx0, nx1, hB1, hB2, hX1, hX2]))
  | (refine CallP.fE (hpa) (by first | rfl | fail) (by first | simp [hlong, hlong2, nb0, nb1, nx0, nx1, hB1, hB2, hX1, hX2] <;> rfl | fail) ?_; (try simp [hlong, hlong2, nb0, nb1, nx0, nx1, hB1, hB2, hX1, hX2]))
  | (refine CallP.fE (xri) (by first | rfl | fail) (by first | simp [hlong, hlong2, nb0, nb1, nx0, nx1, hB1, hB2, hX1, hX2] <;> rfl | fail) ?_; (try simp [hlong, hlong2, nb0, nb1, nx0, nx1, hB1, hB2, hX1, hX2]))
  | (refine CallP.fE (xpr) (by first | rfl | fail) (by first | simp [hlong, hlong2, nb0, nb1, nx0, nx1, hB1, hB2, hX1, hX2] <;> rfl | fail) ?_; (try simp [hlong, hlong2, nb0, nb1, nx0, nx1, hB1, hB2, hX1, hX2]))
  | (refine CallP.fE (xpa) (by first | rfl | fail) (by first | simp [hlong, hlong2, nb0, nb1, nx0, nx1, hB1, hB2, hX1, hX2] <;> rfl | fail) ?_; (try simp [hlong, hlong2, nb0, nb1, nx0, nx1, hB1, hB2, hX1, hX2]))
  | fail)
     refine EndW.here ?_
     (refine EndOK.val (.inr rfl) ?_; simp [zaM, zag, zau, Tryz.results6])
    ·rw [hX5] at xpr
     have xfd := zdZ U (by omega)
     have xpa := zbR (zbp U)
     rw [hX6] at xpa
     generalize zbp U = U2 at xfd xpa
     simp only [zgB] at xpa
     (refine Fun.of_bodyW Tryz.func6 rfl (by simp) fun Γ hn => ?_); simp only [entry, ziC, ziN, maC, maN, oA, Tryz.ntmps6]
     repeat' (first
  | ((first | refine zaf ?_ | refine zaj ?_ | refine zah ?_ | refine zai ?_ | fail); simp [hlong, hlong2, nb0, nb1, nx0, nx1, hB1, hB2, hX1, hX2])
  | ((first | refine zas ?_ | refine zaq ?_ | fail); simp only [zap])
  | (refine ⟨?_, by omega⟩)
  | (refine CallP.fE (hs) (by first | rfl | fail) (by first | simp [hlong, hlong2, nb0, nb1, nx0, nx1, hB1, hB2, hX1, hX2] <;> rfl | fail) ?_; (try simp [hlong, hlong2, nb0, nb1, nx0, nx1, hB1, hB2, hX1, hX2]))
  | (refine CallP.fE (hp) (by first | rfl | fail) (by first | simp [hlong, hlong2, nb0, nb1, nx0, nx1, hB1, hB2, hX1, hX2] <;> rfl | fail) ?_; (try simp [hlong, hlong2, nb0, nb1, nx0, nx1, hB1, hB2, hX1, hX2]))
  | (refine CallP.fE (xp) (by first | rfl | fail) (by first | simp [hlong, hlong2, nb0, nb1, nx0, nx1, hB1, hB2, hX1, hX2] <;> rfl | fail) ?_; (try simp [hlong, hlong2, nb0, nb1, nx0, nx1, hB1, hB2, hX1, hX2]))
  | (refine CallP.fE (hri) (by first | rfl | fail) (by first | simp [hlong, hlong2, nb0, nb1, nx0, nx1, hB1, hB2, hX1, hX2] <;> rfl | fail) ?_; (try simp [hlong, hlong2, nb0, nb1, nx0, nx1, hB1, hB2, hX1, hX2]))
  | (refine CallP.fE (hpr) (by first | rfl | fail) (by first | simp [hlong, hlong2, nb0, nb1, nx0, nx1, hB1, hB2, hX1, hX2] <;> rfl | fail) ?_; (try simp [hlong, hlong2, nb0, nb1, nx0, nx1, hB1, hB2, hX1, hX2]))
  | (refine CallP.fE (hfd) (by first | rfl | fail) (by first | simp [hlong, hlong2, nb0, nb1, nx0, nx1, hB1, hB2, hX1, hX2] <;> rfl | fail) ?_; (try simp [hlong, hlong2, nb0, nb1, nx0, nx1, hB1, hB2, hX1, hX2]))
  | (refine CallP.fE (hpa) (by first | rfl | fail) (by first | simp [hlong, hlong2, nb0, nb1, nx0, nx1, hB1, hB2, hX1, hX2] <;> rfl | fail) ?_; (try simp [hlong, hlong2, nb0, nb1, nx0, nx1, hB1, hB2, hX1, hX2]))
  | (refine CallP.fE (xri) (by first | rfl | fail) (by first | simp [hlong, hlong2, nb0, nb1, nx0, nx1, hB1, hB2, hX1, hX2] <;> rfl | fail) ?_; (try simp [hlong, hlong2, nb0, nb1, nx0, nx1, hB1, hB2, hX1, hX2]))
  | (refine CallP.fE (xpr) (by first | rfl | fail) (by first | simp [hlong, hlong2, nb0, nb1, nx0, nx1, hB1, hB2, hX1, hX2] <;> rfl | fail) ?_; (try simp [hlong, hlong2, nb0, nb1, nx0, nx1, hB1, hB2, hX1, hX2]))
  | (refine CallP.fE (xfd) (by first | rfl | fail) (by first | simp [hlong, hlong2, nb0, nb1, nx0, nx1, hB1, hB2, hX1, hX2] <;> rfl | fail) ?_; (try simp [hlong, hlong2, nb0, nb1, nx0, nx1, hB1, hB2, hX1, hX2]))
  | (refine CallP.fE (xpa) (by first | rfl | fail) (by first | simp [hlong, hlong2, nb0, nb1, nx0, nx1, hB1, hB2, hX1, hX2] <;> rfl | fail) ?_; (try simp [hlong, hlong2, nb0, nb1, nx0, nx1, hB1, hB2, hX1, hX2]))
  | (refine CallP.fE (xsm) (by first | rfl | fail) (by first | simp [hlong, hlong2, nb0, nb1, nx0, nx1, hB1, hB2, hX1, hX2] <;> rfl | fail) ?_; (try simp [hlong, hlong2, nb0, nb1, nx0, nx1, hB1, hB2, hX1, hX2]))
  | fail)
     refine EndW.here ?_
     (refine EndOK.val (.inr rfl) ?_; simp [zaM, zag, zau, Tryz.results6])
  ·rw [hB5] at hpr
   have hfd := zdZ T (by omega)
   have hpa := zfC (zbp T)
   rw [hB6] at hpa
   generalize zbp T = T2 at hfd hpa
   have hsm := zhV b
   simp only [byD, zbf] at hpa hsm
   rcases hX with ⟨hX1, hX2⟩ | ⟨hX1, hX2, hX3, hX4⟩
   ·have xz' := xz hX1
    (refine Fun.of_bodyW Tryz.func6 rfl (by simp) fun Γ hn => ?_); simp only [entry, ziC, ziN, maC, maN, oA, Tryz.ntmps6]
    repeat' (first
  | ((first | refine zaf ?_ | refine zaj ?_ | refine zah ?_ | refine zai ?_ | fail); simp [hlong, hlong2, nb0, nb1, nx0, nx1, hB1, hB2, hX1])
  | ((first | refine zas ?_ | refine zaq ?_ | fail); simp only [zap])
  | (refine ⟨?_, by omega⟩)
  | (refine CallP.fE (hs) (by first | rfl | fail) (by first | simp [hlong, hlong2, nb0, nb1, nx0, nx1, hB1, hB2, hX1] <;> rfl | fail) ?_; (try simp [hlong, hlong2, nb0, nb1, nx0, nx1, hB1, hB2, hX1]))
  | (refine CallP.fE (hp) (by first | rfl | fail) (by first | simp [hlong, hlong2, nb0, nb1, nx0, nx1, hB1, hB2, hX1] <;> rfl | fail) ?_; (try simp [hlong, hlong2, nb0, nb1, nx0, nx1, hB1, hB2, hX1]))
  | (refine CallP.fE (xp) (by first | rfl | fail) (by first | simp [hlong, hlong2, nb0, nb1, nx0, nx1, hB1, hB2, hX1] <;> rfl | fail) ?_; (try simp [hlong, hlong2, nb0, nb1, nx0, nx1, hB1, hB2, hX1]))
  | (refine CallP.fE (hri) (by first | rfl | fail) (by first | simp [hlong, hlong2, nb0, nb1, nx0, nx1, hB1, hB2, hX1] <;> rfl | fail) ?_; (try simp [hlong, hlong2, nb0, nb1, nx0, nx1, hB1, hB2, hX1]))
  | (refine CallP.fE (hpr) (by first | rfl | fail) (by first | simp [hlong, hlong2, nb0, nb1, nx0, nx1, hB1, hB2, hX1] <;> rfl | fail) ?_; (try simp [hlong, hlong2, nb0, nb1, nx0, nx1, hB1, hB2, hX1]))
  | (refine CallP.fE (hfd) (by first | rfl | fail) (by first | simp [hlong, hlong2, nb0, nb1, nx0, nx1, hB1, hB2, hX1] <;> rfl | fail) ?_; (try simp [hlong, hlong2, nb0, nb1, nx0, nx1, hB1, hB2, hX1]))
  | (refine CallP.fE (hpa) (by first | rfl | fail) (by first | simp [hlong, hlong2, nb0, nb1, nx0, nx1, hB1, hB2, hX1] <;> rfl | fail) ?_; (try simp [hlong, hlong2, nb0, nb1, nx0, nx1, hB1, hB2, hX1]))
  | (refine CallP.fE (hsm) (by first | rfl | fail) (by first | simp [hlong, hlong2, nb0, nb1, nx0, nx1, hB1, hB2, hX1] <;> rfl | fail) ?_; (try simp [hlong, hlong2, nb0, nb1, nx0, nx1, hB1, hB2, hX1]))
  | (refine CallP.fE (xz') (by first | rfl | fail) (by first | simp [hlong, hlong2, nb0, nb1, nx0, nx1, hB1, hB2, hX1] <;> rfl | fail) ?_; (try simp [hlong, hlong2, nb0, nb1, nx0, nx1, hB1, hB2, hX1]))
  | fail)
    refine EndW.here ?_
    (refine EndOK.val (.inr rfl) ?_; simp [zaM, zag, zau, Tryz.results6])
   ·have xri := zci x
    rw [hX3] at xri
    have xpr := zdW x
    rw [Exp.row_eq] at xpr
    simp only [zgB] at xri
    have xsm := zg5 x
    rcases hX4 with hX4 | ⟨U, hX4, hX5, hX6⟩
    ·rw [hX4] at xpr
     have xfd := zdZ [] (by decide)
     have xpa := zbR (zbp [])
     obtain ⟨x2, p2, e2⟩ := zcj (zbp [])
     simp only [zgB] at xpa
     (refine Fun.of_bodyW Tryz.func6 rfl (by simp) fun Γ hn => ?_); simp only [entry, ziC, ziN, maC, maN, oA, Tryz.ntmps6]
     repeat' (first
  | ((first | refine zaf ?_ | refine zaj ?_ | refine zah ?_ | refine zai ?_ | fail); simp [hlong, hlong2, nb0, nb1, nx0, nx1, hB1, hB2, hX1, hX2])
  | ((first | refine zas ?_ | refine zaq ?_ | fail); simp only [zap])
  | (refine ⟨?_, by omega⟩)
  | (refine CallP.fE (hs) (by first | rfl | fail) (by first | simp [hlong, hlong2, nb0, nb1, nx0, nx1, hB1, hB2, hX1, hX2] <;> rfl | fail) ?_; (try simp [hlong, hlong2, nb0, nb1, nx0, nx1, hB1, hB2, hX1, hX2]))
  | (refine CallP.fE (hp) (by first | rfl | fail) (by first | simp [hlong, hlong2, nb0, nb1, nx0, nx1, hB1, hB2, hX1, hX2] <;> rfl | fail) ?_; (try simp [hlong, hlong2, nb0, nb1, nx0, nx1, hB1, hB2, hX1, hX2]))
  | (refine CallP.fE (xp) (by first | rfl | fail) (by first | simp [hlong, hlong2, nb0, nb1, nx0, nx1, hB1, hB2, hX1, hX2] <;> rfl | fail) ?_; (try simp [hlong, hlong2, nb0, nb1, nx0, nx1, hB1, hB2, hX1, hX2]))
  | (refine CallP.fE (hri) (by first | rfl | fail) (by first | simp [hlong, hlong2, nb0, nb1, nx0, nx1, hB1, hB2, hX1, hX2] <;> rfl | fail) ?_; (try simp [hlong, hlong2, nb0, nb1, nx0, nx1, hB1, hB2, hX1, hX2]))
  | (refine CallP.fE (hpr) (by first | rfl | fail) (by first | simp [hlong, hlong2, nb0, nb1, nx0, nx1, hB1, hB2, hX1, hX2] <;> rfl | fail) ?_; (try simp [hlong, hlong2, nb0, nb1, nx0, nx1, hB1, hB2, hX1, hX2]))
  | (refine CallP.fE (hfd) (by first | rfl | fail) (by first | simp [hlong, hlong2, nb0, nb1, nx0, nx1, hB1, hB2, hX1, hX2] <;> rfl | fail) ?_; (try simp [hlong, hlong2, nb0, nb1, nx0, nx1, hB1, hB2, hX1, hX2]))
  | (refine CallP.fE (hpa) (by first | rfl | fail) (by first | simp [hlong, hlong2, nb0, nb1, nx0, nx1, hB1, hB2, hX1, hX2] <;> rfl | fail) ?_; (try simp [hlong, hlong2, nb0, nb1, nx0, nx1, hB1, hB2, hX1, hX2]))
  | (refine CallP.fE (hsm) (by first | rfl | fail) (by first | simp [hlong, hlong2, nb0, nb1, nx0, nx1, hB1, hB2, hX1, hX2] <;> rfl | fail) ?_; (try simp [hlong, hlong2, nb0, nb1, nx0, nx1, hB1, hB2, hX1, hX2]))
  | (refine CallP.fE (xri) (by first | rfl | fail) (by first | simp [hlong, hlong2, nb0, nb1, nx0, nx1, hB1, hB2, hX1, hX2] <;> rfl | fail) ?_; (try simp [hlong, hlong2, nb0, nb1, nx0, nx1, hB1, hB2, hX1, hX2]))
  | (refine CallP.fE (xpr) (by first | rfl | fail) (by first | simp [hlong, hlong2, nb0, nb1, nx0, nx1, hB1, hB2, hX1, hX2] <;> rfl | fail) ?_; (try simp [hlong, hlong2, nb0, nb1, nx0, nx1, hB1, hB2, hX1, hX2]))
  | (refine CallP.fE (xfd) (by first | rfl | fail) (by first | simp [hlong, hlong2, nb0, nb1, nx0, nx1, hB1, hB2, hX1, hX2] <;> rfl | fail) ?_; (try simp [hlong, hlong2, nb0, nb1, nx0, nx1, hB1, hB2, hX1, hX2]))
  | (refine CallP.fE (xpa) (by first | rfl | fail) (by first | simp [hlong, hlong2, nb0, nb1, nx0, nx1, hB1, hB2, hX1, hX2] <;> rfl | fail) ?_; (try simp [hlong, hlong2, nb0, nb1, nx0, nx1, hB1, hB2, hX1, hX2]))
  | fail)
     refine EndW.here ?_
     (refine EndOK.val (.inr rfl) ?_; simp [zaM, zag, zau, Tryz.results6])
    ·rw [hX5] at xpr
     have xfd := zdZ U (by omega)
     have xpa := zbR (zbp U)
     rw [hX6] at xpa
     generalize zbp U = U2 at xfd xpa
     simp only [zgB] at xpa
     (refine Fun.of_bodyW Tryz.func6 rfl (by simp) fun Γ hn => ?_); simp only [entry, ziC, ziN, maC, maN, oA, Tryz.ntmps6]
     repeat' (first
  | ((first | refine zaf ?_ | refine zaj ?_ | refine zah ?_ | refine zai ?_ | fail); simp [hlong, hlong2, nb0, nb1, nx0, nx1, hB1, hB2, hX1, hX2])
  | ((first | refine zas ?_ | refine zaq ?_ | fail); simp only [zap])
  | (refine ⟨?_, by omega⟩)
  | (refine CallP.fE (hs) (by first | rfl | fail) (by first | simp [hlong, hlong2, nb0, nb1, nx0, nx1, hB1, hB2, hX1, hX2] <;> rfl | fail) ?_; (try simp [hlong, hlong2, nb0, nb1, nx0, nx1, hB1, hB2, hX1, hX2]))
  | (refine CallP.fE (hp) (by first | rfl | fail) (by first | simp [hlong, hlong2, nb0, nb1, nx0, nx1, hB1, hB2, hX1, hX2] <;> rfl | fail) ?_; (try simp [hlong, hlong2, nb0, nb1, nx0, nx1, hB1, hB2, hX1, hX2]))
  | (refine CallP.fE (xp) (by first | rfl | fail) (by first | simp [hlong, hlong2, nb0, nb1, nx0, nx1, hB1, hB2, hX1, hX2] <;> rfl | fail) ?_; (try simp [hlong, hlong2, nb0, nb1, nx0, nx1, hB1, hB2, hX1, hX2]))
  | (refine CallP.fE (hri) (by first | rfl | fail) (by first | simp [hlong, hlong2, nb0, nb1, nx0, nx1, hB1, hB2, hX1, hX2] <;> rfl | fail) ?_; (try simp [hlong, hlong2, nb0, nb1, nx0, nx1, hB1, hB2, hX1, hX2]))
  | (refine CallP.fE (hpr) (by first | rfl | fail) (by first | simp [hlong, hlong2, nb0, nb1, nx0, nx1, hB1, hB2, hX1, hX2] <;> rfl | fail) ?_; (try simp [hlong, hlong2, nb0, nb1, nx0, nx1, hB1, hB2, hX1, hX2]))
  | (refine CallP.fE (hfd) (by first | rfl | fail) (by first | simp [hlong, hlong2, nb0, nb1, nx0, nx1, hB1, hB2, hX1, hX2] <;> rfl | fail) ?_; (try simp [hlong, hlong2, nb0, nb1, nx0, nx1, hB1, hB2, hX1, hX2]))
  | (refine CallP.fE (hpa) (by first | rfl | fail) (by first | simp [hlong, hlong2, nb0, nb1, nx0, nx1, hB1, hB2, hX1, hX2] <;> rfl | fail) ?_; (try simp [hlong, hlong2, nb0, nb1, nx0, nx1, hB1, hB2, hX1, hX2]))
  | (refine CallP.fE (hsm) (by first | rfl | fail) (by first | simp [hlong, hlong2, nb0, nb1, nx0, nx1, hB1, hB2, hX1, hX2] <;> rfl | fail) ?_; (try simp [hlong, hlong2, nb0, nb1, nx0, nx1, hB1, hB2, hX1, hX2]))
  | (refine CallP.fE (xri) (by first | rfl | fail) (by first | simp [hlong, hlong2, nb0, nb1, nx0, nx1, hB1, hB2, hX1, hX2] <;> rfl | fail) ?_; (try simp [hlong, hlong2, nb0, nb1, nx0, nx1, hB1, hB2, hX1, hX2]))
  | (refine CallP.fE (xpr) (by first | rfl | fail) (by first | simp [hlong, hlong2, nb0, nb1, nx0, nx1, hB1, hB2, hX1, hX2] <;> rfl | fail) ?_; (try simp [hlong, hlong2, nb0, nb1, nx0, nx1, hB1, hB2, hX1, hX2]))
  | (refine CallP.fE (xfd) (by first | rfl | fail) (by first | simp [hlong, hlong2, nb0, nb1, nx0, nx1, hB1, hB2, hX1, hX2] <;> rfl | fail) ?_; (try simp [hlong, hlong2, nb0, nb1, nx0, nx1, hB1, hB2, hX1, hX2]))
  | (refine CallP.fE (xpa) (by first | rfl | fail) (by first | simp [hlong, hlong2, nb0, nb1, nx0, nx1, hB1, hB2, hX1, hX2] <;> rfl | fail) ?_; (try simp [hlong, hlong2, nb0, nb1, nx0, nx1, hB1, hB2, hX1, hX2]))
  | (refine CallP.fE (xsm) (by first | rfl | fail) (by first | simp [hlong, hlong2, nb0, nb1, nx0, nx1, hB1, hB2, hX1, hX2] <;> rfl | fail) ?_; (try simp [hlong, hlong2, nb0, nb1, nx0, nx1, hB1, hB2, hX1, hX2]))
  | fail)
     refine EndW.here ?_
     (refine EndOK.val (.inr rfl) ?_; simp [zaM, zag, zau, Tryz.results6])
end Go.Proofs.YthnemhfamhnfjaaGreatDoor
namespace Go.Proofs.YthnemhfamhnfjaaGreatDoor
open Go Go.VL Go.ChangeShapes Go.WideShapes Go.ChangeAt Go.RowKit
theorem zkv (os : Os) (started : os.Started) (H : Type) (enc : TypeId × Value → H) :
  ReturnsInHanded {} Tryz.checked os 6 .any (fun w args => (Rows.syntaxCanonicalSpec.pre enc Tryz.prog Tryz.f6 [] false w args ∧ laidMetH Tryz.prog zor w) ∧ sizedMet enc Tryz.prog Tryz.f6 (OpenSpec.ofChange Rows.syntaxCanonicalSpec) false w args)
   (Rows.syntaxCanonicalSpec.post enc Tryz.prog Tryz.f6 false true false false) := by
 refine zpK (C := Tryz.checked) (laid := zor) (tb := 4) Tryz.own started (by kernel_rfl) Tryz.func6
  (ChangeSpec.witness_shaped (enc := enc) (C := Tryz.checked) (os := os) (X := fun w _ => laidMetH Tryz.prog zor w) false (World.doorLaid Tryz.prog 400 os) #[.string ⟨#[]⟩] 8 rfl (World.shaped_of_RefB (by kernel_rfl) (by kernel_rfl)) (by kernel_rfl) (by kernel_rfl) (by kernel_rfl) (zpW os _))
  Tryz.zrf Tryz.zt2 (by kernel_rfl) rfl (fun ds h => ?_) (by kernel_rfl) (by kernel_rfl) (fun us h => ?_) zoD
 ·match ds, h with
  | [_], _ => rfl
 ·match us, h with
  | [a0], h =>
   obtain ⟨h0, _⟩ := h
   obtain ⟨x0, rfl⟩ := zrC h0
   exact zoU x0
theorem canon_row : Rows.SyntaxCanonicalSaid :=
 OpenClaim.holds_of_wide 6 Tryz.f6 rfl rfl rfl rfl rfl rfl rfl ⟨rfl, rfl, rfl, rfl, rfl⟩ rfl rfl rfl rfl rfl (by kernel_rfl) Tryz.func6 (by kernel_rfl)
  (of_decide_eq_true (by kernel_rfl)) (by unfold Func.isWrapper; first | (rw [if_pos (by decide +kernel)]; kernel_rfl) | (rw [if_neg (by decide +kernel)]; exact ⟨rfl, rfl⟩))
  (fun os started H enc _ => zkv os started H enc)
theorem canon_holds : Rows.SyntaxCanonicalCardSaid :=
 Claim7.holds_tied_plain_at .later [] [.data, .data, .data, .data] true (true, "c04b2ee704424c70beb65cd5ce32dac8ef7fe7043d4747e1bb58507771a90867") true
  canon_row (fun _ h => by cases h) (by kernel_rfl) (fun _ h => by cases h) syntaxCanonical_row_tie rfl ⟨rfl, rfl⟩ (by kernel_rfl) rfl
  (fun f fn hf hfn => by
    obtain rfl : f = 6 := Option.some.inj ((show Tryz.prog.funcNamed "stokvel/stokvellaw15.SyntaxCanonical" = some 6 by kernel_rfl).symm.trans hf) |>.symm
    obtain rfl : fn = Tryz.f6 := (Option.some.inj (Tryz.func6.symm.trans hfn)).symm
    exact ⟨by kernel_rfl, fun j t ht => by
     have hm : t ∈ Tryz.f6.params.toList := by simpa using Array.mem_of_getElem? ht
     have hall : (Tryz.f6.params.toList.all fun u => !Tryz.prog.wantsStandIn u) = true := by kernel_rfl
     exact (show Tryz.prog.wantsStandIn t = false by simpa using List.all_eq_true.1 hall t hm)⟩)
  (by kernel_rfl)
end Go.Proofs.YthnemhfamhnfjaaGreatDoor
