/- Texts joined by a program of mine: Zl Ze Zo Zy. -/
import Derived.Test.YthnemhfamhnfjaaGreatDoorK6
set_option linter.all false
set_option maxRecDepth 100000
set_option maxHeartbeats 8000000
namespace Go.Proofs.YthnemhfamhnfjaaGreatDoor
open Go Go.VL
attribute [local simp] HS zde zb7 evPure opd uOf zaF St.put St.at getK binD binI binS binB nilD aggD zhn ziD lookD lookR zcB Go.VL.nextD zcF ziQ ziP zgW zcz mkV zdB zbq zbB mapEff zev zgg Key.kk shiftI arith unD convD zeg loadD cellsAt fieldAddrD fieldD indexAddrD indexD sliceD cutD lenD minmaxD nilCheckD buildD fillD zbU zdn ze5 setAll zcU zff zcx zhN zct St.add zaR zbR rowsOf zd0 zcJ zak zac zaa za9 zcI zaP entry zbO zbY valD zb8 zcA zhf zdz zdA zb1 zbQ zax zaW zbu delAll effD St.effS zdj zbl za5 zdk zbm za7 zcl za6 zaV zcm zdh zbJ zci zbt zcg zch zaK mkD zbL zbC zbP zax zcv D.ids Op.operands Call.operands zbI makeIfD makeFuncD typeAssertD ziB zdR zdS zhX zcD IntKind.bits zcV List.take_of_length_le List.range_succ
attribute [local irreducible] V G H HD HD2 HD4 zmC RetX zao Eff CallP CallV EndOK Fun Ret FinOK LoopI LoopW EndW
set_option maxHeartbeats 40000000 in
theorem zmW (b : By) (hb : zey b = true) : RetX Tryz.prog 19 [.u (.agg (zbz b))] [] 0 (fun r o n => r = .val (.tup [.u (.str (printB b).1), .u (.int .i64 (printB b).2)])) := by
 have hri := zee b
 rw [hb] at hri
 have hh := hb
 simp only [zey, zpS, zpW, Bool.and_eq_true, decide_eq_true_eq] at hh
 obtain ⟨⟨⟨⟨⟨⟨⟨⟨i1, i2⟩, i3⟩, i4⟩, i5⟩, hsl⟩, hLn⟩, hLb⟩, ⟨⟨⟨hrdue, hrfine⟩, hrpay⟩, hrcover⟩, hrhold⟩ := hh
 have hLs := zjE [] b.lets hLb
 simp only [inB, List.any_cons, List.any_nil, Bool.or_false, Bool.not_eq_true', Bool.or_eq_false_iff, decide_eq_false_iff_not, Int.not_lt] at i1 i2 i3 i4 i5
 have hca : zan Tryz.prog 62 = true := by kernel_rfl
 have hprB : printB b = if 2000 < (textP b).length then ([], 6) else (textP b, 0) := by unfold printB; rw [if_pos hb]
 rw [hprB]
 generalize hT : textP b = TT
 obtain ⟨T0, e0⟩ : ∃ T0, T0 = zkF b := ⟨_, rfl⟩
 have m0 : T0.length ≤ 100 := by
  rw [e0, zkF, zb0]
  split
  ·decide
  ·split
   ·decide
   ·split <;> decide
 have hok : True := trivial
 clear hLb
 unfold zbz at hri ⊢
 obtain ⟨CL, hCL⟩ : ∃ CL : List D, CL = [.u (.int .i64 b.kind), .u (.int .i64 b.period), .u (.int .i64 b.grace), .u (.int .i64 b.wait), .u (.int .i64 b.last), .u (.int .i64 b.order), .u (.bool b.sld), .u (.int .i64 b.backs), .u (.int .i64 b.voices), .u (.int .i64 b.jury), .u (.int .i64 b.fund), .u (.sl (b.lets.map fun l => [.str l.name, .int .i64 l.body.op, .int .i64 l.body.n, .int .i64 l.body.unit, .str l.body.s, .sl (l.body.args.map Exp.row)])), .u (.int .i64 b.due.op), .u (.int .i64 b.due.n), .u (.int .i64 b.due.unit), .u (.str b.due.s), .u (.sl (b.due.args.map Exp.row)), .u (.int .i64 b.fine.op), .u (.int .i64 b.fine.n), .u (.int .i64 b.fine.unit), .u (.str b.fine.s), .u (.sl (b.fine.args.map Exp.row)), .u (.int .i64 b.pay.op), .u (.int .i64 b.pay.n), .u (.int .i64 b.pay.unit), .u (.str b.pay.s), .u (.sl (b.pay.args.map Exp.row)), .u (.int .i64 b.cover.op), .u (.int .i64 b.cover.n), .u (.int .i64 b.cover.unit), .u (.str b.cover.s), .u (.sl (b.cover.args.map Exp.row)), .u (.int .i64 b.hold.op), .u (.int .i64 b.hold.n), .u (.int .i64 b.hold.unit), .u (.str b.hold.s), .u (.sl (b.hold.args.map Exp.row))] := ⟨_, rfl⟩
 (refine RetX.of_bodyW Tryz.func19 rfl (by simp) fun Γ hn hpan => ?_); simp only [entry, ziC, ziN, maC, maN, oA, Tryz.ntmps19]
 apply zkO (S := { n := 118, env := [(1, .ptr 0 0), (4, .ptr 1 0), (5, .ptr 2 0), (6, .fnc (.func 55) [.ptr 2 0]), (7, .fnc (.func 57) [.ptr 2 0])], obs := [(0, .box [.u (.int .i64 b.kind), .u (.int .i64 b.period), .u (.int .i64 b.grace), .u (.int .i64 b.wait), .u (.int .i64 b.last), .u (.int .i64 b.order), .u (.bool b.sld), .u (.int .i64 b.backs), .u (.int .i64 b.voices), .u (.int .i64 b.jury), .u (.int .i64 b.fund), .u (.sl (b.lets.map fun l => [.str l.name, .int .i64 l.body.op, .int .i64 l.body.n, .int .i64 l.body.unit, .str l.body.s, .sl (l.body.args.map Exp.row)])), .u (.int .i64 b.due.op), .u (.int .i64 b.due.n), .u (.int .i64 b.due.unit), .u (.str b.due.s), .u (.sl (b.due.args.map Exp.row)), .u (.int .i64 b.fine.op), .u (.int .i64 b.fine.n), .u (.int .i64 b.fine.unit), .u (.str b.fine.s), .u (.sl (b.fine.args.map Exp.row)), .u (.int .i64 b.pay.op), .u (.int .i64 b.pay.n), .u (.int .i64 b.pay.unit), .u (.str b.pay.s), .u (.sl (b.pay.args.map Exp.row)), .u (.int .i64 b.cover.op), .u (.int .i64 b.cover.n), .u (.int .i64 b.cover.unit), .u (.str b.cover.s), .u (.sl (b.cover.args.map Exp.row)), .u (.int .i64 b.hold.op), .u (.int .i64 b.hold.n), .u (.int .i64 b.hold.unit), .u (.str b.hold.s), .u (.sl (b.hold.args.map Exp.row))]), (2, zb3), (1, zdb 3 T0), (3, zda T0)], next := 4 })
 case main =>
  intro key
  cases hsd : b.sld with
  | true =>
   rw [zkF, if_pos hsd] at e0
   have hln := fun nx (h : 3 ≤ nx) => zgo [[99, 105, 114, 99, 108, 101], [98, 105, 100, 100, 105, 110, 103], [115, 101, 97, 108, 101, 100]] 1 nx (by omega) (by rw [← e0]; omega) (by simp)
   rw [← e0] at hln
   simp only [List.map_cons, List.map_nil] at hln
   repeat' (first
  | (refine zgr (by first | (simp; done) | fail) (by simp) ?_; simp)
  | ((first | refine zaf ?_ | refine zaj ?_ | refine zag ?_ | refine zai ?_ | refine zat ?_ | fail); simp [hsd])
  | (refine zap ?_; simp only [zao])
  | (refine CallP.fE (hri) (by first | rfl | fail) (by first | simp [hsd] <;> rfl | fail) ⟨by first | assumption | (simp; done) | fail, by simp, ?_⟩; (try simp [hsd]))
  | (refine zar (by first | rfl | fail) ?_; simp [hsd, frzN, frz1, zaA, zaz, St.frz, St.frzS, frzS, fv, zaE, zaY, za1, zaD, zas, zal, del, frz, za2])
  | fail)
   refine CallP.okL (hln _ (by simp)) (by simp [zaa, getK]) (by rfl) (by rfl) ⟨by first | assumption | (simp; done), by simp, ?_⟩
   simp [zc1, del]
   refine zaj ?_
   simp only [zao]
   refine zge _ ?_ key
   exact (Wk.ren ((fun x => if x = 3 then 5 else x)) rfl (by first | (simp [hn]; done) | (intro i hi; rw [hn] at hi; constructor <;> (try simp) <;> (try (intro _)) <;> omega)) (by simp [zfZ, St.lp, zam, zaa, getK, zac, zak, D.under, D.le, D.ren] <;> (try (intros; simp_all; done)) <;> (try omega)) (by simp [wkR, St.lp, zaa, getK, zac, zak, obR, leU, zbf, zaN, Ob.under, D.under, D.le, D.ren] <;> (try (intros; simp_all; done)) <;> (try omega)) (by simp))
  | false =>
   have hk3 : b.kind = 0 ∨ b.kind = 1 ∨ b.kind = 2 := by omega
   have go : ∀ (kw : W8) (kd : Int), b.kind = kd → (kd = 0 ∧ kw = [114, 111, 116, 97, 116, 105, 110, 103] ∨ kd = 1 ∧ kw = [98, 105, 100, 100, 105, 110, 103] ∨ kd = 2 ∧ kw = [115, 97, 118, 105, 110, 103]) → T0 = zb0 [[99, 105, 114, 99, 108, 101], kw] := fun kw kd h1 h2 => by
    rw [e0, zkF, hsd]
    rcases h2 with ⟨rfl, rfl⟩ | ⟨rfl, rfl⟩ | ⟨rfl, rfl⟩ <;> simp [h1]
   rcases hk3 with hk0 | hk0 | hk0
   ·have e1 := go [114, 111, 116, 97, 116, 105, 110, 103] 0 hk0 (by decide)
    have hln := fun nx (h : 3 ≤ nx) => zgo [[99, 105, 114, 99, 108, 101], [114, 111, 116, 97, 116, 105, 110, 103]] 1 nx (by omega) (by rw [← e1]; omega) (by simp)
    rw [← e1] at hln
    simp only [List.map_cons, List.map_nil] at hln
    repeat' (first
  | (refine zgr (by first | (simp; done) | fail) (by simp) ?_; simp)
  | (refine zdm ?_; simp [hsd, hk0])
  | (refine zeo rfl rfl (by decide +kernel) (by first | (simp [hn]; done) | (simp [hn]; omega) | fail) fun C k hC hk => ?_; simp [hsd, hk0])
  | ((first | refine zaf ?_ | refine zaO rfl ?_ | refine za3 rfl ?_ | refine zaj ?_ | refine zag ?_ | refine zai ?_ | fail); simp [hsd, hk0])
  | (refine zaX (hC _ (by kernel_rfl)) (hk _ ?_); clear hC hk C k; simp only [zao])
  | (refine zap ?_; simp only [zao])
  | (refine CallP.fE (hri) (by first | rfl | fail) (by first | simp [hsd, hk0] <;> rfl | fail) ⟨by first | assumption | (simp; done) | fail, by simp, ?_⟩; (try simp [hsd, hk0]))
  | (refine zar (by first | rfl | fail) ?_; simp [hsd, hk0, frzN, frz1, zaA, zaz, St.frz, St.frzS, frzS, fv, zaE, zaY, za1, zaD, zas, zal, del, frz, za2])
  | fail)
    refine CallP.okL (hln _ (by simp)) (by simp [zaa, getK]) (by rfl) (by rfl) ⟨by first | assumption | (simp; done), by simp, ?_⟩
    simp [zc1, del]
    refine zaj ?_
    simp only [zao]
    refine zge _ ?_ key
    exact (Wk.ren ((fun x => if x = 3 then 6 else x)) rfl (by first | (simp [hn]; done) | (intro i hi; rw [hn] at hi; constructor <;> (try simp) <;> (try (intro _)) <;> omega)) (by simp [zfZ, St.lp, zam, zaa, getK, zac, zak, D.under, D.le, D.ren] <;> (try (intros; simp_all; done)) <;> (try omega)) (by simp [wkR, St.lp, zaa, getK, zac, zak, obR, leU, zbf, zaN, Ob.under, D.under, D.le, D.ren] <;> (try (intros; simp_all; done)) <;> (try omega)) (by simp))
   ·have e1 := go [98, 105, 100, 100, 105, 110, 103] 1 hk0 (by decide)
    have hln := fun nx (h : 3 ≤ nx) => zgo [[99, 105, 114, 99, 108, 101], [98, 105, 100, 100, 105, 110, 103]] 1 nx (by omega) (by rw [← e1]; omega) (by simp)
    rw [← e1] at hln
    simp only [List.map_cons, List.map_nil] at hln
    repeat' (first
  | (refine zgr (by first | (simp; done) | fail) (by simp) ?_; simp)
  | (refine zdm ?_; simp [hsd, hk0])
  | (refine zeo rfl rfl (by decide +kernel) (by first | (simp [hn]; done) | (simp [hn]; omega) | fail) fun C k hC hk => ?_; simp [hsd, hk0])
  | ((first | refine zaf ?_ | refine zaO rfl ?_ | refine za3 rfl ?_ | refine zaj ?_ | refine zag ?_ | refine zai ?_ | fail); simp [hsd, hk0])
  | (refine zaX (hC _ (by kernel_rfl)) (hk _ ?_); clear hC hk C k; simp only [zao])
  | (refine zap ?_; simp only [zao])
  | (refine CallP.fE (hri) (by first | rfl | fail) (by first | simp [hsd, hk0] <;> rfl | fail) ⟨by first | assumption | (simp; done) | fail, by simp, ?_⟩; (try simp [hsd, hk0]))
  | (refine zar (by first | rfl | fail) ?_; simp [hsd, hk0, frzN, frz1, zaA, zaz, St.frz, St.frzS, frzS, fv, zaE, zaY, za1, zaD, zas, zal, del, frz, za2])
  | fail)
    refine CallP.okL (hln _ (by simp)) (by simp [zaa, getK]) (by rfl) (by rfl) ⟨by first | assumption | (simp; done), by simp, ?_⟩
    simp [zc1, del]
    refine zaj ?_
    simp only [zao]
    refine zge _ ?_ key
    exact (Wk.ren ((fun x => if x = 3 then 6 else x)) rfl (by first | (simp [hn]; done) | (intro i hi; rw [hn] at hi; constructor <;> (try simp) <;> (try (intro _)) <;> omega)) (by simp [zfZ, St.lp, zam, zaa, getK, zac, zak, D.under, D.le, D.ren] <;> (try (intros; simp_all; done)) <;> (try omega)) (by simp [wkR, St.lp, zaa, getK, zac, zak, obR, leU, zbf, zaN, Ob.under, D.under, D.le, D.ren] <;> (try (intros; simp_all; done)) <;> (try omega)) (by simp))
   ·have e1 := go [115, 97, 118, 105, 110, 103] 2 hk0 (by decide)
    have hln := fun nx (h : 3 ≤ nx) => zgo [[99, 105, 114, 99, 108, 101], [115, 97, 118, 105, 110, 103]] 1 nx (by omega) (by rw [← e1]; omega) (by simp)
    rw [← e1] at hln
    simp only [List.map_cons, List.map_nil] at hln
    repeat' (first
  | (refine zgr (by first | (simp; done) | fail) (by simp) ?_; simp)
  | (refine zdm ?_; simp [hsd, hk0])
  | (refine zeo rfl rfl (by decide +kernel) (by first | (simp [hn]; done) | (simp [hn]; omega) | fail) fun C k hC hk => ?_; simp [hsd, hk0])
  | ((first | refine zaf ?_ | refine zaO rfl ?_ | refine za3 rfl ?_ | refine zaj ?_ | refine zag ?_ | refine zai ?_ | fail); simp [hsd, hk0])
  | (refine zaX (hC _ (by kernel_rfl)) (hk _ ?_); clear hC hk C k; simp only [zao])
  | (refine zap ?_; simp only [zao])
  | (refine CallP.fE (hri) (by first | rfl | fail) (by first | simp [hsd, hk0] <;> rfl | fail) ⟨by first | assumption | (simp; done) | fail, by simp, ?_⟩; (try simp [hsd, hk0]))
  | (refine zar (by first | rfl | fail) ?_; simp [hsd, hk0, frzN, frz1, zaA, zaz, St.frz, St.frzS, frzS, fv, zaE, zaY, za1, zaD, zas, zal, del, frz, za2])
  | fail)
    refine CallP.okL (hln _ (by simp)) (by simp [zaa, getK]) (by rfl) (by rfl) ⟨by first | assumption | (simp; done), by simp, ?_⟩
    simp [zc1, del]
    refine zaj ?_
    simp only [zao]
    refine zge _ ?_ key
    exact (Wk.ren ((fun x => if x = 3 then 6 else x)) rfl (by first | (simp [hn]; done) | (intro i hi; rw [hn] at hi; constructor <;> (try simp) <;> (try (intro _)) <;> omega)) (by simp [zfZ, St.lp, zam, zaa, getK, zac, zak, D.under, D.le, D.ren] <;> (try (intros; simp_all; done)) <;> (try omega)) (by simp [wkR, St.lp, zaa, getK, zac, zak, obR, leU, zbf, zaN, Ob.under, D.under, D.le, D.ren] <;> (try (intros; simp_all; done)) <;> (try omega)) (by simp))
 case key =>
 rw [← hCL]
 have x0 : CL[0]? = some (.u (.int .i64 b.kind)) := by rw [hCL]; rfl
 have x1 : CL[1]? = some (.u (.int .i64 b.period)) := by rw [hCL]; rfl
 have x2 : CL[2]? = some (.u (.int .i64 b.grace)) := by rw [hCL]; rfl
 have x3 : CL[3]? = some (.u (.int .i64 b.wait)) := by rw [hCL]; rfl
 have x4 : CL[4]? = some (.u (.int .i64 b.last)) := by rw [hCL]; rfl
 have x5 : CL[5]? = some (.u (.int .i64 b.order)) := by rw [hCL]; rfl
 have x6 : CL[6]? = some (.u (.bool b.sld)) := by rw [hCL]; rfl
 have x7 : CL[7]? = some (.u (.int .i64 b.backs)) := by rw [hCL]; rfl
 have x8 : CL[8]? = some (.u (.int .i64 b.voices)) := by rw [hCL]; rfl
 have x9 : CL[9]? = some (.u (.int .i64 b.jury)) := by rw [hCL]; rfl
 have x10 : CL[10]? = some (.u (.int .i64 b.fund)) := by rw [hCL]; rfl
 have x11 : CL[11]? = some (.u (.sl (b.lets.map fun l => [.str l.name, .int .i64 l.body.op, .int .i64 l.body.n, .int .i64 l.body.unit, .str l.body.s, .sl (l.body.args.map Exp.row)]))) := by rw [hCL]; rfl
 have x12 : CL[12]? = some (.u (.int .i64 b.due.op)) := by rw [hCL]; rfl
 have x13 : CL[13]? = some (.u (.int .i64 b.due.n)) := by rw [hCL]; rfl
 have x14 : CL[14]? = some (.u (.int .i64 b.due.unit)) := by rw [hCL]; rfl
 have x15 : CL[15]? = some (.u (.str b.due.s)) := by rw [hCL]; rfl
 have x16 : CL[16]? = some (.u (.sl (b.due.args.map Exp.row))) := by rw [hCL]; rfl
 have x17 : CL[17]? = some (.u (.int .i64 b.fine.op)) := by rw [hCL]; rfl
 have x18 : CL[18]? = some (.u (.int .i64 b.fine.n)) := by rw [hCL]; rfl
 have x19 : CL[19]? = some (.u (.int .i64 b.fine.unit)) := by rw [hCL]; rfl
 have x20 : CL[20]? = some (.u (.str b.fine.s)) := by rw [hCL]; rfl
 have x21 : CL[21]? = some (.u (.sl (b.fine.args.map Exp.row))) := by rw [hCL]; rfl
 have x22 : CL[22]? = some (.u (.int .i64 b.pay.op)) := by rw [hCL]; rfl
 have x23 : CL[23]? = some (.u (.int .i64 b.pay.n)) := by rw [hCL]; rfl
 have x24 : CL[24]? = some (.u (.int .i64 b.pay.unit)) := by rw [hCL]; rfl
 have x25 : CL[25]? = some (.u (.str b.pay.s)) := by rw [hCL]; rfl
 have x26 : CL[26]? = some (.u (.sl (b.pay.args.map Exp.row))) := by rw [hCL]; rfl
 have x27 : CL[27]? = some (.u (.int .i64 b.cover.op)) := by rw [hCL]; rfl
 have x28 : CL[28]? = some (.u (.int .i64 b.cover.n)) := by rw [hCL]; rfl
 have x29 : CL[29]? = some (.u (.int .i64 b.cover.unit)) := by rw [hCL]; rfl
 have x30 : CL[30]? = some (.u (.str b.cover.s)) := by rw [hCL]; rfl
 have x31 : CL[31]? = some (.u (.sl (b.cover.args.map Exp.row))) := by rw [hCL]; rfl
 have x32 : CL[32]? = some (.u (.int .i64 b.hold.op)) := by rw [hCL]; rfl
 have x33 : CL[33]? = some (.u (.int .i64 b.hold.n)) := by rw [hCL]; rfl
 have x34 : CL[34]? = some (.u (.int .i64 b.hold.unit)) := by rw [hCL]; rfl
 have x35 : CL[35]? = some (.u (.str b.hold.s)) := by rw [hCL]; rfl
 have x36 : CL[36]? = some (.u (.sl (b.hold.args.map Exp.row))) := by rw [hCL]; rfl
 have xun : (∀ x : D, x ∈ CL → D.under 4 x = true) = True := eq_true (by rw [hCL]; simp [D.under])
 have y12 : 17 ≤ CL.length := by rw [hCL]; simp
 have z12 : List.take 5 (List.drop 12 CL) = [.u (.int .i64 b.due.op), .u (.int .i64 b.due.n), .u (.int .i64 b.due.unit), .u (.str b.due.s), .u (.sl (b.due.args.map Exp.row))] := by rw [hCL]; rfl
 have y17 : 22 ≤ CL.length := by rw [hCL]; simp
 have z17 : List.take 5 (List.drop 17 CL) = [.u (.int .i64 b.fine.op), .u (.int .i64 b.fine.n), .u (.int .i64 b.fine.unit), .u (.str b.fine.s), .u (.sl (b.fine.args.map Exp.row))] := by rw [hCL]; rfl
 have y22 : 27 ≤ CL.length := by rw [hCL]; simp
 have z22 : List.take 5 (List.drop 22 CL) = [.u (.int .i64 b.pay.op), .u (.int .i64 b.pay.n), .u (.int .i64 b.pay.unit), .u (.str b.pay.s), .u (.sl (b.pay.args.map Exp.row))] := by rw [hCL]; rfl
 have y27 : 32 ≤ CL.length := by rw [hCL]; simp
 have z27 : List.take 5 (List.drop 27 CL) = [.u (.int .i64 b.cover.op), .u (.int .i64 b.cover.n), .u (.int .i64 b.cover.unit), .u (.str b.cover.s), .u (.sl (b.cover.args.map Exp.row))] := by rw [hCL]; rfl
 have y32 : 37 ≤ CL.length := by rw [hCL]; simp
 have z32 : List.take 5 (List.drop 32 CL) = [.u (.int .i64 b.hold.op), .u (.int .i64 b.hold.n), .u (.int .i64 b.hold.unit), .u (.str b.hold.s), .u (.sl (b.hold.args.map Exp.row))] := by rw [hCL]; rfl
 have xfz : ∀ σ, CL.map (frzS σ) = CL := fun σ => by rw [hCL]; simp [VL.frzS]
 have xle : ∀ ρ nx, leU ρ nx CL CL := fun ρ nx => by rw [hCL]; simp [leU, D.le, D.ren, D.under]
 have p1 := zc5 T0 [112, 101, 114, 105, 111, 100] b.period [[100, 97, 121, 115]]
 obtain ⟨T1, e1⟩ : ∃ T1, T1 = T0 ++ zb6 [112, 101, 114, 105, 111, 100] b.period [[100, 97, 121, 115]] := ⟨_, rfl⟩
 have l1 : (zb6 [112, 101, 114, 105, 111, 100] b.period [[100, 97, 121, 115]]).length ≤ 100 := zc6 (by omega) (by omega) (by decide)
 have m1 : T1.length ≤ T0.length + 100 := by rw [e1, List.length_append]; omega
 rw [← e1] at p1
 repeat' (first
  | ((first | refine zaf ?_ | refine zag ?_ | fail); simp [x0, x1, x2, x3, x4, x5, x6, x7, x8, x9, x10, x11, x12, x13, x14, x15, x16, x17, x18, x19, x20, x21, x22, x23, x24, x25, x26, x27, x28, x29, x30, x31, x32, x33, x34, x35, x36, xfz])
  | (refine zar (by first | rfl | fail) ?_; simp [x0, x1, x2, x3, x4, x5, x6, x7, x8, x9, x10, x11, x12, x13, x14, x15, x16, x17, x18, x19, x20, x21, x22, x23, x24, x25, x26, x27, x28, x29, x30, x31, x32, x33, x34, x35, x36, xfz, frzN, frz1, zaA, zaz, St.frz, St.frzS, frzS, fv, zaE, zaY, za1, zaD, zas, zal, del, frz, za2])
  | fail)
 refine CallP.okE (p1 3 _ (by omega) (by first | omega | simp <;> omega | fail) (by omega) (by omega) (by omega) (by simp)) (by first | (simp [zaa, getK, zab, zac]; done) | fail) (by rfl) (by first | assumption | (simp; done) | fail) (by rfl) (by simp) ?_
 rintro d o N hN ⟨rfl, j', h3, hlt, hge, rfl⟩
 simp at hge
 have q0 : ¬ j' = 0 := by omega
 have q1 : ¬ j' = 1 := by omega
 have q2 : ¬ j' = 2 := by omega
 have q3 : ¬ 0 = j' := by omega
 have q4 : ¬ 1 = j' := by omega
 have q5 : ¬ 2 = j' := by omega
 simp [zc1, del]
 refine zaj ?_
 simp only [zao]
 refine zge { n := 118, env := [(1, .ptr 0 0), (4, .ptr 1 0), (5, .ptr 2 0), (6, .fnc (.func 55) [.ptr 2 0]), (7, .fnc (.func 57) [.ptr 2 0])], obs := [(0, .box CL), (2, zb3), (1, zdb 3 T1), (3, zda T1)], next := 4 } (Wk.ren ((fun x => if x = 3 then j' else x)) rfl (by first | (simp [hn]; done) | (intro i hi; rw [hn] at hi; constructor <;> (try simp) <;> (try (intro _)) <;> omega)) (by simp [zfZ, St.lp, zam, zaa, getK, zac, zak, D.under, D.le, D.ren, h3, hlt, q0, q1, q2, q3, q4, q5, xle, xfz] <;> (try (intros; simp_all; done)) <;> (try omega)) (by simp [wkR, St.lp, zaa, getK, zac, zak, obR, leU, zbf, zaN, Ob.under, D.under, D.le, D.ren, h3, hlt, q0, q1, q2, q3, q4, q5, xle, xfz] <;> (try (intros; simp_all; done)) <;> (try omega)) (by simp [h3, hlt, q0, q1, q2, q3, q4, q5, xle, xfz])) ?_
 have p2 := zc5 T1 [108, 97, 115, 116] b.last []
 obtain ⟨T2, e2⟩ : ∃ T2, T2 = T1 ++ zb6 [108, 97, 115, 116] b.last [] := ⟨_, rfl⟩
 have l2 : (zb6 [108, 97, 115, 116] b.last []).length ≤ 100 := zc6 (by omega) (by omega) (by decide)
 have m2 : T2.length ≤ T1.length + 100 := by rw [e2, List.length_append]; omega
 rw [← e2] at p2
 repeat' (first
  | ((first | refine zaf ?_ | refine zag ?_ | fail); simp [x0, x1, x2, x3, x4, x5, x6, x7, x8, x9, x10, x11, x12, x13, x14, x15, x16, x17, x18, x19, x20, x21, x22, x23, x24, x25, x26, x27, x28, x29, x30, x31, x32, x33, x34, x35, x36, xfz])
  | fail)
 refine CallP.okE (zkw (p2 3 _ (by omega) (by first | omega | simp <;> omega | fail) (by omega) (by omega) (by omega) (by simp))) (by first | (simp [zaa, getK, zab, zac]; done) | fail) (by rfl) (by first | assumption | (simp; done) | fail) (by rfl) (by simp) ?_
 rintro d o N hN ⟨rfl, j', h3, hlt, hge, rfl⟩
 simp at hge
 have q0 : ¬ j' = 0 := by omega
 have q1 : ¬ j' = 1 := by omega
 have q2 : ¬ j' = 2 := by omega
 have q3 : ¬ 0 = j' := by omega
 have q4 : ¬ 1 = j' := by omega
 have q5 : ¬ 2 = j' := by omega
 simp [zc1, del]
 refine zaj ?_
 simp only [zao]
 refine zge { n := 118, env := [(1, .ptr 0 0), (4, .ptr 1 0), (5, .ptr 2 0), (6, .fnc (.func 55) [.ptr 2 0]), (7, .fnc (.func 57) [.ptr 2 0])], obs := [(0, .box CL), (2, zb3), (1, zdb 3 T2), (3, zda T2)], next := 4 } (Wk.ren ((fun x => if x = 3 then j' else x)) rfl (by first | (simp [hn]; done) | (intro i hi; rw [hn] at hi; constructor <;> (try simp) <;> (try (intro _)) <;> omega)) (by simp [zfZ, St.lp, zam, zaa, getK, zac, zak, D.under, D.le, D.ren, h3, hlt, q0, q1, q2, q3, q4, q5, xle, xfz] <;> (try (intros; simp_all; done)) <;> (try omega)) (by simp [wkR, St.lp, zaa, getK, zac, zak, obR, leU, zbf, zaN, Ob.under, D.under, D.le, D.ren, h3, hlt, q0, q1, q2, q3, q4, q5, xle, xfz] <;> (try (intros; simp_all; done)) <;> (try omega)) (by simp [h3, hlt, q0, q1, q2, q3, q4, q5, xle, xfz])) ?_
 have p3 := zc5 T2 [103, 114, 97, 99, 101] b.grace [[100, 97, 121, 115]]
 obtain ⟨T3, e3⟩ : ∃ T3, T3 = T2 ++ zb6 [103, 114, 97, 99, 101] b.grace [[100, 97, 121, 115]] := ⟨_, rfl⟩
 have l3 : (zb6 [103, 114, 97, 99, 101] b.grace [[100, 97, 121, 115]]).length ≤ 100 := zc6 (by omega) (by omega) (by decide)
 have m3 : T3.length ≤ T2.length + 100 := by rw [e3, List.length_append]; omega
 rw [← e3] at p3
 repeat' (first
  | ((first | refine zaf ?_ | refine zag ?_ | fail); simp [x0, x1, x2, x3, x4, x5, x6, x7, x8, x9, x10, x11, x12, x13, x14, x15, x16, x17, x18, x19, x20, x21, x22, x23, x24, x25, x26, x27, x28, x29, x30, x31, x32, x33, x34, x35, x36, xfz])
  | (refine zar (by first | rfl | fail) ?_; simp [x0, x1, x2, x3, x4, x5, x6, x7, x8, x9, x10, x11, x12, x13, x14, x15, x16, x17, x18, x19, x20, x21, x22, x23, x24, x25, x26, x27, x28, x29, x30, x31, x32, x33, x34, x35, x36, xfz, frzN, frz1, zaA, zaz, St.frz, St.frzS, frzS, fv, zaE, zaY, za1, zaD, zas, zal, del, frz, za2])
  | fail)
 refine CallP.okE (p3 3 _ (by omega) (by first | omega | simp <;> omega | fail) (by omega) (by omega) (by omega) (by simp)) (by first | (simp [zaa, getK, zab, zac]; done) | fail) (by rfl) (by first | assumption | (simp; done) | fail) (by rfl) (by simp) ?_
 rintro d o N hN ⟨rfl, j', h3, hlt, hge, rfl⟩
 simp at hge
 have q0 : ¬ j' = 0 := by omega
 have q1 : ¬ j' = 1 := by omega
 have q2 : ¬ j' = 2 := by omega
 have q3 : ¬ 0 = j' := by omega
 have q4 : ¬ 1 = j' := by omega
 have q5 : ¬ 2 = j' := by omega
 simp [zc1, del]
 refine zaj ?_
 simp only [zao]
 refine zge { n := 118, env := [(1, .ptr 0 0), (4, .ptr 1 0), (5, .ptr 2 0), (6, .fnc (.func 55) [.ptr 2 0]), (7, .fnc (.func 57) [.ptr 2 0])], obs := [(0, .box CL), (2, zb3), (1, zdb 3 T3), (3, zda T3)], next := 4 } (Wk.ren ((fun x => if x = 3 then j' else x)) rfl (by first | (simp [hn]; done) | (intro i hi; rw [hn] at hi; constructor <;> (try simp) <;> (try (intro _)) <;> omega)) (by simp [zfZ, St.lp, zam, zaa, getK, zac, zak, D.under, D.le, D.ren, h3, hlt, q0, q1, q2, q3, q4, q5, xle, xfz] <;> (try (intros; simp_all; done)) <;> (try omega)) (by simp [wkR, St.lp, zaa, getK, zac, zak, obR, leU, zbf, zaN, Ob.under, D.under, D.le, D.ren, h3, hlt, q0, q1, q2, q3, q4, q5, xle, xfz] <;> (try (intros; simp_all; done)) <;> (try omega)) (by simp [h3, hlt, q0, q1, q2, q3, q4, q5, xle, xfz])) ?_
 have p4 := zc5 T3 [119, 97, 105, 116] b.wait [[100, 97, 121, 115]]
 obtain ⟨T4, e4⟩ : ∃ T4, T4 = T3 ++ zb6 [119, 97, 105, 116] b.wait [[100, 97, 121, 115]] := ⟨_, rfl⟩
 have l4 : (zb6 [119, 97, 105, 116] b.wait [[100, 97, 121, 115]]).length ≤ 100 := zc6 (by omega) (by omega) (by decide)
 have m4 : T4.length ≤ T3.length + 100 := by rw [e4, List.length_append]; omega
 rw [← e4] at p4
 repeat' (first
  | ((first | refine zaf ?_ | refine zag ?_ | fail); simp [x0, x1, x2, x3, x4, x5, x6, x7, x8, x9, x10, x11, x12, x13, x14, x15, x16, x17, x18, x19, x20, x21, x22, x23, x24, x25, x26, x27, x28, x29, x30, x31, x32, x33, x34, x35, x36, xfz])
  | (refine zar (by first | rfl | fail) ?_; simp [x0, x1, x2, x3, x4, x5, x6, x7, x8, x9, x10, x11, x12, x13, x14, x15, x16, x17, x18, x19, x20, x21, x22, x23, x24, x25, x26, x27, x28, x29, x30, x31, x32, x33, x34, x35, x36, xfz, frzN, frz1, zaA, zaz, St.frz, St.frzS, frzS, fv, zaE, zaY, za1, zaD, zas, zal, del, frz, za2])
  | fail)
 refine CallP.okE (p4 3 _ (by omega) (by first | omega | simp <;> omega | fail) (by omega) (by omega) (by omega) (by simp)) (by first | (simp [zaa, getK, zab, zac]; done) | fail) (by rfl) (by first | assumption | (simp; done) | fail) (by rfl) (by simp) ?_
 rintro d o N hN ⟨rfl, j', h3, hlt, hge, rfl⟩
 simp at hge
 have q0 : ¬ j' = 0 := by omega
 have q1 : ¬ j' = 1 := by omega
 have q2 : ¬ j' = 2 := by omega
 have q3 : ¬ 0 = j' := by omega
 have q4 : ¬ 1 = j' := by omega
 have q5 : ¬ 2 = j' := by omega
 simp [zc1, del]
 refine zaj ?_
 simp only [zao]
 refine zge { n := 118, env := [(1, .ptr 0 0), (4, .ptr 1 0), (5, .ptr 2 0), (6, .fnc (.func 55) [.ptr 2 0]), (7, .fnc (.func 57) [.ptr 2 0])], obs := [(0, .box CL), (2, zb3), (1, zdb 3 T4), (3, zda T4)], next := 4 } (Wk.ren ((fun x => if x = 3 then j' else x)) rfl (by first | (simp [hn]; done) | (intro i hi; rw [hn] at hi; constructor <;> (try simp) <;> (try (intro _)) <;> omega)) (by simp [zfZ, St.lp, zam, zaa, getK, zac, zak, D.under, D.le, D.ren, h3, hlt, q0, q1, q2, q3, q4, q5, xle, xfz] <;> (try (intros; simp_all; done)) <;> (try omega)) (by simp [wkR, St.lp, zaa, getK, zac, zak, obR, leU, zbf, zaN, Ob.under, D.under, D.le, D.ren, h3, hlt, q0, q1, q2, q3, q4, q5, xle, xfz] <;> (try (intros; simp_all; done)) <;> (try omega)) (by simp [h3, hlt, q0, q1, q2, q3, q4, q5, xle, xfz])) ?_
 obtain ⟨T5, e5⟩ : ∃ T5, T5 = T4 ++ zjq b.order := ⟨_, rfl⟩
 have ho3 : b.order = 0 ∨ b.order = 1 ∨ b.order = 2 := by omega
 have l5 : (zjq b.order).length ≤ 100 := by rcases ho3 with h | h | h <;> rw [h] <;> decide
 have m5 : T5.length ≤ T4.length + 100 := by rw [e5, List.length_append]; omega
 apply zkO (S := { n := 118, env := [(1, .ptr 0 0), (4, .ptr 1 0), (5, .ptr 2 0), (6, .fnc (.func 55) [.ptr 2 0]), (7, .fnc (.func 57) [.ptr 2 0])], obs := [(0, .box CL), (2, zb3), (1, zdb 3 T5), (3, zda T5)], next := 4 })
 case main =>
  intro key2
  rcases ho3 with ho | ho | ho
  ·have e2 : T5 = T4 := by rw [e5, ho, zjq, if_pos rfl, List.append_nil]
   repeat' (first
  | ((first | refine zaf ?_ | refine zaj ?_ | refine zag ?_ | refine zai ?_ | fail); simp [x0, x1, x2, x3, x4, x5, x6, x7, x8, x9, x10, x11, x12, x13, x14, x15, x16, x17, x18, x19, x20, x21, x22, x23, x24, x25, x26, x27, x28, x29, x30, x31, x32, x33, x34, x35, x36, xfz, ho])
  | (refine zat ?_; simp [x0, x1, x2, x3, x4, x5, x6, x7, x8, x9, x10, x11, x12, x13, x14, x15, x16, x17, x18, x19, x20, x21, x22, x23, x24, x25, x26, x27, x28, x29, x30, x31, x32, x33, x34, x35, x36, xfz, ho]))
   refine zap ?_
   simp only [zao]
   refine zge _ ?_ key2
   rw [e2]
   exact (Wk.cut rfl (by simp [hn, St.lp]) (by simp [wkO, St.lp, zaa, getK, Ob.under, D.under, zad, zae, xle, xun]) (by simp [wkU, St.lp, zam, zaa, getK, D.under, xle, xun]) (by simp [wkE, St.lp, zam, zaa, getK, xle, xun] <;> (try (intros; simp_all; done)) <;> (try (intros; omega)) <;> (try grind)))
  ·have e2 : T5 = T4 ++ zb0 [[111, 114, 100, 101, 114], [100, 114, 97, 119]] := by rw [e5, ho]; rfl
   have hor := zfI
   simp only [ordersW, List.map_cons, List.map_nil] at hor
   have hln := fun nx (h : 4 ≤ nx) => zgQ T4 [[111, 114, 100, 101, 114], [100, 114, 97, 119]] 3 nx (by omega) (by omega) (by have := zeG [[111, 114, 100, 101, 114], [100, 114, 97, 119]]; rw [zb0]; simp at this ⊢; omega) (by simp)
   rw [← e2] at hln
   simp only [List.map_cons, List.map_nil] at hln
   repeat' (first
  | ((first | refine zaf ?_ | refine zaj ?_ | refine zag ?_ | refine zai ?_ | fail); simp [x0, x1, x2, x3, x4, x5, x6, x7, x8, x9, x10, x11, x12, x13, x14, x15, x16, x17, x18, x19, x20, x21, x22, x23, x24, x25, x26, x27, x28, x29, x30, x31, x32, x33, x34, x35, x36, xfz, ho])
  | (refine zat ?_; simp [x0, x1, x2, x3, x4, x5, x6, x7, x8, x9, x10, x11, x12, x13, x14, x15, x16, x17, x18, x19, x20, x21, x22, x23, x24, x25, x26, x27, x28, x29, x30, x31, x32, x33, x34, x35, x36, xfz, ho]))
   repeat' (first
  | (refine zdm ?_; simp [x0, x1, x2, x3, x4, x5, x6, x7, x8, x9, x10, x11, x12, x13, x14, x15, x16, x17, x18, x19, x20, x21, x22, x23, x24, x25, x26, x27, x28, x29, x30, x31, x32, x33, x34, x35, x36, xfz, ho])
  | (refine zeo rfl rfl (by decide +kernel) (by first | (simp [hn]; done) | (simp [hn]; omega) | fail) fun C k hC hk => ?_; simp [x0, x1, x2, x3, x4, x5, x6, x7, x8, x9, x10, x11, x12, x13, x14, x15, x16, x17, x18, x19, x20, x21, x22, x23, x24, x25, x26, x27, x28, x29, x30, x31, x32, x33, x34, x35, x36, xfz, ho])
  | ((first | refine zaf ?_ | refine zaO rfl ?_ | refine za3 rfl ?_ | fail); simp [x0, x1, x2, x3, x4, x5, x6, x7, x8, x9, x10, x11, x12, x13, x14, x15, x16, x17, x18, x19, x20, x21, x22, x23, x24, x25, x26, x27, x28, x29, x30, x31, x32, x33, x34, x35, x36, xfz, ho])
  | (refine zaX (hC _ (by kernel_rfl)) (hk _ ?_); clear hC hk C k; simp only [zao])
  | (refine CallV.fun_ (hor) (by first | rfl | fail) (by first | simp [x0, x1, x2, x3, x4, x5, x6, x7, x8, x9, x10, x11, x12, x13, x14, x15, x16, x17, x18, x19, x20, x21, x22, x23, x24, x25, x26, x27, x28, x29, x30, x31, x32, x33, x34, x35, x36, xfz, ho] <;> rfl | fail) ⟨by first | assumption | (simp; done) | fail, by simp, ?_⟩ <;> (try simp [x0, x1, x2, x3, x4, x5, x6, x7, x8, x9, x10, x11, x12, x13, x14, x15, x16, x17, x18, x19, x20, x21, x22, x23, x24, x25, x26, x27, x28, x29, x30, x31, x32, x33, x34, x35, x36, xfz, ho]))
  | (refine zar (by first | rfl | fail) ?_; simp [x0, x1, x2, x3, x4, x5, x6, x7, x8, x9, x10, x11, x12, x13, x14, x15, x16, x17, x18, x19, x20, x21, x22, x23, x24, x25, x26, x27, x28, x29, x30, x31, x32, x33, x34, x35, x36, xfz, ho, frzN, frz1, zaA, zaz, St.frz, St.frzS, frzS, fv, zaE, zaY, za1, zaD, zas, zal, del, frz, za2])
  | fail)
   refine CallP.okL (hln _ (by simp)) (by simp [zaa, getK]) (by rfl) (by rfl) ⟨by first | assumption | (simp; done), by simp, ?_⟩
   simp [zc1, del]
   refine zaj ?_
   simp only [zao]
   refine zge _ ?_ key2
   exact (Wk.ren ((fun x => if x = 3 then 5 else x)) rfl (by first | (simp [hn]; done) | (intro i hi; rw [hn] at hi; constructor <;> (try simp) <;> (try (intro _)) <;> omega)) (by simp [zfZ, St.lp, zam, zaa, getK, zac, zak, D.under, D.le, D.ren, xle, xfz] <;> (try (intros; simp_all; done)) <;> (try omega)) (by simp [wkR, St.lp, zaa, getK, zac, zak, obR, leU, zbf, zaN, Ob.under, D.under, D.le, D.ren, xle, xfz] <;> (try (intros; simp_all; done)) <;> (try omega)) (by simp [xle, xfz]))
  ·have e2 : T5 = T4 ++ zb0 [[111, 114, 100, 101, 114], [110, 101, 101, 100]] := by rw [e5, ho]; rfl
   have hor := zfI
   simp only [ordersW, List.map_cons, List.map_nil] at hor
   have hln := fun nx (h : 4 ≤ nx) => zgQ T4 [[111, 114, 100, 101, 114], [110, 101, 101, 100]] 3 nx (by omega) (by omega) (by have := zeG [[111, 114, 100, 101, 114], [110, 101, 101, 100]]; rw [zb0]; simp at this ⊢; omega) (by simp)
   rw [← e2] at hln
   simp only [List.map_cons, List.map_nil] at hln
   repeat' (first
  | ((first | refine zaf ?_ | refine zaj ?_ | refine zag ?_ | refine zai ?_ | fail); simp [x0, x1, x2, x3, x4, x5, x6, x7, x8, x9, x10, x11, x12, x13, x14, x15, x16, x17, x18, x19, x20, x21, x22, x23, x24, x25, x26, x27, x28, x29, x30, x31, x32, x33, x34, x35, x36, xfz, ho])
  | (refine zat ?_; simp [x0, x1, x2, x3, x4, x5, x6, x7, x8, x9, x10, x11, x12, x13, x14, x15, x16, x17, x18, x19, x20, x21, x22, x23, x24, x25, x26, x27, x28, x29, x30, x31, x32, x33, x34, x35, x36, xfz, ho]))
   repeat' (first
  | (refine zdm ?_; simp [x0, x1, x2, x3, x4, x5, x6, x7, x8, x9, x10, x11, x12, x13, x14, x15, x16, x17, x18, x19, x20, x21, x22, x23, x24, x25, x26, x27, x28, x29, x30, x31, x32, x33, x34, x35, x36, xfz, ho])
  | (refine zeo rfl rfl (by decide +kernel) (by first | (simp [hn]; done) | (simp [hn]; omega) | fail) fun C k hC hk => ?_; simp [x0, x1, x2, x3, x4, x5, x6, x7, x8, x9, x10, x11, x12, x13, x14, x15, x16, x17, x18, x19, x20, x21, x22, x23, x24, x25, x26, x27, x28, x29, x30, x31, x32, x33, x34, x35, x36, xfz, ho])
  | ((first | refine zaf ?_ | refine zaO rfl ?_ | refine za3 rfl ?_ | fail); simp [x0, x1, x2, x3, x4, x5, x6, x7, x8, x9, x10, x11, x12, x13, x14, x15, x16, x17, x18, x19, x20, x21, x22, x23, x24, x25, x26, x27, x28, x29, x30, x31, x32, x33, x34, x35, x36, xfz, ho])
  | (refine zaX (hC _ (by kernel_rfl)) (hk _ ?_); clear hC hk C k; simp only [zao])
  | (refine CallV.fun_ (hor) (by first | rfl | fail) (by first | simp [x0, x1, x2, x3, x4, x5, x6, x7, x8, x9, x10, x11, x12, x13, x14, x15, x16, x17, x18, x19, x20, x21, x22, x23, x24, x25, x26, x27, x28, x29, x30, x31, x32, x33, x34, x35, x36, xfz, ho] <;> rfl | fail) ⟨by first | assumption | (simp; done) | fail, by simp, ?_⟩ <;> (try simp [x0, x1, x2, x3, x4, x5, x6, x7, x8, x9, x10, x11, x12, x13, x14, x15, x16, x17, x18, x19, x20, x21, x22, x23, x24, x25, x26, x27, x28, x29, x30, x31, x32, x33, x34, x35, x36, xfz, ho]))
  | (refine zar (by first | rfl | fail) ?_; simp [x0, x1, x2, x3, x4, x5, x6, x7, x8, x9, x10, x11, x12, x13, x14, x15, x16, x17, x18, x19, x20, x21, x22, x23, x24, x25, x26, x27, x28, x29, x30, x31, x32, x33, x34, x35, x36, xfz, ho, frzN, frz1, zaA, zaz, St.frz, St.frzS, frzS, fv, zaE, zaY, za1, zaD, zas, zal, del, frz, za2])
  | fail)
   refine CallP.okL (hln _ (by simp)) (by simp [zaa, getK]) (by rfl) (by rfl) ⟨by first | assumption | (simp; done), by simp, ?_⟩
   simp [zc1, del]
   refine zaj ?_
   simp only [zao]
   refine zge _ ?_ key2
   exact (Wk.ren ((fun x => if x = 3 then 5 else x)) rfl (by first | (simp [hn]; done) | (intro i hi; rw [hn] at hi; constructor <;> (try simp) <;> (try (intro _)) <;> omega)) (by simp [zfZ, St.lp, zam, zaa, getK, zac, zak, D.under, D.le, D.ren, xle, xfz] <;> (try (intros; simp_all; done)) <;> (try omega)) (by simp [wkR, St.lp, zaa, getK, zac, zak, obR, leU, zbf, zaN, Ob.under, D.under, D.le, D.ren, xle, xfz] <;> (try (intros; simp_all; done)) <;> (try omega)) (by simp [xle, xfz]))
 case key =>
 have p6 := zc5 T5 [98, 97, 99, 107, 115] b.backs []
 obtain ⟨T6, e6⟩ : ∃ T6, T6 = T5 ++ zb6 [98, 97, 99, 107, 115] b.backs [] := ⟨_, rfl⟩
 have l6 : (zb6 [98, 97, 99, 107, 115] b.backs []).length ≤ 100 := zc6 (by omega) (by omega) (by decide)
 have m6 : T6.length ≤ T5.length + 100 := by rw [e6, List.length_append]; omega
 rw [← e6] at p6
 repeat' (first
  | ((first | refine zaf ?_ | refine zag ?_ | fail); simp [x0, x1, x2, x3, x4, x5, x6, x7, x8, x9, x10, x11, x12, x13, x14, x15, x16, x17, x18, x19, x20, x21, x22, x23, x24, x25, x26, x27, x28, x29, x30, x31, x32, x33, x34, x35, x36, xfz])
  | fail)
 refine CallP.okE (zkw (p6 3 _ (by omega) (by first | omega | simp <;> omega | fail) (by omega) (by omega) (by omega) (by simp))) (by first | (simp [zaa, getK, zab, zac]; done) | fail) (by rfl) (by first | assumption | (simp; done) | fail) (by rfl) (by simp) ?_
 rintro d o N hN ⟨rfl, j', h3, hlt, hge, rfl⟩
 simp at hge
 have q0 : ¬ j' = 0 := by omega
 have q1 : ¬ j' = 1 := by omega
 have q2 : ¬ j' = 2 := by omega
 have q3 : ¬ 0 = j' := by omega
 have q4 : ¬ 1 = j' := by omega
 have q5 : ¬ 2 = j' := by omega
 simp [zc1, del]
 refine zaj ?_
 simp only [zao]
 refine zge { n := 118, env := [(1, .ptr 0 0), (4, .ptr 1 0), (5, .ptr 2 0), (6, .fnc (.func 55) [.ptr 2 0]), (7, .fnc (.func 57) [.ptr 2 0])], obs := [(0, .box CL), (2, zb3), (1, zdb 3 T6), (3, zda T6)], next := 4 } (Wk.ren ((fun x => if x = 3 then j' else x)) rfl (by first | (simp [hn]; done) | (intro i hi; rw [hn] at hi; constructor <;> (try simp) <;> (try (intro _)) <;> omega)) (by simp [zfZ, St.lp, zam, zaa, getK, zac, zak, D.under, D.le, D.ren, h3, hlt, q0, q1, q2, q3, q4, q5, xle, xfz] <;> (try (intros; simp_all; done)) <;> (try omega)) (by simp [wkR, St.lp, zaa, getK, zac, zak, obR, leU, zbf, zaN, Ob.under, D.under, D.le, D.ren, h3, hlt, q0, q1, q2, q3, q4, q5, xle, xfz] <;> (try (intros; simp_all; done)) <;> (try omega)) (by simp [h3, hlt, q0, q1, q2, q3, q4, q5, xle, xfz])) ?_
 have p7 := zc5 T6 [118, 111, 105, 99, 101, 115] b.voices [[112, 101, 114], [109, 105, 108, 108, 101]]
 obtain ⟨T7, e7⟩ : ∃ T7, T7 = T6 ++ zb6 [118, 111, 105, 99, 101, 115] b.voices [[112, 101, 114], [109, 105, 108, 108, 101]] := ⟨_, rfl⟩
 have l7 : (zb6 [118, 111, 105, 99, 101, 115] b.voices [[112, 101, 114], [109, 105, 108, 108, 101]]).length ≤ 100 := zc6 (by omega) (by omega) (by decide)
 have m7 : T7.length ≤ T6.length + 100 := by rw [e7, List.length_append]; omega
 rw [← e7] at p7
 repeat' (first
  | ((first | refine zaf ?_ | refine zag ?_ | fail); simp [x0, x1, x2, x3, x4, x5, x6, x7, x8, x9, x10, x11, x12, x13, x14, x15, x16, x17, x18, x19, x20, x21, x22, x23, x24, x25, x26, x27, x28, x29, x30, x31, x32, x33, x34, x35, x36, xfz])
  | (refine zar (by first | rfl | fail) ?_; simp [x0, x1, x2, x3, x4, x5, x6, x7, x8, x9, x10, x11, x12, x13, x14, x15, x16, x17, x18, x19, x20, x21, x22, x23, x24, x25, x26, x27, x28, x29, x30, x31, x32, x33, x34, x35, x36, xfz, frzN, frz1, zaA, zaz, St.frz, St.frzS, frzS, fv, zaE, zaY, za1, zaD, zas, zal, del, frz, za2])
  | fail)
 refine CallP.okE (p7 3 _ (by omega) (by first | omega | simp <;> omega | fail) (by omega) (by omega) (by omega) (by simp)) (by first | (simp [zaa, getK, zab, zac]; done) | fail) (by rfl) (by first | assumption | (simp; done) | fail) (by rfl) (by simp) ?_
 rintro d o N hN ⟨rfl, j', h3, hlt, hge, rfl⟩
 simp at hge
 have q0 : ¬ j' = 0 := by omega
 have q1 : ¬ j' = 1 := by omega
 have q2 : ¬ j' = 2 := by omega
 have q3 : ¬ 0 = j' := by omega
 have q4 : ¬ 1 = j' := by omega
 have q5 : ¬ 2 = j' := by omega
 simp [zc1, del]
 refine zaj ?_
 simp only [zao]
 refine zge { n := 118, env := [(1, .ptr 0 0), (4, .ptr 1 0), (5, .ptr 2 0), (6, .fnc (.func 55) [.ptr 2 0]), (7, .fnc (.func 57) [.ptr 2 0])], obs := [(0, .box CL), (2, zb3), (1, zdb 3 T7), (3, zda T7)], next := 4 } (Wk.ren ((fun x => if x = 3 then j' else x)) rfl (by first | (simp [hn]; done) | (intro i hi; rw [hn] at hi; constructor <;> (try simp) <;> (try (intro _)) <;> omega)) (by simp [zfZ, St.lp, zam, zaa, getK, zac, zak, D.under, D.le, D.ren, h3, hlt, q0, q1, q2, q3, q4, q5, xle, xfz] <;> (try (intros; simp_all; done)) <;> (try omega)) (by simp [wkR, St.lp, zaa, getK, zac, zak, obR, leU, zbf, zaN, Ob.under, D.under, D.le, D.ren, h3, hlt, q0, q1, q2, q3, q4, q5, xle, xfz] <;> (try (intros; simp_all; done)) <;> (try omega)) (by simp [h3, hlt, q0, q1, q2, q3, q4, q5, xle, xfz])) ?_
 have p8 := zc5 T7 [106, 117, 114, 121] b.jury []
 obtain ⟨T8, e8⟩ : ∃ T8, T8 = T7 ++ zb6 [106, 117, 114, 121] b.jury [] := ⟨_, rfl⟩
 have l8 : (zb6 [106, 117, 114, 121] b.jury []).length ≤ 100 := zc6 (by omega) (by omega) (by decide)
 have m8 : T8.length ≤ T7.length + 100 := by rw [e8, List.length_append]; omega
 rw [← e8] at p8
 repeat' (first
  | ((first | refine zaf ?_ | refine zag ?_ | fail); simp [x0, x1, x2, x3, x4, x5, x6, x7, x8, x9, x10, x11, x12, x13, x14, x15, x16, x17, x18, x19, x20, x21, x22, x23, x24, x25, x26, x27, x28, x29, x30, x31, x32, x33, x34, x35, x36, xfz])
  | fail)
 refine CallP.okE (zkw (p8 3 _ (by omega) (by first | omega | simp <;> omega | fail) (by omega) (by omega) (by omega) (by simp))) (by first | (simp [zaa, getK, zab, zac]; done) | fail) (by rfl) (by first | assumption | (simp; done) | fail) (by rfl) (by simp) ?_
 rintro d o N hN ⟨rfl, j', h3, hlt, hge, rfl⟩
 simp at hge
 have q0 : ¬ j' = 0 := by omega
 have q1 : ¬ j' = 1 := by omega
 have q2 : ¬ j' = 2 := by omega
 have q3 : ¬ 0 = j' := by omega
 have q4 : ¬ 1 = j' := by omega
 have q5 : ¬ 2 = j' := by omega
 simp [zc1, del]
 refine zaj ?_
 simp only [zao]
 refine zge { n := 118, env := [(1, .ptr 0 0), (4, .ptr 1 0), (5, .ptr 2 0), (6, .fnc (.func 55) [.ptr 2 0]), (7, .fnc (.func 57) [.ptr 2 0])], obs := [(0, .box CL), (2, zb3), (1, zdb 3 T8), (3, zda T8)], next := 4 } (Wk.ren ((fun x => if x = 3 then j' else x)) rfl (by first | (simp [hn]; done) | (intro i hi; rw [hn] at hi; constructor <;> (try simp) <;> (try (intro _)) <;> omega)) (by simp [zfZ, St.lp, zam, zaa, getK, zac, zak, D.under, D.le, D.ren, h3, hlt, q0, q1, q2, q3, q4, q5, xle, xfz] <;> (try (intros; simp_all; done)) <;> (try omega)) (by simp [wkR, St.lp, zaa, getK, zac, zak, obR, leU, zbf, zaN, Ob.under, D.under, D.le, D.ren, h3, hlt, q0, q1, q2, q3, q4, q5, xle, xfz] <;> (try (intros; simp_all; done)) <;> (try omega)) (by simp [h3, hlt, q0, q1, q2, q3, q4, q5, xle, xfz])) ?_
 have p9 := zc5 T8 [102, 117, 110, 100] b.fund [[112, 101, 114], [109, 105, 108, 108, 101]]
 obtain ⟨T9, e9⟩ : ∃ T9, T9 = T8 ++ zb6 [102, 117, 110, 100] b.fund [[112, 101, 114], [109, 105, 108, 108, 101]] := ⟨_, rfl⟩
 have l9 : (zb6 [102, 117, 110, 100] b.fund [[112, 101, 114], [109, 105, 108, 108, 101]]).length ≤ 100 := zc6 (by omega) (by omega) (by decide)
 have m9 : T9.length ≤ T8.length + 100 := by rw [e9, List.length_append]; omega
 rw [← e9] at p9
 repeat' (first
  | ((first | refine zaf ?_ | refine zag ?_ | fail); simp [x0, x1, x2, x3, x4, x5, x6, x7, x8, x9, x10, x11, x12, x13, x14, x15, x16, x17, x18, x19, x20, x21, x22, x23, x24, x25, x26, x27, x28, x29, x30, x31, x32, x33, x34, x35, x36, xfz])
  | (refine zar (by first | rfl | fail) ?_; simp [x0, x1, x2, x3, x4, x5, x6, x7, x8, x9, x10, x11, x12, x13, x14, x15, x16, x17, x18, x19, x20, x21, x22, x23, x24, x25, x26, x27, x28, x29, x30, x31, x32, x33, x34, x35, x36, xfz, frzN, frz1, zaA, zaz, St.frz, St.frzS, frzS, fv, zaE, zaY, za1, zaD, zas, zal, del, frz, za2])
  | fail)
 refine CallP.okE (p9 3 _ (by omega) (by first | omega | simp <;> omega | fail) (by omega) (by omega) (by omega) (by simp)) (by first | (simp [zaa, getK, zab, zac]; done) | fail) (by rfl) (by first | assumption | (simp; done) | fail) (by rfl) (by simp) ?_
 rintro d o N hN ⟨rfl, j', h3, hlt, hge, rfl⟩
 simp at hge
 have q0 : ¬ j' = 0 := by omega
 have q1 : ¬ j' = 1 := by omega
 have q2 : ¬ j' = 2 := by omega
 have q3 : ¬ 0 = j' := by omega
 have q4 : ¬ 1 = j' := by omega
 have q5 : ¬ 2 = j' := by omega
 simp [zc1, del]
 refine zaj ?_
 simp only [zao]
 refine zge { n := 118, env := [(1, .ptr 0 0), (4, .ptr 1 0), (5, .ptr 2 0), (6, .fnc (.func 55) [.ptr 2 0]), (7, .fnc (.func 57) [.ptr 2 0])], obs := [(0, .box CL), (2, zb3), (1, zdb 3 T9), (3, zda T9)], next := 4 } (Wk.ren ((fun x => if x = 3 then j' else x)) rfl (by first | (simp [hn]; done) | (intro i hi; rw [hn] at hi; constructor <;> (try simp) <;> (try (intro _)) <;> omega)) (by simp [zfZ, St.lp, zam, zaa, getK, zac, zak, D.under, D.le, D.ren, h3, hlt, q0, q1, q2, q3, q4, q5, xle, xfz] <;> (try (intros; simp_all; done)) <;> (try omega)) (by simp [wkR, St.lp, zaa, getK, zac, zak, obR, leU, zbf, zaN, Ob.under, D.under, D.le, D.ren, h3, hlt, q0, q1, q2, q3, q4, q5, xle, xfz] <;> (try (intros; simp_all; done)) <;> (try omega)) (by simp [h3, hlt, q0, q1, q2, q3, q4, q5, xle, xfz])) ?_
 obtain ⟨F, eF⟩ : ∃ F : Nat → W8, F = fun i => T9 ++ zga (b.lets.take i) := ⟨_, rfl⟩
 have hF0 : F 0 = T9 := by rw [eF]; simp [zga]
 have hFs : ∀ i l, b.lets[i]? = some l → F (i + 1) = F i ++ zpN l := fun i l h => by rw [eF]; simp only; rw [zma h, List.append_assoc]
 have hFl : ∀ i, i ≤ b.lets.length → (F i).length ≤ T9.length + 2000000000 := fun i hi => by
  rw [eF]
  have h1 := zjD (b.lets.take i) fun l hl => hLs l (List.mem_of_mem_take hl)
  simp only [List.length_append, List.length_take] at h1 ⊢
  omega
 obtain ⟨T10, e10⟩ : ∃ T10, T10 = F b.lets.length := ⟨_, rfl⟩
 have m10 : T10.length ≤ T9.length + 2000000000 := by rw [e10]; exact hFl _ (Nat.le_refl _)
 have eL : T10 = T9 ++ zga b.lets := by rw [e10, eF]; simp only; rw [List.take_length]
 clear eF
 repeat' (first
  | ((first | refine zaf ?_ | refine zaj ?_ | refine zag ?_ | refine zav ?_ | fail); simp [x0, x1, x2, x3, x4, x5, x6, x7, x8, x9, x10, x11, x12, x13, x14, x15, x16, x17, x18, x19, x20, x21, x22, x23, x24, x25, x26, x27, x28, x29, x30, x31, x32, x33, x34, x35, x36, xfz])
  | fail)
 refine zcW (α := { i : Nat // i ≤ b.lets.length }) [1, 4, 5, 7, 79, 80] (fun x => [(81, .u (.int .i64 x.1))]) (fun x => [(0, .box CL), (2, zb3), (1, zdb 3 (F x.1)), (3, zda (F x.1))]) 4 (fun x => b.lets.length - x.1) ⟨0, by omega⟩ ?_ ?_
 ·exact (Wk.cut rfl (by simp [hn, St.lp]) (by simp [wkO, St.lp, zaa, getK, Ob.under, D.under, zad, zae, xle, xun, hF0]) (by simp [wkU, St.lp, zam, zaa, getK, D.under, xle, xun, hF0]) (by simp [wkE, St.lp, zam, zaa, getK, xle, xun, hF0] <;> (try (intros; simp_all; done)) <;> (try (intros; omega)) <;> (try grind)))
 rintro ⟨i, hi⟩
 have hFi := hFl i hi
 simp [St.lp, St.only, zam, zaa, getK]
 rcases hx : b.lets[i]? with _ | l
 case some =>
  have hlt : i < b.lets.length := (lGE.1 hx).1
  obtain ⟨hln, hlr⟩ := hLs l (List.mem_of_getElem? hx)
  have hn20 := zih hln
  have htl := zcr hlr (Nat.le_refl _) 0
  have hsh := zgk 12 (Nat.le_refl _) l.body hlr 0
  rw [Exp.row_eq] at hsh
  have hnx := hFs i l hx
  rw [zpN] at hnx
  have hlw := zla hln hlr
  rw [zpN] at hlw
  have hw := fun nx (h : 4 ≤ nx) => zgQ (F i) [[108, 101, 116], l.name, [61], txt l.body 0] 3 nx (by omega) (by omega) (by omega) (by simp)
  rw [← hnx] at hw
  simp only [List.map_cons, List.map_nil] at hw
  generalize txt l.body 0 = TB at *
  generalize hFN : F (i + 1) = FN at *
  generalize hFI : F i = FI at *
  repeat' (first
  | (refine zdm ?_; simp [x0, x1, x2, x3, x4, x5, x6, x7, x8, x9, x10, x11, x12, x13, x14, x15, x16, x17, x18, x19, x20, x21, x22, x23, x24, x25, x26, x27, x28, x29, x30, x31, x32, x33, x34, x35, x36, xfz, hx])
  | (refine zeo rfl rfl (by decide +kernel) (by first | (simp [hn]; done) | (simp [hn]; omega) | fail) fun C k hC hk => ?_; simp [x0, x1, x2, x3, x4, x5, x6, x7, x8, x9, x10, x11, x12, x13, x14, x15, x16, x17, x18, x19, x20, x21, x22, x23, x24, x25, x26, x27, x28, x29, x30, x31, x32, x33, x34, x35, x36, xfz, hx])
  | ((first | refine zaf ?_ | refine zaO rfl ?_ | refine za3 rfl ?_ | refine zaj ?_ | fail); simp [x0, x1, x2, x3, x4, x5, x6, x7, x8, x9, x10, x11, x12, x13, x14, x15, x16, x17, x18, x19, x20, x21, x22, x23, x24, x25, x26, x27, x28, x29, x30, x31, x32, x33, x34, x35, x36, xfz, hx])
  | (refine ⟨by omega, ?_⟩)
  | (refine zag ?_; simp [x0, x1, x2, x3, x4, x5, x6, x7, x8, x9, x10, x11, x12, x13, x14, x15, x16, x17, x18, x19, x20, x21, x22, x23, x24, x25, x26, x27, x28, x29, x30, x31, x32, x33, x34, x35, x36, xfz, hx])
  | (refine zaX (hC _ (by kernel_rfl)) (hk _ ?_); clear hC hk C k; simp only [zao])
  | (refine zat ?_; simp [x0, x1, x2, x3, x4, x5, x6, x7, x8, x9, x10, x11, x12, x13, x14, x15, x16, x17, x18, x19, x20, x21, x22, x23, x24, x25, x26, x27, x28, x29, x30, x31, x32, x33, x34, x35, x36, xfz, hx])
  | (refine zap ?_; simp only [zao])
  | (refine ⟨?_, by omega⟩)
  | (intro hc <;> (try (exfalso; omega)))
  | (refine CallV.fun_ (hsh) (by first | rfl | fail) (by first | simp [x0, x1, x2, x3, x4, x5, x6, x7, x8, x9, x10, x11, x12, x13, x14, x15, x16, x17, x18, x19, x20, x21, x22, x23, x24, x25, x26, x27, x28, x29, x30, x31, x32, x33, x34, x35, x36, xfz, hx] <;> rfl | fail) ⟨by first | assumption | (simp; done) | fail, by simp, ?_⟩ <;> (try simp [x0, x1, x2, x3, x4, x5, x6, x7, x8, x9, x10, x11, x12, x13, x14, x15, x16, x17, x18, x19, x20, x21, x22, x23, x24, x25, x26, x27, x28, x29, x30, x31, x32, x33, x34, x35, x36, xfz, hx]))
  | (refine zar (by first | rfl | fail) ?_; simp [x0, x1, x2, x3, x4, x5, x6, x7, x8, x9, x10, x11, x12, x13, x14, x15, x16, x17, x18, x19, x20, x21, x22, x23, x24, x25, x26, x27, x28, x29, x30, x31, x32, x33, x34, x35, x36, xfz, hx, frzN, frz1, zaA, zaz, St.frz, St.frzS, frzS, fv, zaE, zaY, za1, zaD, zas, zal, del, frz, za2])
  | (refine CallP.okL (hw _ (by first | omega | simp <;> omega | fail)) (by first | (simp [x0, x1, x2, x3, x4, x5, x6, x7, x8, x9, x10, x11, x12, x13, x14, x15, x16, x17, x18, x19, x20, x21, x22, x23, x24, x25, x26, x27, x28, x29, x30, x31, x32, x33, x34, x35, x36, xfz, hx, zaa, getK, zab, zac, zak, zaK, del]; done) | fail) (by rfl) (by rfl) ⟨by first | assumption | (simp; done) | fail, by simp, ?_⟩; (try simp [x0, x1, x2, x3, x4, x5, x6, x7, x8, x9, x10, x11, x12, x13, x14, x15, x16, x17, x18, x19, x20, x21, x22, x23, x24, x25, x26, x27, x28, x29, x30, x31, x32, x33, x34, x35, x36, xfz, hx, zc1, del]))
  | fail)
  refine LoopW.next ⟨i + 1, by omega⟩ (by simp; omega) ?_
  exact (Wk.ren ((fun x => if x = 3 then 6 else x)) rfl (by first | (simp [hn]; done) | (intro i hi; rw [hn] at hi; constructor <;> (try simp) <;> (try (intro _)) <;> omega)) (by simp [zfZ, St.lp, zam, zaa, getK, zac, zak, D.under, D.le, D.ren, xle, xfz, xun, hFN] <;> (try (intros; simp_all; done)) <;> (try omega)) (by simp [wkR, St.lp, zaa, getK, zac, zak, obR, leU, zbf, zaN, Ob.under, D.under, D.le, D.ren, xle, xfz, xun, hFN] <;> (try (intros; simp_all; done)) <;> (try omega)) (by simp [xle, xfz, xun, hFN]))
 case none =>
 have hge : b.lets.length ≤ i := by simpa using hx
 obtain rfl : i = b.lets.length := by omega
 rw [← e10]
 clear hFs hFl hFi hx
 have p11 := zc8 T10 [100, 117, 101] b.due
 rw [Exp.row_eq] at p11
 obtain ⟨T11, e11⟩ : ∃ T11, T11 = T10 ++ clauseT [100, 117, 101] b.due := ⟨_, rfl⟩
 have m11 : T11.length ≤ T10.length + 60000000 := by rw [e11, List.length_append]; have := zdy (w := [100, 117, 101]) (by decide) hrdue; omega
 rw [← e11] at p11
 repeat' (first
  | ((first | refine zaf ?_ | refine zaj ?_ | refine zag ?_ | fail); simp [y12, z12, xfz])
  | (refine zbb ?_; simp [zao])
  | fail)
 refine CallP.okE (p11 3 _ (by omega) (by first | omega | simp <;> omega | fail) hrdue (by simp; omega)) (by first | (simp [zaa, getK, zab, zac]; done) | fail) (by rfl) (by first | assumption | (simp; done) | fail) (by rfl) (by simp) ?_
 rintro d o N hN ⟨rfl, j', h3, hlt, hge, rfl⟩
 simp at hge
 have q0 : ¬ j' = 0 := by omega
 have q1 : ¬ j' = 1 := by omega
 have q2 : ¬ j' = 2 := by omega
 have q3 : ¬ 0 = j' := by omega
 have q4 : ¬ 1 = j' := by omega
 have q5 : ¬ 2 = j' := by omega
 simp [zc1, del]
 refine zaj ?_
 simp only [zao]
 refine zge { n := 118, env := [(1, .ptr 0 0), (4, .ptr 1 0), (5, .ptr 2 0), (7, .fnc (.func 57) [.ptr 2 0])], obs := [(0, .box CL), (2, zb3), (1, zdb 3 T11), (3, zda T11)], next := 4 } (Wk.ren ((fun x => if x = 3 then j' else x)) rfl (by first | (simp [hn]; done) | (intro i hi; rw [hn] at hi; constructor <;> (try simp) <;> (try (intro _)) <;> omega)) (by simp [zfZ, St.lp, zam, zaa, getK, zac, zak, D.under, D.le, D.ren, h3, hlt, q0, q1, q2, q3, q4, q5, xle, xfz] <;> (try (intros; simp_all; done)) <;> (try omega)) (by simp [wkR, St.lp, zaa, getK, zac, zak, obR, leU, zbf, zaN, Ob.under, D.under, D.le, D.ren, h3, hlt, q0, q1, q2, q3, q4, q5, xle, xfz] <;> (try (intros; simp_all; done)) <;> (try omega)) (by simp [h3, hlt, q0, q1, q2, q3, q4, q5, xle, xfz])) ?_
 have p12 := zc8 T11 [102, 105, 110, 101] b.fine
 rw [Exp.row_eq] at p12
 obtain ⟨T12, e12⟩ : ∃ T12, T12 = T11 ++ clauseT [102, 105, 110, 101] b.fine := ⟨_, rfl⟩
 have m12 : T12.length ≤ T11.length + 60000000 := by rw [e12, List.length_append]; have := zdy (w := [102, 105, 110, 101]) (by decide) hrfine; omega
 rw [← e12] at p12
 repeat' (first
  | ((first | refine zaf ?_ | refine zag ?_ | fail); simp [y17, z17, xfz])
  | fail)
 refine CallP.okE (p12 3 _ (by omega) (by first | omega | simp <;> omega | fail) hrfine (by simp; omega)) (by first | (simp [zaa, getK, zab, zac]; done) | fail) (by rfl) (by first | assumption | (simp; done) | fail) (by rfl) (by simp) ?_
 rintro d o N hN ⟨rfl, j', h3, hlt, hge, rfl⟩
 simp at hge
 have q0 : ¬ j' = 0 := by omega
 have q1 : ¬ j' = 1 := by omega
 have q2 : ¬ j' = 2 := by omega
 have q3 : ¬ 0 = j' := by omega
 have q4 : ¬ 1 = j' := by omega
 have q5 : ¬ 2 = j' := by omega
 simp [zc1, del]
 refine zaj ?_
 simp only [zao]
 refine zge { n := 118, env := [(1, .ptr 0 0), (4, .ptr 1 0), (5, .ptr 2 0), (7, .fnc (.func 57) [.ptr 2 0])], obs := [(0, .box CL), (2, zb3), (1, zdb 3 T12), (3, zda T12)], next := 4 } (Wk.ren ((fun x => if x = 3 then j' else x)) rfl (by first | (simp [hn]; done) | (intro i hi; rw [hn] at hi; constructor <;> (try simp) <;> (try (intro _)) <;> omega)) (by simp [zfZ, St.lp, zam, zaa, getK, zac, zak, D.under, D.le, D.ren, h3, hlt, q0, q1, q2, q3, q4, q5, xle, xfz] <;> (try (intros; simp_all; done)) <;> (try omega)) (by simp [wkR, St.lp, zaa, getK, zac, zak, obR, leU, zbf, zaN, Ob.under, D.under, D.le, D.ren, h3, hlt, q0, q1, q2, q3, q4, q5, xle, xfz] <;> (try (intros; simp_all; done)) <;> (try omega)) (by simp [h3, hlt, q0, q1, q2, q3, q4, q5, xle, xfz])) ?_
 have p13 := zc8 T12 [112, 97, 121] b.pay
 rw [Exp.row_eq] at p13
 obtain ⟨T13, e13⟩ : ∃ T13, T13 = T12 ++ clauseT [112, 97, 121] b.pay := ⟨_, rfl⟩
 have m13 : T13.length ≤ T12.length + 60000000 := by rw [e13, List.length_append]; have := zdy (w := [112, 97, 121]) (by decide) hrpay; omega
 rw [← e13] at p13
 repeat' (first
  | ((first | refine zaf ?_ | refine zag ?_ | fail); simp [y22, z22, xfz])
  | fail)
 refine CallP.okE (p13 3 _ (by omega) (by first | omega | simp <;> omega | fail) hrpay (by simp; omega)) (by first | (simp [zaa, getK, zab, zac]; done) | fail) (by rfl) (by first | assumption | (simp; done) | fail) (by rfl) (by simp) ?_
 rintro d o N hN ⟨rfl, j', h3, hlt, hge, rfl⟩
 simp at hge
 have q0 : ¬ j' = 0 := by omega
 have q1 : ¬ j' = 1 := by omega
 have q2 : ¬ j' = 2 := by omega
 have q3 : ¬ 0 = j' := by omega
 have q4 : ¬ 1 = j' := by omega
 have q5 : ¬ 2 = j' := by omega
 simp [zc1, del]
 refine zaj ?_
 simp only [zao]
 refine zge { n := 118, env := [(1, .ptr 0 0), (4, .ptr 1 0), (5, .ptr 2 0), (7, .fnc (.func 57) [.ptr 2 0])], obs := [(0, .box CL), (2, zb3), (1, zdb 3 T13), (3, zda T13)], next := 4 } (Wk.ren ((fun x => if x = 3 then j' else x)) rfl (by first | (simp [hn]; done) | (intro i hi; rw [hn] at hi; constructor <;> (try simp) <;> (try (intro _)) <;> omega)) (by simp [zfZ, St.lp, zam, zaa, getK, zac, zak, D.under, D.le, D.ren, h3, hlt, q0, q1, q2, q3, q4, q5, xle, xfz] <;> (try (intros; simp_all; done)) <;> (try omega)) (by simp [wkR, St.lp, zaa, getK, zac, zak, obR, leU, zbf, zaN, Ob.under, D.under, D.le, D.ren, h3, hlt, q0, q1, q2, q3, q4, q5, xle, xfz] <;> (try (intros; simp_all; done)) <;> (try omega)) (by simp [h3, hlt, q0, q1, q2, q3, q4, q5, xle, xfz])) ?_
 have p14 := zc8 T13 [99, 111, 118, 101, 114] b.cover
 rw [Exp.row_eq] at p14
 obtain ⟨T14, e14⟩ : ∃ T14, T14 = T13 ++ clauseT [99, 111, 118, 101, 114] b.cover := ⟨_, rfl⟩
 have m14 : T14.length ≤ T13.length + 60000000 := by rw [e14, List.length_append]; have := zdy (w := [99, 111, 118, 101, 114]) (by decide) hrcover; omega
 rw [← e14] at p14
 repeat' (first
  | ((first | refine zaf ?_ | refine zag ?_ | fail); simp [y27, z27, xfz])
  | fail)
 refine CallP.okE (p14 3 _ (by omega) (by first | omega | simp <;> omega | fail) hrcover (by simp; omega)) (by first | (simp [zaa, getK, zab, zac]; done) | fail) (by rfl) (by first | assumption | (simp; done) | fail) (by rfl) (by simp) ?_
 rintro d o N hN ⟨rfl, j', h3, hlt, hge, rfl⟩
 simp at hge
 have q0 : ¬ j' = 0 := by omega
 have q1 : ¬ j' = 1 := by omega
 have q2 : ¬ j' = 2 := by omega
 have q3 : ¬ 0 = j' := by omega
 have q4 : ¬ 1 = j' := by omega
 have q5 : ¬ 2 = j' := by omega
 simp [zc1, del]
 refine zaj ?_
 simp only [zao]
 refine zge { n := 118, env := [(1, .ptr 0 0), (4, .ptr 1 0), (5, .ptr 2 0), (7, .fnc (.func 57) [.ptr 2 0])], obs := [(0, .box CL), (2, zb3), (1, zdb 3 T14), (3, zda T14)], next := 4 } (Wk.ren ((fun x => if x = 3 then j' else x)) rfl (by first | (simp [hn]; done) | (intro i hi; rw [hn] at hi; constructor <;> (try simp) <;> (try (intro _)) <;> omega)) (by simp [zfZ, St.lp, zam, zaa, getK, zac, zak, D.under, D.le, D.ren, h3, hlt, q0, q1, q2, q3, q4, q5, xle, xfz] <;> (try (intros; simp_all; done)) <;> (try omega)) (by simp [wkR, St.lp, zaa, getK, zac, zak, obR, leU, zbf, zaN, Ob.under, D.under, D.le, D.ren, h3, hlt, q0, q1, q2, q3, q4, q5, xle, xfz] <;> (try (intros; simp_all; done)) <;> (try omega)) (by simp [h3, hlt, q0, q1, q2, q3, q4, q5, xle, xfz])) ?_
 have p15 := zc8 T14 [104, 111, 108, 100] b.hold
 rw [Exp.row_eq] at p15
 obtain ⟨T15, e15⟩ : ∃ T15, T15 = T14 ++ clauseT [104, 111, 108, 100] b.hold := ⟨_, rfl⟩
 have m15 : T15.length ≤ T14.length + 60000000 := by rw [e15, List.length_append]; have := zdy (w := [104, 111, 108, 100]) (by decide) hrhold; omega
 rw [← e15] at p15
 repeat' (first
  | ((first | refine zaf ?_ | refine zag ?_ | fail); simp [y32, z32, xfz])
  | fail)
 refine CallP.okE (p15 3 _ (by omega) (by first | omega | simp <;> omega | fail) hrhold (by simp; omega)) (by first | (simp [zaa, getK, zab, zac]; done) | fail) (by rfl) (by first | assumption | (simp; done) | fail) (by rfl) (by simp) ?_
 rintro d o N hN ⟨rfl, j', h3, hlt, hge, rfl⟩
 simp at hge
 have q0 : ¬ j' = 0 := by omega
 have q1 : ¬ j' = 1 := by omega
 have q2 : ¬ j' = 2 := by omega
 have q3 : ¬ 0 = j' := by omega
 have q4 : ¬ 1 = j' := by omega
 have q5 : ¬ 2 = j' := by omega
 simp [zc1, del]
 refine zaj ?_
 simp only [zao]
 refine zge { n := 118, env := [(1, .ptr 0 0), (4, .ptr 1 0), (5, .ptr 2 0), (7, .fnc (.func 57) [.ptr 2 0])], obs := [(0, .box CL), (2, zb3), (1, zdb 3 T15), (3, zda T15)], next := 4 } (Wk.ren ((fun x => if x = 3 then j' else x)) rfl (by first | (simp [hn]; done) | (intro i hi; rw [hn] at hi; constructor <;> (try simp) <;> (try (intro _)) <;> omega)) (by simp [zfZ, St.lp, zam, zaa, getK, zac, zak, D.under, D.le, D.ren, h3, hlt, q0, q1, q2, q3, q4, q5, xle, xfz] <;> (try (intros; simp_all; done)) <;> (try omega)) (by simp [wkR, St.lp, zaa, getK, zac, zak, obR, leU, zbf, zaN, Ob.under, D.under, D.le, D.ren, h3, hlt, q0, q1, q2, q3, q4, q5, xle, xfz] <;> (try (intros; simp_all; done)) <;> (try omega)) (by simp [h3, hlt, q0, q1, q2, q3, q4, q5, xle, xfz])) ?_
 have hTT : TT = T15 := by
  rw [← hT, textP, e15, e14, e13, e12, e11, eL, e9, e8, e7, e6, e5, e4, e3, e2, e1, e0]
 have n0 : 0 < T0.length := by rw [e0, zkF, zb0]; simp
 have hge : T0.length ≤ T15.length := by
  simp only [e15, e14, e13, e12, e11, eL, e9, e8, e7, e6, e5, e4, e3, e2, e1, List.length_append]
  omega
 have hne0 : T15 ≠ [] := fun h => by rw [h] at hge; simp at hge; rw [hge] at n0; simp at n0
 rw [hTT]
 have hst := fun nx (h : 4 ≤ nx) => zlJ 1 3 nx (by omega) (by omega) (by decide) T15 hne0
 have hft := zlq T15
 by_cases hbig : 2000 < T15.length
 ·rw [if_pos hbig] at hft ⊢
  repeat' (first
  | ((first | refine zaf ?_ | refine zaj ?_ | refine zag ?_ | fail); simp [xfz])
  | (refine zaq ?_; simp only [zao])
  | (refine CallP.fE (hft) (by first | rfl | fail) (by first | simp [xfz] <;> rfl | fail) ⟨by first | assumption | (simp; done) | fail, by simp, ?_⟩; (try simp [xfz]))
  | (refine CallP.okL (hst _ (by first | omega | simp <;> omega | fail)) (by first | (simp [xfz, zaa, getK, zab, zac, zak, zaK, del]; done) | fail) (by rfl) (by rfl) ⟨by first | assumption | (simp; done) | fail, by simp, ?_⟩; (try simp [xfz, zc1, del]))
  | fail)
  (refine EndW.here ?_; (first | (refine EndOK.fin (.inr rfl) ?_) | (refine EndOK.fin (.inl rfl) ?_)); simp [zaJ, zah, Tryz.results19]; refine FinOK.here (by simp) ?_; try simp)
 ·rw [if_neg hbig] at hft ⊢
  repeat' (first
  | ((first | refine zaf ?_ | refine zaj ?_ | refine zag ?_ | fail); simp [xfz])
  | (refine zaq ?_; simp only [zao])
  | (refine CallP.fE (hft) (by first | rfl | fail) (by first | simp [xfz] <;> rfl | fail) ⟨by first | assumption | (simp; done) | fail, by simp, ?_⟩; (try simp [xfz]))
  | (refine CallP.okL (hst _ (by first | omega | simp <;> omega | fail)) (by first | (simp [xfz, zaa, getK, zab, zac, zak, zaK, del]; done) | fail) (by rfl) (by rfl) ⟨by first | assumption | (simp; done) | fail, by simp, ?_⟩; (try simp [xfz, zc1, del]))
  | fail)
  (refine EndW.here ?_; (first | (refine EndOK.fin (.inr rfl) ?_) | (refine EndOK.fin (.inl rfl) ?_)); simp [zaJ, zah, Tryz.results19]; refine FinOK.here (by simp) ?_; try simp)
theorem zmX (b : By) : Fun Tryz.prog 19 [.u (.agg (zbz b))] (· = .tup [.u (.str (printB b).1), .u (.int .i64 (printB b).2)]) := by
 cases hb : zey b with
 | true =>
  unfold Fun
  exact (zmW b hb).ret (fun d o n h => by
   cases h
   exact ⟨by simp [zau], rfl⟩) (fun ch o n h => by cases h)
 | false =>
  have hri := zee b
  rw [hb] at hri
  have hp : printB b = ([], 1) := by unfold printB; rw [if_neg (by simp [hb])]
  rw [hp]
  unfold zbz at hri ⊢
  (refine Fun.of_body Tryz.func19 rfl (by simp) fun Γ hn => ?_); simp only [entry, ziC, ziN, maC, maN, oA, Tryz.ntmps19]
  repeat' (first
  | ((first | refine zaf ?_ | refine zaj ?_ | refine zag ?_ | refine zai ?_ | fail); simp)
  | (refine zaq ?_; simp only [zao])
  | (refine CallP.fE (hri) (by first | rfl | fail) (by first | (simp; done) | (simp; rfl) | fail) ?_; (try simp))
  | fail)
  (refine EndOK.val (.inr rfl) ?_; simp [zaJ, zah, zau, Tryz.results19])
theorem zo8 (i j q nx : Nat) (hi : i < nx) (hj : j < nx) (hq : q < nx) (hij : i ≠ j) (hiq : i ≠ q) (hjq : j ≠ q) (p e : Int) (cells : List U) :
  RetDf Tryz.prog 35 [.ptr i 0, .ptr j 0, .ptr q 0] [(i, .box [.u (.int .i64 p)]), (j, .box [.u (.int .i64 e)]), (q, .box (cells.map .u))] nx .returning
   (fun u o n => settle u = .returning ∧ n = nx ∧ o = [(i, .box [.u (.int .i64 p)]), (j, .box [.u (.int .i64 e)]), (q, .box (cells.map .u))]) := by
 have hne := zaB hi
 have hne2 := zaB hj
 have hne3 := zaB hq
 have hc0 := zg8 i j nx hi hj hij p e
 refine RetDf.of_body Tryz.func35 rfl (by simp) (by simp) rfl fun Γ hn => ?_
 simp [entry, zkl, Tryz.ntmps35]
 refine CallP.x2 hc0 (by simp [getK]) (by simp [getK, hij, Ne.symm hij]) hij rfl rfl (by simp) (by simp) (fun d o1 nx' hnx h => ?_) (fun ch o1 nx' hnx h => by cases h.1)
 obtain ⟨h1, rfl, h4⟩ := h
 have h4 := h4.symm
 subst h4
 cases h1
 simp [del, hij, Ne.symm hij, hiq, hjq, Ne.symm hiq, Ne.symm hjq]
 repeat' (first
  | (refine zai ?_; simp [hij, hiq, hjq])
  | (refine zap ?_; simp only [zao])
  | fail)
 (refine ⟨by simp, { n := _, env := [], obs := [(i, .box [.u (.int .i64 p)]), (j, .box [.u (.int .i64 e)]), (q, .box (cells.map .u))], next := nx }, (Wk.cut rfl (by simp [hn]) (by simp [wkO, zaa, getK, zab, zac, Ob.under, D.under, zad, zae, hi, hj, hq, hne, hne2, hne3, hij, hiq, hjq, Ne.symm hij, Ne.symm hiq, Ne.symm hjq]) (by simp [wkU, zam, zaa, getK, D.under, hi, hj, hq, hne, hne2, hne3, hij, hiq, hjq, Ne.symm hij, Ne.symm hiq, Ne.symm hjq]) (by simp [wkE, zam, zaa, getK, hi, hj, hq, hne, hne2, hne3, hij, hiq, hjq, Ne.symm hij, Ne.symm hiq, Ne.symm hjq])), by simp [hn], ?_⟩; try simp)
 all_goals rfl
theorem zo9 (i j q nx : Nat) (hi : i < nx) (hj : j < nx) (hq : q < nx) (hij : i ≠ j) (hiq : i ≠ q) (hjq : j ≠ q) (p e pos err : Int) :
  RetDf Tryz.prog 35 [.ptr i 0, .ptr j 0, .ptr q 0] [(i, .box [.u (.int .i64 p)]), (j, .box [.u (.int .i64 e)]), (q, zo3)] nx (.panicking (chP pos err))
   (fun u o n => settle u = .returning ∧ n = nx ∧ o = [(i, .box [.u (.int .i64 pos)]), (j, .box [.u (.int .i64 err)]), (q, zo3)]) := by
 have hne := zaB hi
 have hne2 := zaB hj
 have hne3 := zaB hq
 have hc0 := zg7 i j nx hi hj hij p e pos err
 refine RetDf.of_body Tryz.func35 rfl (by simp) (by simp) rfl fun Γ hn => ?_
 simp [entry, zkl, chP, Tryz.ntmps35]
 refine CallP.x2 hc0 (by simp [getK]) (by simp [getK, hij, Ne.symm hij]) hij rfl rfl (by simp) (by simp) (fun d o1 nx' hnx h => ?_) (fun ch o1 nx' hnx h => by cases h.1)
 obtain ⟨h1, rfl, h4⟩ := h
 have h4 := h4.symm
 subst h4
 cases h1
 simp [del, hij, Ne.symm hij, hiq, hjq, Ne.symm hiq, Ne.symm hjq]
 repeat' (first
  | ((first | refine zaf ?_ | refine zaj ?_ | refine zai ?_ | refine zat ?_ | fail); simp [hij, hiq, hjq])
  | fail)
 (refine ⟨by simp, { n := _, env := [], obs := [(i, .box [.u (.int .i64 pos)]), (j, .box [.u (.int .i64 err)]), (q, zo3)], next := nx }, (Wk.cut rfl (by simp [hn]) (by simp [wkO, zaa, getK, zab, zac, Ob.under, D.under, zad, zae, hi, hj, hq, hne, hne2, hne3, hij, hiq, hjq, Ne.symm hij, Ne.symm hiq, Ne.symm hjq]) (by simp [wkU, zam, zaa, getK, D.under, hi, hj, hq, hne, hne2, hne3, hij, hiq, hjq, Ne.symm hij, Ne.symm hiq, Ne.symm hjq]) (by simp [wkE, zam, zaa, getK, hi, hj, hq, hne, hne2, hne3, hij, hiq, hjq, Ne.symm hij, Ne.symm hiq, Ne.symm hjq])), by simp [hn], ?_⟩; try simp)
 all_goals rfl
theorem zm1 (s : W8) : RetX Tryz.prog 10 [.u (.str s)] [] 0 (fun r o n => r = .val (zqJ (zgG s))) := by
 skip
 unfold zgG
 cases hlx : zgS s with
 | error pe =>
  obtain ⟨p, e⟩ := pe
  have ho := fun nx => zkZ s p e nx hlx
  have he := (zk5 hlx).1
  simp only
  (refine RetX.zdr Tryz.func10 rfl (by simp) fun Γ hn hdfr hpan hesc => ?_); simp only [entry, ziC, ziN, maC, maN, oA, Tryz.ntmps10]
  repeat' (first
  | ((first | refine zaf ?_ | refine zaO rfl ?_ | refine za3 rfl ?_ | refine zaj ?_ | refine zag ?_ | refine zai ?_ | fail); simp [he])
  | (refine zaX (hC _ (by kernel_rfl)) (hk _ ?_); clear hC hk C k; simp only [zao])
  | (refine za0 rfl (by kernel_rfl) (by first | (simp [hn]; done) | (simp [hn]; omega) | fail) fun C k hC hk => ?_; simp [he])
  | (refine zaq ?_; simp only [zao])
  | (refine CallP.okL (ho _) (by first | (simp [he, zaa, getK, zab, zac, zak, zaK, del]; done) | fail) (by rfl) (by rfl) ?_; (try simp [he, zc1, del]))
  | fail)
  refine EndW.norm ?_
  simp [St.norm, zbh, zbZ, zcj, zck]
  (refine EndW.here ?_; (first | (refine EndOK.fin (.inr rfl) ?_) | (refine EndOK.fin (.inl rfl) ?_)); simp [zaJ, zah, Tryz.results10]; refine FinOK.here (by simp) ?_; try simp)
  simp [zqJ, zbz, ze4, zdN, Exp.op, Exp.n, Exp.unit, Exp.s, Exp.args]
 | ok l =>
  obtain ⟨hl, hl2, hl0⟩ := zkD hlx
  have ho := fun nx => zm9 s l nx hlx
  have hE := zmz l hl0 hl hl2
  simp only
  cases hr : zp3 l with
  | stop pos e =>
   simp only [hr] at hE ⊢
   (refine RetX.zdr Tryz.func10 rfl (by simp) fun Γ hn hdfr hpan hesc => ?_); simp only [entry, ziC, ziN, maC, maN, oA, Tryz.ntmps10]
   rw [zdu]
   repeat' (first
  | ((first | refine zaf ?_ | refine zaj ?_ | refine zag ?_ | refine zai ?_ | fail); simp)
  | (refine zap ?_; simp only [zao])
  | (refine CallP.okL (ho _) (by first | (simp [zaa, getK, zab, zac, zak, zaK, del]; done) | fail) (by rfl) (by rfl) ?_; (try simp [zc1, del]))
  | fail)
   refine zfX hesc hdfr rfl (by simp) ?_
   have hn0 := hn
   have hpan0 := hpan
   intro Γ' hn hpan
   simp
   repeat' (first
  | ((first | refine zaf ?_ | refine zag ?_ | fail); simp)
  | (refine CallP.zd8 (hE) (by first | (simp [zaa, getK, zab, zac]; done) | fail) (by rfl) (by first | assumption | (simp; done) | fail) (by rfl) (by simp) ?_; rintro ob' ⟨q', rfl⟩; refine ⟨_, Wk.refl _, ?_⟩)
  | fail)
   refine hpan _ _ ?_
   refine LeaveD.of [(1, .box [.u (.int .i64 0)]), (2, .box [.u (.int .i64 0)]), (0, zo3)] (by simp [zaa, getK, zab, zac]) (zo9 1 2 0 _ (by simp) (by simp) (by simp) (by decide) (by decide) (by decide) 0 0 _ _) ?_
   simp only [show Γ.base.n0 = 0 from hn0]
   simp [zc1, del]
   refine EndW.norm ?_
   simp [St.norm, zbh, zbZ, zcj, zck]
   (refine EndW.here ?_; (first | (refine EndOK.fin (.inr rfl) ?_) | (refine EndOK.fin (.inl rfl) ?_)); simp [zaJ, zah, Tryz.results10]; refine FinOK.here (by simp) ?_; try simp)
   simp [zqJ, zbz, ze4, zdN, Exp.op, Exp.n, Exp.unit, Exp.s, Exp.args]
  | ok b q =>
   have hEx : RetX Tryz.prog 37 [.ptr 3 0] [(3, pOb l 0)] 4 (fun r o n => r = .val (.u (.agg (zbz b))) ∧ o = [(3, pOb l q)] ∧ n = 4) := by
    rw [hr] at hE
    exact hE
   unfold zbz at hEx
   (refine RetX.zdr Tryz.func10 rfl (by simp) fun Γ hn hdfr hpan hesc => ?_); simp only [entry, ziC, ziN, maC, maN, oA, Tryz.ntmps10]
   rw [zdu]
   repeat' (first
  | ((first | refine zaf ?_ | refine zaj ?_ | refine zag ?_ | refine zai ?_ | fail); simp)
  | (refine zap ?_; simp only [zao])
  | (refine CallP.okL (ho _) (by first | (simp [zaa, getK, zab, zac, zak, zaK, del]; done) | fail) (by rfl) (by rfl) ?_; (try simp [zc1, del]))
  | fail)
   refine zfX hesc hdfr rfl (by simp) ?_
   have hn0 := hn
   have hpan0 := hpan
   intro Γ' hn hpan
   simp
   repeat' (first
  | ((first | refine zaf ?_ | refine zaj ?_ | refine zag ?_ | fail); simp [del])
  | (refine zaq ?_; simp only [zao])
  | (refine CallP.ok1 (hEx) (by first | (simp [del, zaa, getK, zab, zac]; done) | fail) (by rfl) (by rfl) ?_; (try simp [del]))
  | fail)
   refine ⟨rfl, ?_⟩
   refine LeaveD.of [(1, .box [.u (.int .i64 0)]), (2, .box [.u (.int .i64 0)]), (0, .box ((zbz b).map .u))] (by simp [zaa, getK, zab, zac, zbz]) (zo8 1 2 0 _ (by simp) (by simp) (by simp) (by decide) (by decide) (by decide) 0 0 _) ?_
   simp only [show Γ.base.n0 = 0 from hn0]
   simp [zc1, del, zbz]
   (refine EndW.here ?_; (first | (refine EndOK.fin (.inr rfl) ?_) | (refine EndOK.fin (.inl rfl) ?_)); simp [zaJ, zah, Tryz.results10]; refine FinOK.here (by simp) ?_; try simp)
   simp [zqJ, zbz]
theorem zm2 (s : W8) : Fun Tryz.prog 10 [.u (.str s)] (· = .tup [byD (zgG s).1, .u (.int .i64 (zgG s).2.1), .u (.int .i64 (zgG s).2.2)]) := by
 unfold Fun
 exact (zm1 s).ret (fun d o n h => by
  cases h
  exact ⟨by simp [zqJ, zau], rfl⟩) (fun ch o n h => by cases h)
theorem zh9 {s : W8} {b : By} {p e : Int} (h : zhv s = (b, p, e)) : Fun Tryz.prog 10 [.u (.str s)] (· = .tup [byD b, .u (.int .i64 p), .u (.int .i64 e)]) := by
 have h1 := zm2 s
 rw [zm4, h] at h1
 exact h1
theorem zjo {s : W8} {b : Exp} {p e : Int} (h : zjm s = (b, p, e)) : Fun Tryz.prog 12 [.u (.str s)] (· = .tup [zhe b, .u (.int .i64 p), .u (.int .i64 e)]) := by
 have h1 := zf3 s
 rw [zm3, h] at h1
 exact h1
theorem zjd {e : Exp} {s : W8} (h : zaH 12 e = true) (ht : txt e 0 = s) (hs : s.length ≤ 2000) : Fun Tryz.prog 21 [.u (.agg e.row)] (· = .tup [.u (.str s), .u (.int .i64 0)]) := by
 have h1 := zf2 e
 rw [show zfl e = (s, 0) by unfold zfl; rw [if_pos h, ht, if_neg (by omega)]] at h1
 exact h1
theorem dM : zeM 9 (.agg [.int .i64 4, .int .i64 0, .int .i64 0, .str [], .sl [[.int .i64 0, .int .i64 3, .int .i64 1, .str [], .nil], [.int .i64 2, .int .i64 0, .int .i64 0, .str [], .sl [[.int .i64 0, .int .i64 5, .int .i64 3, .str [], .nil], [.int .i64 1, .int .i64 0, .int .i64 0, .str [112, 111, 116], .nil]]]]]) = .agg eM.row := by simp [zeM, Exp.row_eq, eM, eS, Exp.op, Exp.n, Exp.unit, Exp.s, Exp.args]
theorem dS : zeM 9 (.agg [.int .i64 2, .int .i64 0, .int .i64 0, .str [], .sl [[.int .i64 0, .int .i64 5, .int .i64 3, .str [], .nil], [.int .i64 1, .int .i64 0, .int .i64 0, .str [112, 111, 116], .nil]]]) = .agg eS.row := by simp [zeM, Exp.row_eq, eM, eS, Exp.op, Exp.n, Exp.unit, Exp.s, Exp.args]
theorem dZ : zeM 9 (.agg [.int .i64 1, .int .i64 0, .int .i64 0, .str [], .nil]) = .agg (Exp.mk 1 0 0 [] []).row := by simp [zeM, Exp.row_eq, eM, eS, Exp.op, Exp.n, Exp.unit, Exp.s, Exp.args]
theorem zmQ : Fun Tryz.prog 9 [] (· = .u (.bool true)) := by
 have h1 := zjo pv1
 have h2 := zjd rA tA (by decide)
 have h3 : Fun Tryz.prog 21 ([.agg [.int .i64 4, .int .i64 0, .int .i64 0, .str [], .sl [[.int .i64 0, .int .i64 3, .int .i64 1, .str [], .nil], [.int .i64 2, .int .i64 0, .int .i64 0, .str [], .sl [[.int .i64 0, .int .i64 5, .int .i64 3, .str [], .nil], [.int .i64 1, .int .i64 0, .int .i64 0, .str [112, 111, 116], .nil]]]]]].map .u) (· = .tup [.u (.str [51, 32, 42, 32, 40, 32, 53, 32, 99, 111, 105, 110, 115, 32, 43, 32, 112, 111, 116, 32, 41]), .u (.int .i64 0)]) := Fun.zqX 9 (by simp only [List.map_cons, List.map_nil, dM]; exact zjd rM tM (by decide))
 have h4 := zh9 pv3
 have h5 : Fun Tryz.prog 19 [.u (.agg (zbz bB))] (· = .tup [.u (.str [99, 105, 114, 99, 108, 101, 32, 115, 97, 118, 105, 110, 103, 32, 59, 10, 112, 101, 114, 105, 111, 100, 32, 55, 32, 100, 97, 121, 115, 32, 59, 10, 108, 97, 115, 116, 32, 49, 48, 32, 59, 10, 100, 117, 101, 32, 49, 48, 48, 32, 99, 111, 105, 110, 115, 32, 59, 10]), .u (.int .i64 0)]) := by
  have h := zmX bB
  have e : textP bB = [99, 105, 114, 99, 108, 101, 32, 115, 97, 118, 105, 110, 103, 32, 59, 10, 112, 101, 114, 105, 111, 100, 32, 55, 32, 100, 97, 121, 115, 32, 59, 10, 108, 97, 115, 116, 32, 49, 48, 32, 59, 10, 100, 117, 101, 32, 49, 48, 48, 32, 99, 111, 105, 110, 115, 32, 59, 10] := tB
  rw [show printB bB = ([99, 105, 114, 99, 108, 101, 32, 115, 97, 118, 105, 110, 103, 32, 59, 10, 112, 101, 114, 105, 111, 100, 32, 55, 32, 100, 97, 121, 115, 32, 59, 10, 108, 97, 115, 116, 32, 49, 48, 32, 59, 10, 100, 117, 101, 32, 49, 48, 48, 32, 99, 111, 105, 110, 115, 32, 59, 10], 0) by unfold printB; rw [if_pos rB, e, if_neg (by decide)]] at h
  exact h
 have h6 := zh9 pv4
 have h7 := zh9 pv5
 have h8 := zjo pv2
 have h9 := zee bB
 rw [rB] at h9
 have h10 : Fun Tryz.prog 23 ([.agg [.int .i64 0, .int .i64 0, .int .i64 0, .int .i64 0, .int .i64 0, .int .i64 0, .bool false, .int .i64 0, .int .i64 0, .int .i64 0, .int .i64 0, .nil, .int .i64 0, .int .i64 0, .int .i64 0, .str [], .nil, .int .i64 0, .int .i64 0, .int .i64 0, .str [], .nil, .int .i64 0, .int .i64 0, .int .i64 0, .str [], .nil, .int .i64 0, .int .i64 0, .int .i64 0, .str [], .nil, .int .i64 0, .int .i64 0, .int .i64 0, .str [], .nil]].map .u) (· = .u (.bool false)) := Fun.zqX 9 (by have h := zee ze4; rw [rz] at h; exact h)
 have h11 : Fun Tryz.prog 25 ([.agg [.int .i64 2, .int .i64 0, .int .i64 0, .str [], .sl [[.int .i64 0, .int .i64 5, .int .i64 3, .str [], .nil], [.int .i64 1, .int .i64 0, .int .i64 0, .str [112, 111, 116], .nil]]]].map .u) (· = .u (.bool true)) := Fun.zqX 9 (by have h := zdE eS; rw [rS, zhe, ← Exp.row_eq] at h; simp only [List.map_cons, List.map_nil, dS]; exact h)
 have h12 : Fun Tryz.prog 25 ([.agg [.int .i64 1, .int .i64 0, .int .i64 0, .str [], .nil]].map .u) (· = .u (.bool false)) := Fun.zqX 9 (by have h := zdE (.mk 1 0 0 [] []); rw [rZ, zhe, ← Exp.row_eq] at h; simp only [List.map_cons, List.map_nil, dZ]; exact h)
 have h13 := zeT [112, 101, 114, 105, 111, 100]
 rw [nP] at h13
 have h14 := zeT [99, 111, 105, 110, 115]
 rw [nC] at h14
 have h15 := zi5 bB
 have h16 : Fun Tryz.prog 28 ([.agg [.int .i64 2, .int .i64 0, .int .i64 0, .str [], .sl [[.int .i64 0, .int .i64 5, .int .i64 3, .str [], .nil], [.int .i64 1, .int .i64 0, .int .i64 0, .str [112, 111, 116], .nil]]], .agg [.int .i64 2, .int .i64 0, .int .i64 0, .str [], .sl [[.int .i64 0, .int .i64 5, .int .i64 3, .str [], .nil], [.int .i64 1, .int .i64 0, .int .i64 0, .str [112, 111, 116], .nil]]]].map .u) (· = .u (.bool true)) := Fun.zqX 9 (by have h := zb9 eS eS; rw [zdi, zg4] at h; simp only [List.map_cons, List.map_nil, dS]; exact h)
 rw [Exp.row_eq] at h2
 simp only [zhe, byD, zbz, List.map_cons, List.map_nil] at h1 h3 h4 h6 h7 h8 h10 h11 h12 h15 h16 h5 h9
 generalize eA = e1 at *
 generalize bB = b1 at *
 (refine Fun.of_bodyW Tryz.func9 rfl (by simp) fun Γ hn => ?_); simp only [entry, ziC, ziN, maC, maN, oA, Tryz.ntmps9]
 repeat' (first
  | ((first | refine zaf ?_ | refine zaj ?_ | refine zag ?_ | fail); simp)
  | (refine CallP.fE (h1) (by first | rfl | fail) (by first | (simp; done) | (simp; rfl) | fail) ?_; (try simp))
  | (refine CallP.fE (h2) (by first | rfl | fail) (by first | (simp; done) | (simp; rfl) | fail) ?_; (try simp))
  | fail)
 refine ziO (Wk.frzN 1 _) ?_
 simp [frzN, frz1, zaA, zaz, St.frz, St.frzS, frzS, fv, zaE, zaY, za1, zaD, zas, zal, del, frz, za2]
 refine ziO (Wk.frzN 1 _) ?_
 simp [frzN, frz1, zaA, zaz, St.frz, St.frzS, frzS, fv, zaE, zaY, za1, zaD, zas, zal, del, frz, za2]
 repeat' (first
  | ((first | refine zaf ?_ | refine zaj ?_ | refine zag ?_ | fail); simp)
  | (refine zaq ?_; simp only [zao])
  | (refine CallP.fE (h3) (by first | rfl | fail) (by first | (simp; done) | (simp; rfl) | fail) ?_; (try simp))
  | (refine CallP.fE (h4) (by first | rfl | fail) (by first | (simp; done) | (simp; rfl) | fail) ?_; (try simp))
  | (refine CallP.fE (h5) (by first | rfl | fail) (by first | (simp; done) | (simp; rfl) | fail) ?_; (try simp))
  | (refine CallP.fE (h6) (by first | rfl | fail) (by first | (simp; done) | (simp; rfl) | fail) ?_; (try simp))
  | (refine CallP.fE (h7) (by first | rfl | fail) (by first | (simp; done) | (simp; rfl) | fail) ?_; (try simp))
  | (refine CallP.fE (h8) (by first | rfl | fail) (by first | (simp; done) | (simp; rfl) | fail) ?_; (try simp))
  | (refine CallP.fE (h9) (by first | rfl | fail) (by first | (simp; done) | (simp; rfl) | fail) ?_; (try simp))
  | (refine CallP.fE (h10) (by first | rfl | fail) (by first | (simp; done) | (simp; rfl) | fail) ?_; (try simp))
  | (refine CallP.fE (h11) (by first | rfl | fail) (by first | (simp; done) | (simp; rfl) | fail) ?_; (try simp))
  | (refine CallP.fE (h12) (by first | rfl | fail) (by first | (simp; done) | (simp; rfl) | fail) ?_; (try simp))
  | (refine CallP.fE (h13) (by first | rfl | fail) (by first | (simp; done) | (simp; rfl) | fail) ?_; (try simp))
  | (refine CallP.fE (h14) (by first | rfl | fail) (by first | (simp; done) | (simp; rfl) | fail) ?_; (try simp))
  | (refine CallP.fE (h15) (by first | rfl | fail) (by first | (simp; done) | (simp; rfl) | fail) ?_; (try simp))
  | (refine CallP.fE (h16) (by first | rfl | fail) (by first | (simp; done) | (simp; rfl) | fail) ?_; (try simp))
  | fail)
 refine EndW.here ?_
 (refine EndOK.val (.inr rfl) ?_; simp [zaJ, zah, zau, Tryz.results9])
theorem zlU (e : Exp) (wh : Int) : Fun Tryz.prog 8 [.u (.agg e.row), .u (.int .i64 wh)] (· = .u (.bool true)) := by
 have hs := zmQ
 have hfe := zmr e
 have hpx := zf2 e
 cases hF : zrr e with
 | false =>
  rw [hF] at hfe
  rw [Exp.row_eq] at *
  (refine Fun.of_bodyW Tryz.func8 rfl (by simp) fun Γ hn => ?_); simp only [entry, ziC, ziN, maC, maN, oA, Tryz.ntmps8]
  repeat' (first
  | ((first | refine zaf ?_ | refine zaO rfl ?_ | refine za3 rfl ?_ | refine zbx rfl ?_ | refine zbH rfl ?_ | refine zaj ?_ | fail); simp)
  | (refine ⟨by omega, ?_⟩)
  | ((first | refine zag ?_ | refine zai ?_ | fail); simp)
  | (refine zaX (hC _ (by kernel_rfl)) (hk _ ?_); clear hC hk C k; simp only [zao])
  | (refine hk _ ?_; clear hk k; simp only [zao])
  | (refine za0 rfl (by kernel_rfl) (by first | (simp [hn]; done) | (simp [hn]; omega) | fail) fun C k hC hk => ?_; simp)
  | (refine zbn rfl (by simp) ?_; simp)
  | (refine zbk rfl (by simp) (fun hc => ?_) (fun hc => ?_) <;> (try simp at hc) <;> (try (exfalso; omega)) <;> (try simp))
  | ((first | refine zav ?_ | refine zat ?_ | fail); simp)
  | ((first | refine zaq ?_ | refine zap ?_ | fail); simp only [zao])
  | (refine zbb ?_; simp [zao])
  | (refine ⟨?_, by omega⟩)
  | (refine ⟨fun hc => ?_, fun hc => ?_⟩ <;> (try (exfalso; omega)))
  | (intro hc <;> (try (exfalso; omega)))
  | (refine CallV.fun_ (hs) (by first | rfl | fail) (by first | (simp; done) | (simp; rfl) | fail) ?_ <;> (try simp))
  | (refine CallP.fE (hs) (by first | rfl | fail) (by first | (simp; done) | (simp; rfl) | fail) ?_; (try simp))
  | (refine CallV.fun_ (hfe) (by first | rfl | fail) (by first | (simp; done) | (simp; rfl) | fail) ?_ <;> (try simp))
  | (refine CallP.fE (hfe) (by first | rfl | fail) (by first | (simp; done) | (simp; rfl) | fail) ?_; (try simp)))
  refine EndW.here ?_
  (refine EndOK.val (.inr rfl) ?_; simp [zaJ, zah, zau, Tryz.results8])
 | true =>
  rw [hF] at hfe
  by_cases hr : ¬ zaH 12 e = true ∨ 2000 < (txt e 0).length
  ·obtain ⟨c, hc0, hpe⟩ : ∃ c : Int, c ≠ 0 ∧ zfl e = ([], c) := by
    unfold zfl
    by_cases h : zaH 12 e = true
    ·rw [if_pos h, if_pos (hr.resolve_left (fun g => g h))]; exact ⟨6, by decide, rfl⟩
    ·rw [if_neg h]; exact ⟨1, by decide, rfl⟩
   rw [hpe] at hpx
   rw [Exp.row_eq] at *
   (refine Fun.of_bodyW Tryz.func8 rfl (by simp) fun Γ hn => ?_); simp only [entry, ziC, ziN, maC, maN, oA, Tryz.ntmps8]
   repeat' (first
  | ((first | refine zaf ?_ | refine zaO rfl ?_ | refine za3 rfl ?_ | refine zbx rfl ?_ | refine zbH rfl ?_ | refine zaj ?_ | fail); simp [hc0])
  | (refine ⟨by omega, ?_⟩)
  | ((first | refine zag ?_ | refine zai ?_ | fail); simp [hc0])
  | (refine zaX (hC _ (by kernel_rfl)) (hk _ ?_); clear hC hk C k; simp only [zao])
  | (refine hk _ ?_; clear hk k; simp only [zao])
  | (refine za0 rfl (by kernel_rfl) (by first | (simp [hn]; done) | (simp [hn]; omega) | fail) fun C k hC hk => ?_; simp [hc0])
  | (refine zbn rfl (by simp [hc0]) ?_; simp [hc0])
  | (refine zbk rfl (by simp [hc0]) (fun hc => ?_) (fun hc => ?_) <;> (try simp [hc0] at hc) <;> (try (exfalso; omega)) <;> (try simp [hc0]))
  | ((first | refine zav ?_ | refine zat ?_ | fail); simp [hc0])
  | ((first | refine zaq ?_ | refine zap ?_ | fail); simp only [zao])
  | (refine zbb ?_; simp [zao])
  | (refine ⟨?_, by omega⟩)
  | (refine ⟨fun hc => ?_, fun hc => ?_⟩ <;> (try (exfalso; omega)))
  | (intro hc <;> (try (exfalso; omega)))
  | (refine CallV.fun_ (hs) (by first | rfl | fail) (by first | simp [hc0] <;> rfl | fail) ?_ <;> (try simp [hc0]))
  | (refine CallP.fE (hs) (by first | rfl | fail) (by first | simp [hc0] <;> rfl | fail) ?_; (try simp [hc0]))
  | (refine CallV.fun_ (hfe) (by first | rfl | fail) (by first | simp [hc0] <;> rfl | fail) ?_ <;> (try simp [hc0]))
  | (refine CallP.fE (hfe) (by first | rfl | fail) (by first | simp [hc0] <;> rfl | fail) ?_; (try simp [hc0]))
  | (refine CallV.fun_ (hpx) (by first | rfl | fail) (by first | simp [hc0] <;> rfl | fail) ?_ <;> (try simp [hc0]))
  | (refine CallP.fE (hpx) (by first | rfl | fail) (by first | simp [hc0] <;> rfl | fail) ?_; (try simp [hc0])))
   refine EndW.here ?_
   (refine EndOK.val (.inr rfl) ?_; simp [zaJ, zah, zau, Tryz.results8])
  ·have hre : zaH 12 e = true := Classical.byContradiction fun h => hr (.inl h)
   have hlen : (txt e 0).length ≤ 2000 := by
    have : ¬ 2000 < (txt e 0).length := fun h => hr (.inr h)
    omega
   have hpe : zfl e = (txt e 0, 0) := by unfold zfl; rw [if_pos hre, if_neg (by omega)]
   rw [hpe] at hpx
   have hg := zi2 12 e hre 0
   obtain ⟨ts, hlx, hts⟩ := zlh hg hlen
   obtain ⟨hl, hl2, hl0⟩ := zkD hlx
   have hlex := zkC (txt e 0)
   rw [show zgS (txt e 0) = .ok ts from hlx] at hlex
   simp only [zgR] at hlex
   have htx := zkV ts (by rw [hts]; have : (zbg (zbS e 0)).length ≤ 2000 := hlen; omega) (by omega)
   rw [hts] at htx
   have htx : Fun Tryz.prog 33 [.u (.sl (ts.map zke))] (· = .u (.str (txt e 0))) := htx
   have hlex : Fun Tryz.prog 32 [.u (.str (txt e 0))] (· = .tup [.u (.sl (ts.map zke)), .u (.int .i64 0), .u (.int .i64 0)]) := hlex
   have hB : ∀ i k, (zbg (zaZ (zfP ts i k))).length ≤ 140737488355328 := fun i k => by
    have h1 : ∀ w ∈ zaZ (zfP ts i k), w.length ≤ 2000 := fun w hw => by
     have : w ∈ zaZ ts := by
      unfold zaZ at hw ⊢
      obtain ⟨t, ht, rfl⟩ := List.mem_map.1 hw
      rw [List.mem_filter] at ht
      refine List.mem_map.2 ⟨t, List.mem_filter.2 ⟨?_, ht.2⟩, rfl⟩
      have := ht.1
      unfold zfP at this
      rcases List.mem_append.1 this with h | h
      ·rcases List.mem_append.1 h with h | h
       ·exact List.mem_of_mem_take h
       ·exact List.mem_of_mem_take (List.mem_of_mem_drop h)
      ·exact List.mem_of_mem_drop h
     rw [hts] at this
     exact Nat.le_trans (zk2 this) hlen
    have h2 := znC h1
    have h3 : (zaZ (zfP ts i k)).length ≤ (zfP ts i k).length := by unfold zaZ; rw [List.length_map]; exact List.length_filter_le _ _
    have h4 : (zfP ts i k).length ≤ 6003 := by unfold zfP; simp only [List.length_append, List.length_take, List.length_drop]; omega
    have h5 : (zaZ (zfP ts i k)).length * (2000 + 1) ≤ 6003 * (2000 + 1) := Nat.mul_le_mul_right _ (by omega)
    omega
   have hopen : ∀ i t, ts[i]? = some t → t.text = [40] → zei t = true ∧ i + 1 < ts.length := fun i t ht h => by
    have hk : t.kind ≠ 0 := fun g => by
     have := zqs hlx ht g
     rw [this] at h
     cases h
    exact ⟨by simp [zei, hk, h], hl.fin i t ht hk⟩
   have hcut := fun (i k : Nat) (t : Tok) (h1 : ts[i]? = some t) (h2 : zei t = true) (h3 : i < k) (h4 : k < ts.length) (y : Exp) (p : Int) => znT hts hg h1 h2 h3 h4 (y := y) (p := p)
   have hL : (ts.map zke).length = ts.length := by simp
   generalize hrow : ts.map zke = rows at *
   have hget : ∀ i t, ts[i]? = some t → rows[i]? = some (zke t) := fun i t h => by rw [← hrow, List.getElem?_map, h]; rfl
   clear hlx hts hg
   rw [Exp.row_eq] at *
   generalize txt e 0 = T at *
   (refine Fun.of_bodyW Tryz.func8 rfl (by simp) fun Γ hn => ?_); simp only [entry, ziC, ziN, maC, maN, oA, Tryz.ntmps8]
   repeat' (first
  | ((first | refine zaf ?_ | refine zaO rfl ?_ | refine za3 rfl ?_ | refine zbx rfl ?_ | refine zbH rfl ?_ | refine zaj ?_ | fail); simp)
  | (refine ⟨by omega, ?_⟩)
  | ((first | refine zag ?_ | refine zai ?_ | fail); simp)
  | (refine zaX (hC _ (by kernel_rfl)) (hk _ ?_); clear hC hk C k; simp only [zao])
  | (refine hk _ ?_; clear hk k; simp only [zao])
  | (refine za0 rfl (by kernel_rfl) (by first | (simp [hn]; done) | (simp [hn]; omega) | fail) fun C k hC hk => ?_; simp)
  | (refine zbn rfl (by simp) ?_; simp)
  | (refine zbk rfl (by simp) (fun hc => ?_) (fun hc => ?_) <;> (try simp at hc) <;> (try (exfalso; omega)) <;> (try simp))
  | ((first | refine zav ?_ | refine zat ?_ | fail); simp)
  | ((first | refine zaq ?_ | refine zap ?_ | fail); simp only [zao])
  | (refine zbb ?_; simp [zao])
  | (refine ⟨?_, by omega⟩)
  | (refine ⟨fun hc => ?_, fun hc => ?_⟩ <;> (try (exfalso; omega)))
  | (intro hc <;> (try (exfalso; omega)))
  | (refine CallV.fun_ (hs) (by first | rfl | fail) (by first | (simp; done) | (simp; rfl) | fail) ?_ <;> (try simp))
  | (refine CallP.fE (hs) (by first | rfl | fail) (by first | (simp; done) | (simp; rfl) | fail) ?_; (try simp))
  | (refine CallV.fun_ (hfe) (by first | rfl | fail) (by first | (simp; done) | (simp; rfl) | fail) ?_ <;> (try simp))
  | (refine CallP.fE (hfe) (by first | rfl | fail) (by first | (simp; done) | (simp; rfl) | fail) ?_; (try simp))
  | (refine CallV.fun_ (hpx) (by first | rfl | fail) (by first | (simp; done) | (simp; rfl) | fail) ?_ <;> (try simp))
  | (refine CallP.fE (hpx) (by first | rfl | fail) (by first | (simp; done) | (simp; rfl) | fail) ?_; (try simp))
  | (refine CallV.fun_ (hlex) (by first | rfl | fail) (by first | (simp; done) | (simp; rfl) | fail) ?_ <;> (try simp))
  | (refine CallP.fE (hlex) (by first | rfl | fail) (by first | (simp; done) | (simp; rfl) | fail) ?_; (try simp))
  | (refine CallV.fun_ (htx) (by first | rfl | fail) (by first | (simp; done) | (simp; rfl) | fail) ?_ <;> (try simp))
  | (refine CallP.fE (htx) (by first | rfl | fail) (by first | (simp; done) | (simp; rfl) | fail) ?_; (try simp)))
   refine zcW (α := { x : Nat × Nat // x.1 ≤ ts.length ∧ x.2 ≤ x.1 }) [1, 2, 5, 8] (fun x => [(11, .u (.int .i64 x.1.2)), (12, .u (.int .i64 x.1.1))])
    (fun _ => [(0, .box [.u (.int .i64 e.op), .u (.int .i64 e.n), .u (.int .i64 e.unit), .u (.str e.s), .u (.sl (e.args.map Exp.row))])]) 1 (fun x => ts.length - x.1.1) ⟨(0, 0), by omega, by omega⟩ ?_ ?_
   ·exact (Wk.cut rfl (by simp [hn, St.lp]) (by simp [wkO, St.lp, zaa, getK, Ob.under, D.under, zad, zae]) (by simp [wkU, St.lp, zam, zaa, getK, D.under]) (by simp [wkE, St.lp, zam, zaa, getK] <;> (try (intros; simp_all; done)) <;> (try (intros; omega)) <;> (try grind)))
   rintro ⟨⟨i, n⟩, hi, hn0⟩
   simp only at hi hn0
   simp [St.lp, St.only, zam, zaa, getK]
   rcases hx : ts[i]? with _ | t
   ·have hie : i = ts.length := by have := List.getElem?_eq_none_iff.1 hx; omega
    subst hie
    repeat' (first
  | ((first | refine zaf ?_ | refine zaO rfl ?_ | refine za3 rfl ?_ | refine zbx rfl ?_ | refine zbH rfl ?_ | refine zaj ?_ | fail); simp [hL])
  | (refine ⟨by omega, ?_⟩)
  | ((first | refine zag ?_ | refine zai ?_ | fail); simp [hL])
  | (refine zaX (hC _ (by kernel_rfl)) (hk _ ?_); clear hC hk C k; simp only [zao])
  | (refine hk _ ?_; clear hk k; simp only [zao])
  | (refine za0 rfl (by kernel_rfl) (by first | (simp [hn]; done) | (simp [hn]; omega) | fail) fun C k hC hk => ?_; simp [hL])
  | (refine zbn rfl (by simp [hL]) ?_; simp [hL])
  | (refine zbk rfl (by simp [hL]) (fun hc => ?_) (fun hc => ?_) <;> (try simp [hL] at hc) <;> (try (exfalso; omega)) <;> (try simp [hL]))
  | ((first | refine zav ?_ | refine zat ?_ | fail); simp [hL])
  | ((first | refine zaq ?_ | refine zap ?_ | fail); simp only [zao])
  | (refine zbb ?_; simp [zao])
  | (refine ⟨?_, by omega⟩)
  | (refine ⟨fun hc => ?_, fun hc => ?_⟩ <;> (try (exfalso; omega)))
  | (intro hc <;> (try (exfalso; omega))))
    refine EndW.here ?_
    (refine EndOK.val (.inr rfl) ?_; simp [zaJ, zah, zau, Tryz.results8])
   ·have hlt : i < ts.length := (lGE.1 hx).1
    have hlt2 : (i : Int) < ts.length := by omega
    have hxr := hget i t hx
    by_cases h40 : t.text = [40]
    case neg =>
     repeat' (first
  | ((first | refine zaf ?_ | refine zaO rfl ?_ | refine za3 rfl ?_ | refine zbx rfl ?_ | refine zbH rfl ?_ | refine zaj ?_ | fail); simp [hL, hxr, hlt2, h40])
  | (refine ⟨by omega, ?_⟩)
  | ((first | refine zag ?_ | refine zai ?_ | fail); simp [hL, hxr, hlt2, h40])
  | (refine zaX (hC _ (by kernel_rfl)) (hk _ ?_); clear hC hk C k; simp only [zao])
  | (refine hk _ ?_; clear hk k; simp only [zao])
  | (refine za0 rfl (by kernel_rfl) (by first | (simp [hn]; done) | (simp [hn]; omega) | fail) fun C k hC hk => ?_; simp [hL, hxr, hlt2, h40])
  | (refine zbn rfl (by simp [hL, hxr, hlt2, h40]) ?_; simp [hL, hxr, hlt2, h40])
  | (refine zbk rfl (by simp [hL, hxr, hlt2, h40]) (fun hc => ?_) (fun hc => ?_) <;> (try simp [hL, hxr, hlt2, h40] at hc) <;> (try (exfalso; omega)) <;> (try simp [hL, hxr, hlt2, h40]))
  | ((first | refine zav ?_ | refine zat ?_ | fail); simp [hL, hxr, hlt2, h40])
  | ((first | refine zaq ?_ | refine zap ?_ | fail); simp only [zao])
  | (refine zbb ?_; simp [zao])
  | (refine ⟨?_, by omega⟩)
  | (refine ⟨fun hc => ?_, fun hc => ?_⟩ <;> (try (exfalso; omega)))
  | (intro hc <;> (try (exfalso; omega))))
     refine LoopW.next ⟨(i + 1, n), by omega, by omega⟩ (by show ts.length - (i + 1) < ts.length - i; omega) ?_
     exact (Wk.cut rfl (by simp [hn, St.lp]) (by simp [wkO, St.lp, zaa, getK, Ob.under, D.under, zad, zae]) (by simp [wkU, St.lp, zam, zaa, getK, D.under]) (by simp [wkE, St.lp, zam, zaa, getK] <;> (try (intros; simp_all; done)) <;> (try (intros; omega)) <;> (try grind)))
    obtain ⟨hot, hi1⟩ := hopen i t hx h40
    apply zkO (S := { n := 154, env := [(1, .u (.int .i64 wh)), (2, .ptr 0 0), (5, .u (.bool true)), (8, .u (.sl rows)), (11, .u (.int .i64 ((n : Int) + 1))), (12, .u (.int .i64 i))], obs := [(0, .box [.u (.int .i64 e.op), .u (.int .i64 e.n), .u (.int .i64 e.unit), .u (.str e.s), .u (.sl (e.args.map Exp.row))])], next := 1 })
    case main =>
     intro key
     rcases Nat.eq_zero_or_pos i with hz | hz
     ·have hz3 : ¬ 0 < (i : Int) := by omega
      have hz4 : ¬ 0 < i := by omega
      repeat' (first
  | (refine zge _ ?_ key; refine Wk.cut rfl ?_ ?_ ?_ ?_; all_goals (first | (simp [hn]; done) | (simp [wkO, zaa, getK, zab, zac, Ob.under, D.under, zad, zae]; done) | (simp [wkU, zam, zaa, getK, D.under]; done) | (simp [wkE, zam, zaa, getK]; done) | fail))
  | ((first | refine zaf ?_ | refine zaO rfl ?_ | refine za3 rfl ?_ | refine zbx rfl ?_ | refine zbH rfl ?_ | refine zaj ?_ | fail); simp [hL, hxr, hlt2, h40, hz3, hz4])
  | (refine ⟨by omega, ?_⟩)
  | ((first | refine zag ?_ | refine zai ?_ | fail); simp [hL, hxr, hlt2, h40, hz3, hz4])
  | (refine zaX (hC _ (by kernel_rfl)) (hk _ ?_); clear hC hk C k; simp only [zao])
  | (refine hk _ ?_; clear hk k; simp only [zao])
  | (refine za0 rfl (by kernel_rfl) (by first | (simp [hn]; done) | (simp [hn]; omega) | fail) fun C k hC hk => ?_; simp [hL, hxr, hlt2, h40, hz3, hz4])
  | (refine zbn rfl (by simp [hL, hxr, hlt2, h40, hz3, hz4]) ?_; simp [hL, hxr, hlt2, h40, hz3, hz4])
  | (refine zbk rfl (by simp [hL, hxr, hlt2, h40, hz3, hz4]) (fun hc => ?_) (fun hc => ?_) <;> (try simp [hL, hxr, hlt2, h40, hz3, hz4] at hc) <;> (try (exfalso; omega)) <;> (try simp [hL, hxr, hlt2, h40, hz3, hz4]))
  | ((first | refine zav ?_ | refine zat ?_ | fail); simp [hL, hxr, hlt2, h40, hz3, hz4])
  | ((first | refine zaq ?_ | refine zap ?_ | fail); simp only [zao])
  | (refine zbb ?_; simp [zao])
  | (refine ⟨?_, by omega⟩)
  | (refine ⟨fun hc => ?_, fun hc => ?_⟩ <;> (try (exfalso; omega)))
  | (intro hc <;> (try (exfalso; omega)))
  | fail)
     ·have hz2 : 0 < (i : Int) := by omega
      obtain ⟨j, hj⟩ : ∃ j, i = j + 1 := ⟨i - 1, by omega⟩
      obtain ⟨u, hu⟩ : ∃ u, ts[j]? = some u := ⟨_, List.getElem?_eq_getElem (by omega)⟩
      have hur := hget j u hu
      have hz5 : 0 < i := hz
      have hj1 : (i : Int) - 1 = j := by omega
      have hj2 : (j : Int) < ts.length := by omega
      by_cases hm1 : u.text = [109, 105, 110]
      ·repeat' (first
  | ((first | refine zaf ?_ | refine zaO rfl ?_ | refine za3 rfl ?_ | refine zbx rfl ?_ | refine zbH rfl ?_ | refine zaj ?_ | fail); simp [hL, hxr, hlt2, h40, hz2, hz5, hur, hj1, hj2, hm1])
  | (refine ⟨by omega, ?_⟩)
  | ((first | refine zag ?_ | refine zai ?_ | fail); simp [hL, hxr, hlt2, h40, hz2, hz5, hur, hj1, hj2, hm1])
  | (refine zaX (hC _ (by kernel_rfl)) (hk _ ?_); clear hC hk C k; simp only [zao])
  | (refine hk _ ?_; clear hk k; simp only [zao])
  | (refine za0 rfl (by kernel_rfl) (by first | (simp [hn]; done) | (simp [hn]; omega) | fail) fun C k hC hk => ?_; simp [hL, hxr, hlt2, h40, hz2, hz5, hur, hj1, hj2, hm1])
  | (refine zbn rfl (by simp [hL, hxr, hlt2, h40, hz2, hz5, hur, hj1, hj2, hm1]) ?_; simp [hL, hxr, hlt2, h40, hz2, hz5, hur, hj1, hj2, hm1])
  | (refine zbk rfl (by simp [hL, hxr, hlt2, h40, hz2, hz5, hur, hj1, hj2, hm1]) (fun hc => ?_) (fun hc => ?_) <;> (try simp [hL, hxr, hlt2, h40, hz2, hz5, hur, hj1, hj2, hm1] at hc) <;> (try (exfalso; omega)) <;> (try simp [hL, hxr, hlt2, h40, hz2, hz5, hur, hj1, hj2, hm1]))
  | ((first | refine zav ?_ | refine zat ?_ | fail); simp [hL, hxr, hlt2, h40, hz2, hz5, hur, hj1, hj2, hm1])
  | ((first | refine zaq ?_ | refine zap ?_ | fail); simp only [zao])
  | (refine zbb ?_; simp [zao])
  | (refine ⟨?_, by omega⟩)
  | (refine ⟨fun hc => ?_, fun hc => ?_⟩ <;> (try (exfalso; omega)))
  | (intro hc <;> (try (exfalso; omega))))
       refine LoopW.next ⟨(i + 1, n), by omega, by omega⟩ (by show ts.length - (i + 1) < ts.length - i; omega) ?_
       exact (Wk.cut rfl (by simp [hn, St.lp]) (by simp [wkO, St.lp, zaa, getK, Ob.under, D.under, zad, zae]) (by simp [wkU, St.lp, zam, zaa, getK, D.under]) (by simp [wkE, St.lp, zam, zaa, getK] <;> (try (intros; simp_all; done)) <;> (try (intros; omega)) <;> (try grind)))
      ·by_cases hm2 : u.text = [109, 97, 120]
       ·repeat' (first
  | ((first | refine zaf ?_ | refine zaO rfl ?_ | refine za3 rfl ?_ | refine zbx rfl ?_ | refine zbH rfl ?_ | refine zaj ?_ | fail); simp [hL, hxr, hlt2, h40, hz2, hz5, hur, hj1, hj2, hm1, hm2])
  | (refine ⟨by omega, ?_⟩)
  | ((first | refine zag ?_ | refine zai ?_ | fail); simp [hL, hxr, hlt2, h40, hz2, hz5, hur, hj1, hj2, hm1, hm2])
  | (refine zaX (hC _ (by kernel_rfl)) (hk _ ?_); clear hC hk C k; simp only [zao])
  | (refine hk _ ?_; clear hk k; simp only [zao])
  | (refine za0 rfl (by kernel_rfl) (by first | (simp [hn]; done) | (simp [hn]; omega) | fail) fun C k hC hk => ?_; simp [hL, hxr, hlt2, h40, hz2, hz5, hur, hj1, hj2, hm1, hm2])
  | (refine zbn rfl (by simp [hL, hxr, hlt2, h40, hz2, hz5, hur, hj1, hj2, hm1, hm2]) ?_; simp [hL, hxr, hlt2, h40, hz2, hz5, hur, hj1, hj2, hm1, hm2])
  | (refine zbk rfl (by simp [hL, hxr, hlt2, h40, hz2, hz5, hur, hj1, hj2, hm1, hm2]) (fun hc => ?_) (fun hc => ?_) <;> (try simp [hL, hxr, hlt2, h40, hz2, hz5, hur, hj1, hj2, hm1, hm2] at hc) <;> (try (exfalso; omega)) <;> (try simp [hL, hxr, hlt2, h40, hz2, hz5, hur, hj1, hj2, hm1, hm2]))
  | ((first | refine zav ?_ | refine zat ?_ | fail); simp [hL, hxr, hlt2, h40, hz2, hz5, hur, hj1, hj2, hm1, hm2])
  | ((first | refine zaq ?_ | refine zap ?_ | fail); simp only [zao])
  | (refine zbb ?_; simp [zao])
  | (refine ⟨?_, by omega⟩)
  | (refine ⟨fun hc => ?_, fun hc => ?_⟩ <;> (try (exfalso; omega)))
  | (intro hc <;> (try (exfalso; omega))))
        refine LoopW.next ⟨(i + 1, n), by omega, by omega⟩ (by show ts.length - (i + 1) < ts.length - i; omega) ?_
        exact (Wk.cut rfl (by simp [hn, St.lp]) (by simp [wkO, St.lp, zaa, getK, Ob.under, D.under, zad, zae]) (by simp [wkU, St.lp, zam, zaa, getK, D.under]) (by simp [wkE, St.lp, zam, zaa, getK] <;> (try (intros; simp_all; done)) <;> (try (intros; omega)) <;> (try grind)))
       ·repeat' (first
  | (refine zge _ ?_ key; refine Wk.cut rfl ?_ ?_ ?_ ?_; all_goals (first | (simp [hn]; done) | (simp [wkO, zaa, getK, zab, zac, Ob.under, D.under, zad, zae]; done) | (simp [wkU, zam, zaa, getK, D.under]; done) | (simp [wkE, zam, zaa, getK]; done) | fail))
  | ((first | refine zaf ?_ | refine zaO rfl ?_ | refine za3 rfl ?_ | refine zbx rfl ?_ | refine zbH rfl ?_ | refine zaj ?_ | fail); simp [hL, hxr, hlt2, h40, hz2, hz5, hur, hj1, hj2, hm1, hm2])
  | (refine ⟨by omega, ?_⟩)
  | ((first | refine zag ?_ | refine zai ?_ | fail); simp [hL, hxr, hlt2, h40, hz2, hz5, hur, hj1, hj2, hm1, hm2])
  | (refine zaX (hC _ (by kernel_rfl)) (hk _ ?_); clear hC hk C k; simp only [zao])
  | (refine hk _ ?_; clear hk k; simp only [zao])
  | (refine za0 rfl (by kernel_rfl) (by first | (simp [hn]; done) | (simp [hn]; omega) | fail) fun C k hC hk => ?_; simp [hL, hxr, hlt2, h40, hz2, hz5, hur, hj1, hj2, hm1, hm2])
  | (refine zbn rfl (by simp [hL, hxr, hlt2, h40, hz2, hz5, hur, hj1, hj2, hm1, hm2]) ?_; simp [hL, hxr, hlt2, h40, hz2, hz5, hur, hj1, hj2, hm1, hm2])
  | (refine zbk rfl (by simp [hL, hxr, hlt2, h40, hz2, hz5, hur, hj1, hj2, hm1, hm2]) (fun hc => ?_) (fun hc => ?_) <;> (try simp [hL, hxr, hlt2, h40, hz2, hz5, hur, hj1, hj2, hm1, hm2] at hc) <;> (try (exfalso; omega)) <;> (try simp [hL, hxr, hlt2, h40, hz2, hz5, hur, hj1, hj2, hm1, hm2]))
  | ((first | refine zav ?_ | refine zat ?_ | fail); simp [hL, hxr, hlt2, h40, hz2, hz5, hur, hj1, hj2, hm1, hm2])
  | ((first | refine zaq ?_ | refine zap ?_ | fail); simp only [zao])
  | (refine zbb ?_; simp [zao])
  | (refine ⟨?_, by omega⟩)
  | (refine ⟨fun hc => ?_, fun hc => ?_⟩ <;> (try (exfalso; omega)))
  | (intro hc <;> (try (exfalso; omega)))
  | fail)
    case key =>
    by_cases hnm : (n : Int) = zpy .i64 wh 7
    case neg =>
     repeat' (first
  | ((first | refine zaf ?_ | refine zaO rfl ?_ | refine za3 rfl ?_ | refine zbx rfl ?_ | refine zbH rfl ?_ | refine zaj ?_ | fail); simp [hL, hnm])
  | (refine ⟨by omega, ?_⟩)
  | ((first | refine zag ?_ | refine zai ?_ | fail); simp [hL, hnm])
  | (refine zaX (hC _ (by kernel_rfl)) (hk _ ?_); clear hC hk C k; simp only [zao])
  | (refine hk _ ?_; clear hk k; simp only [zao])
  | (refine za0 rfl (by kernel_rfl) (by first | (simp [hn]; done) | (simp [hn]; omega) | fail) fun C k hC hk => ?_; simp [hL, hnm])
  | (refine zbn rfl (by simp [hL, hnm]) ?_; simp [hL, hnm])
  | (refine zbk rfl (by simp [hL, hnm]) (fun hc => ?_) (fun hc => ?_) <;> (try simp [hL, hnm] at hc) <;> (try (exfalso; omega)) <;> (try simp [hL, hnm]))
  | ((first | refine zav ?_ | refine zat ?_ | fail); simp [hL, hnm])
  | ((first | refine zaq ?_ | refine zap ?_ | fail); simp only [zao])
  | (refine zbb ?_; simp [zao])
  | (refine ⟨?_, by omega⟩)
  | (refine ⟨fun hc => ?_, fun hc => ?_⟩ <;> (try (exfalso; omega)))
  | (intro hc <;> (try (exfalso; omega))))
     refine LoopW.next ⟨(i + 1, n + 1), by omega, by omega⟩ (by show ts.length - (i + 1) < ts.length - i; omega) ?_
     exact (Wk.cut rfl (by simp [hn, St.lp]) (by simp [wkO, St.lp, zaa, getK, Ob.under, D.under, zad, zae]) (by simp [wkU, St.lp, zam, zaa, getK, D.under]) (by simp [wkE, St.lp, zam, zaa, getK] <;> (try (intros; simp_all; done)) <;> (try (intros; omega)) <;> (try grind)))
    repeat' (first
  | ((first | refine zaf ?_ | refine zaO rfl ?_ | refine za3 rfl ?_ | refine zbx rfl ?_ | refine zbH rfl ?_ | refine zaj ?_ | fail); simp [hL, hnm])
  | (refine ⟨by omega, ?_⟩)
  | ((first | refine zag ?_ | refine zai ?_ | fail); simp [hL, hnm])
  | (refine zaX (hC _ (by kernel_rfl)) (hk _ ?_); clear hC hk C k; simp only [zao])
  | (refine hk _ ?_; clear hk k; simp only [zao])
  | (refine za0 rfl (by kernel_rfl) (by first | (simp [hn]; done) | (simp [hn]; omega) | fail) fun C k hC hk => ?_; simp [hL, hnm])
  | (refine zbn rfl (by simp [hL, hnm]) ?_; simp [hL, hnm])
  | (refine zbk rfl (by simp [hL, hnm]) (fun hc => ?_) (fun hc => ?_) <;> (try simp [hL, hnm] at hc) <;> (try (exfalso; omega)) <;> (try simp [hL, hnm]))
  | ((first | refine zav ?_ | refine zat ?_ | fail); simp [hL, hnm])
  | ((first | refine zaq ?_ | refine zap ?_ | fail); simp only [zao])
  | (refine zbb ?_; simp [zao])
  | (refine ⟨?_, by omega⟩)
  | (refine ⟨fun hc => ?_, fun hc => ?_⟩ <;> (try (exfalso; omega)))
  | (intro hc <;> (try (exfalso; omega))))
    refine zcW (α := { x : Nat × Int // i ≤ x.1 ∧ x.1 < ts.length ∧ 1 - ((x.1 : Int) - i) ≤ x.2 ∧ x.2 ≤ 1 + ((x.1 : Int) - i) ∧ (x.1 = i → x.2 = 1) }) [2, 5, 8, 12] (fun x => [(13, .u (.int .i64 x.1.2)), (14, .u (.int .i64 x.1.1))])
     (fun _ => [(0, .box [.u (.int .i64 e.op), .u (.int .i64 e.n), .u (.int .i64 e.unit), .u (.str e.s), .u (.sl (e.args.map Exp.row))])]) 1 (fun x => ts.length - x.1.1) ⟨(i, 1), by omega, by omega, by omega, by omega, fun _ => rfl⟩ ?_ ?_
    ·exact (Wk.cut rfl (by simp [hn, St.lp]) (by simp [wkO, St.lp, zaa, getK, Ob.under, D.under, zad, zae]) (by simp [wkU, St.lp, zam, zaa, getK, D.under]) (by simp [wkE, St.lp, zam, zaa, getK] <;> (try (intros; simp_all; done)) <;> (try (intros; omega)) <;> (try grind)))
    rintro ⟨⟨k, o⟩, g1, g2, g3, g4, g5⟩
    simp only at g1 g2 g3 g4 g5
    simp [St.lp, St.only, zam, zaa, getK]
    by_cases hgo : 0 < o ∧ k + 1 < ts.length
    ·obtain ⟨ho, hk1⟩ := hgo
     have hk2 : (k : Int) + 1 < ts.length := by omega
     obtain ⟨u, hu⟩ : ∃ u, ts[k + 1]? = some u := ⟨_, List.getElem?_eq_getElem hk1⟩
     have hur := hget (k + 1) u hu
     by_cases hu1 : u.text = [40]
     ·repeat' (first
  | ((first | refine zaf ?_ | refine zaO rfl ?_ | refine za3 rfl ?_ | refine zbx rfl ?_ | refine zbH rfl ?_ | refine zaj ?_ | fail); simp [hL, ho, hk2, hur, hu1])
  | (refine ⟨by omega, ?_⟩)
  | ((first | refine zag ?_ | refine zai ?_ | fail); simp [hL, ho, hk2, hur, hu1])
  | (refine zaX (hC _ (by kernel_rfl)) (hk _ ?_); clear hC hk C k; simp only [zao])
  | (refine hk _ ?_; clear hk k; simp only [zao])
  | (refine za0 rfl (by kernel_rfl) (by first | (simp [hn]; done) | (simp [hn]; omega) | fail) fun C k hC hk => ?_; simp [hL, ho, hk2, hur, hu1])
  | (refine zbn rfl (by simp [hL, ho, hk2, hur, hu1]) ?_; simp [hL, ho, hk2, hur, hu1])
  | (refine zbk rfl (by simp [hL, ho, hk2, hur, hu1]) (fun hc => ?_) (fun hc => ?_) <;> (try simp [hL, ho, hk2, hur, hu1] at hc) <;> (try (exfalso; omega)) <;> (try simp [hL, ho, hk2, hur, hu1]))
  | ((first | refine zav ?_ | refine zat ?_ | fail); simp [hL, ho, hk2, hur, hu1])
  | ((first | refine zaq ?_ | refine zap ?_ | fail); simp only [zao])
  | (refine zbb ?_; simp [zao])
  | (refine ⟨?_, by omega⟩)
  | (refine ⟨fun hc => ?_, fun hc => ?_⟩ <;> (try (exfalso; omega)))
  | (intro hc <;> (try (exfalso; omega))))
      refine LoopW.next ⟨(k + 1, o + 1), by omega, by omega, by omega, by omega, by omega⟩ (by show ts.length - (k + 1) < ts.length - k; omega) ?_
      exact (Wk.cut rfl (by simp [hn, St.lp]) (by simp [wkO, St.lp, zaa, getK, Ob.under, D.under, zad, zae]) (by simp [wkU, St.lp, zam, zaa, getK, D.under]) (by simp [wkE, St.lp, zam, zaa, getK] <;> (try (intros; simp_all; done)) <;> (try (intros; omega)) <;> (try grind)))
     ·by_cases hu2 : u.text = [41]
      ·repeat' (first
  | ((first | refine zaf ?_ | refine zaO rfl ?_ | refine za3 rfl ?_ | refine zbx rfl ?_ | refine zbH rfl ?_ | refine zaj ?_ | fail); simp [hL, ho, hk2, hur, hu1, hu2])
  | (refine ⟨by omega, ?_⟩)
  | ((first | refine zag ?_ | refine zai ?_ | fail); simp [hL, ho, hk2, hur, hu1, hu2])
  | (refine zaX (hC _ (by kernel_rfl)) (hk _ ?_); clear hC hk C k; simp only [zao])
  | (refine hk _ ?_; clear hk k; simp only [zao])
  | (refine za0 rfl (by kernel_rfl) (by first | (simp [hn]; done) | (simp [hn]; omega) | fail) fun C k hC hk => ?_; simp [hL, ho, hk2, hur, hu1, hu2])
  | (refine zbn rfl (by simp [hL, ho, hk2, hur, hu1, hu2]) ?_; simp [hL, ho, hk2, hur, hu1, hu2])
  | (refine zbk rfl (by simp [hL, ho, hk2, hur, hu1, hu2]) (fun hc => ?_) (fun hc => ?_) <;> (try simp [hL, ho, hk2, hur, hu1, hu2] at hc) <;> (try (exfalso; omega)) <;> (try simp [hL, ho, hk2, hur, hu1, hu2]))
  | ((first | refine zav ?_ | refine zat ?_ | fail); simp [hL, ho, hk2, hur, hu1, hu2])
  | ((first | refine zaq ?_ | refine zap ?_ | fail); simp only [zao])
  | (refine zbb ?_; simp [zao])
  | (refine ⟨?_, by omega⟩)
  | (refine ⟨fun hc => ?_, fun hc => ?_⟩ <;> (try (exfalso; omega)))
  | (intro hc <;> (try (exfalso; omega))))
       refine LoopW.next ⟨(k + 1, o - 1), by omega, by omega, by omega, by omega, by omega⟩ (by show ts.length - (k + 1) < ts.length - k; omega) ?_
       exact (Wk.cut rfl (by simp [hn, St.lp]) (by simp [wkO, St.lp, zaa, getK, Ob.under, D.under, zad, zae]) (by simp [wkU, St.lp, zam, zaa, getK, D.under]) (by simp [wkE, St.lp, zam, zaa, getK] <;> (try (intros; simp_all; done)) <;> (try (intros; omega)) <;> (try grind)))
      ·repeat' (first
  | ((first | refine zaf ?_ | refine zaO rfl ?_ | refine za3 rfl ?_ | refine zbx rfl ?_ | refine zbH rfl ?_ | refine zaj ?_ | fail); simp [hL, ho, hk2, hur, hu1, hu2])
  | (refine ⟨by omega, ?_⟩)
  | ((first | refine zag ?_ | refine zai ?_ | fail); simp [hL, ho, hk2, hur, hu1, hu2])
  | (refine zaX (hC _ (by kernel_rfl)) (hk _ ?_); clear hC hk C k; simp only [zao])
  | (refine hk _ ?_; clear hk k; simp only [zao])
  | (refine za0 rfl (by kernel_rfl) (by first | (simp [hn]; done) | (simp [hn]; omega) | fail) fun C k hC hk => ?_; simp [hL, ho, hk2, hur, hu1, hu2])
  | (refine zbn rfl (by simp [hL, ho, hk2, hur, hu1, hu2]) ?_; simp [hL, ho, hk2, hur, hu1, hu2])
  | (refine zbk rfl (by simp [hL, ho, hk2, hur, hu1, hu2]) (fun hc => ?_) (fun hc => ?_) <;> (try simp [hL, ho, hk2, hur, hu1, hu2] at hc) <;> (try (exfalso; omega)) <;> (try simp [hL, ho, hk2, hur, hu1, hu2]))
  | ((first | refine zav ?_ | refine zat ?_ | fail); simp [hL, ho, hk2, hur, hu1, hu2])
  | ((first | refine zaq ?_ | refine zap ?_ | fail); simp only [zao])
  | (refine zbb ?_; simp [zao])
  | (refine ⟨?_, by omega⟩)
  | (refine ⟨fun hc => ?_, fun hc => ?_⟩ <;> (try (exfalso; omega)))
  | (intro hc <;> (try (exfalso; omega))))
       refine LoopW.next ⟨(k + 1, o), by omega, by omega, by omega, by omega, by omega⟩ (by show ts.length - (k + 1) < ts.length - k; omega) ?_
       exact (Wk.cut rfl (by simp [hn, St.lp]) (by simp [wkO, St.lp, zaa, getK, Ob.under, D.under, zad, zae]) (by simp [wkU, St.lp, zam, zaa, getK, D.under]) (by simp [wkE, St.lp, zam, zaa, getK] <;> (try (intros; simp_all; done)) <;> (try (intros; omega)) <;> (try grind)))
    ·have hik : i < k := by
      rcases Nat.lt_or_ge i k with h | h
      ·exact h
      ·have hki : k = i := by omega
       exact absurd ⟨by rw [g5 hki]; decide, by omega⟩ hgo
     have hcr : rows.take i ++ ((rows.take k).drop (i + 1) ++ rows.drop (k + 1)) = (zfP ts i k).map zke := by rw [← hrow]; exact znU ts i k
     have htx2 := zkV (zfP ts i k) (hB i k) (by unfold zfP; simp only [List.length_append, List.length_take, List.length_drop]; omega)
     have htx2 : Fun Tryz.prog 33 [.u (.sl ((zfP ts i k).map zke))] (· = .u (.str (zbg (zaZ (zfP ts i k))))) := htx2
     have hc2 := hcut i k t hx hot hik g2
     generalize zbg (zaZ (zfP ts i k)) = TT at *
     have hpp := zf3 TT
     obtain ⟨y, p, f, hpy⟩ : ∃ y p f, zdY TT = (y, p, f) := ⟨_, _, _, rfl⟩
     have hsm : zj9 y e := zi7 y e
     have hyne : f = 0 → eqB y e = false := fun hf => zdJ (hc2 y p (by rw [hpy, hf]))
     rw [hpy] at hpp
     unfold zhe at hpp
     rw [zj9, Exp.row_eq, Exp.row_eq] at hsm
     generalize eqB y e = qe at *
     have hil : (i : Int) ≤ ts.length := by omega
     have hik2 : (i : Int) + 1 ≤ k := by omega
     have hkl : (k : Int) ≤ ts.length := by omega
     have hkl2 : (k : Int) + 1 ≤ ts.length := by omega
     have hone : zew (rowsD rows) := by
      rw [← hrow, zgJ]
      intro x _
      rfl
     have ho1 : zhE 4 rows := fun r hr => by rw [← hrow] at hr; obtain ⟨t, _, rfl⟩ := List.mem_map.1 hr; rfl
     have hA1 := zjF i rows ho1
     have hA2 := zer i rows hone
     have hB1 := zjG (i + 1) (rows.take k) (zjF k rows ho1)
     have hB2 := zes (i + 1) (rows.take k) (zer k rows hone)
     have hC1 := zjG (k + 1) rows ho1
     have hC2 := zes (k + 1) rows hone
     have hmi : min i ts.length = i := by omega
     have hmk : min k ts.length = k := by omega
     have hcrD : rowsD (rows.take i) ++ (rowsD ((rows.take k).drop (i + 1)) ++ rowsD (rows.drop (k + 1))) = rowsD ((zfP ts i k).map zke) := by rw [← hcr, rowsD_append, rowsD_append]
     have hR2l : ((zfP ts i k).map zke).length = i + (k - (i + 1)) + (ts.length - (k + 1)) := by
      rw [List.length_map]
      unfold zfP
      simp only [List.length_append, List.length_take, List.length_drop]
      omega
     have htkc : ((zfP ts i k).map zke).take (i + (k - (i + 1)) + (ts.length - (k + 1))) = (zfP ts i k).map zke := List.take_of_length_le (by omega)
     generalize (zfP ts i k).map zke = R2 at *
     have hi1t : ((i : Int) + 1).toNat = i + 1 := by omega
     have hk1t : ((k : Int) + 1).toNat = k + 1 := by omega
     by_cases ho : 0 < o
     ·have hk2 : ¬ (k : Int) + 1 < ts.length := fun h => hgo ⟨ho, by omega⟩
      repeat' (first
  | ((first | refine zaf ?_ | refine zaO rfl ?_ | refine za3 rfl ?_ | refine zbx rfl ?_ | refine zbH rfl ?_ | refine zaj ?_ | fail); simp [hL, ho, hk2, hil, hik2, hkl, hkl2, ho1, hone, hA1, hA2, hB1, hB2, hC1, hC2, hmi, hmk, hi1t, hk1t, hcrD, htkc, hR2l, del])
  | (refine ⟨by omega, ?_⟩)
  | ((first | refine zag ?_ | refine zai ?_ | fail); simp [hL, ho, hk2, hil, hik2, hkl, hkl2, ho1, hone, hA1, hA2, hB1, hB2, hC1, hC2, hmi, hmk, hi1t, hk1t, hcrD, htkc, hR2l, del])
  | (refine zaX (hC _ (by kernel_rfl)) (hk _ ?_); clear hC hk C k; simp only [zao])
  | (refine hk _ ?_; clear hk k; simp only [zao])
  | (refine za0 rfl (by kernel_rfl) (by first | (simp [hn]; done) | (simp [hn]; omega) | fail) fun C k hC hk => ?_; simp [hL, ho, hk2, hil, hik2, hkl, hkl2, ho1, hone, hA1, hA2, hB1, hB2, hC1, hC2, hmi, hmk, hi1t, hk1t, hcrD, htkc, hR2l, del])
  | (refine zbn rfl (by simp [hL, ho, hk2, hil, hik2, hkl, hkl2, ho1, hone, hA1, hA2, hB1, hB2, hC1, hC2, hmi, hmk, hi1t, hk1t, hcrD, htkc, hR2l, del]) ?_; simp [hL, ho, hk2, hil, hik2, hkl, hkl2, ho1, hone, hA1, hA2, hB1, hB2, hC1, hC2, hmi, hmk, hi1t, hk1t, hcrD, htkc, hR2l, del])
  | (refine zbk rfl (by simp [hL, ho, hk2, hil, hik2, hkl, hkl2, ho1, hone, hA1, hA2, hB1, hB2, hC1, hC2, hmi, hmk, hi1t, hk1t, hcrD, htkc, hR2l, del]) (fun hc => ?_) (fun hc => ?_) <;> (try simp [hL, ho, hk2, hil, hik2, hkl, hkl2, ho1, hone, hA1, hA2, hB1, hB2, hC1, hC2, hmi, hmk, hi1t, hk1t, hcrD, htkc, hR2l, del] at hc) <;> (try (exfalso; omega)) <;> (try simp [hL, ho, hk2, hil, hik2, hkl, hkl2, ho1, hone, hA1, hA2, hB1, hB2, hC1, hC2, hmi, hmk, hi1t, hk1t, hcrD, htkc, hR2l, del]))
  | ((first | refine zav ?_ | refine zat ?_ | fail); simp [hL, ho, hk2, hil, hik2, hkl, hkl2, ho1, hone, hA1, hA2, hB1, hB2, hC1, hC2, hmi, hmk, hi1t, hk1t, hcrD, htkc, hR2l, del])
  | ((first | refine zaq ?_ | refine zap ?_ | fail); simp only [zao])
  | (refine zbb ?_; simp [zao])
  | (refine ⟨?_, by omega⟩)
  | (refine ⟨fun hc => ?_, fun hc => ?_⟩ <;> (try (exfalso; omega)))
  | (intro hc <;> (try (exfalso; omega)))
  | (refine CallV.fun_ (htx2) (by first | rfl | fail) (by first | simp [hL, ho, hk2, hil, hik2, hkl, hkl2, ho1, hone, hA1, hA2, hB1, hB2, hC1, hC2, hmi, hmk, hi1t, hk1t, hcrD, htkc, hR2l, del] <;> rfl | fail) ?_ <;> (try simp [hL, ho, hk2, hil, hik2, hkl, hkl2, ho1, hone, hA1, hA2, hB1, hB2, hC1, hC2, hmi, hmk, hi1t, hk1t, hcrD, htkc, hR2l, del]))
  | (refine CallP.fE (htx2) (by first | rfl | fail) (by first | simp [hL, ho, hk2, hil, hik2, hkl, hkl2, ho1, hone, hA1, hA2, hB1, hB2, hC1, hC2, hmi, hmk, hi1t, hk1t, hcrD, htkc, hR2l, del] <;> rfl | fail) ?_; (try simp [hL, ho, hk2, hil, hik2, hkl, hkl2, ho1, hone, hA1, hA2, hB1, hB2, hC1, hC2, hmi, hmk, hi1t, hk1t, hcrD, htkc, hR2l, del]))
  | (refine CallV.fun_ (hpp) (by first | rfl | fail) (by first | simp [hL, ho, hk2, hil, hik2, hkl, hkl2, ho1, hone, hA1, hA2, hB1, hB2, hC1, hC2, hmi, hmk, hi1t, hk1t, hcrD, htkc, hR2l, del] <;> rfl | fail) ?_ <;> (try simp [hL, ho, hk2, hil, hik2, hkl, hkl2, ho1, hone, hA1, hA2, hB1, hB2, hC1, hC2, hmi, hmk, hi1t, hk1t, hcrD, htkc, hR2l, del]))
  | (refine CallP.fE (hpp) (by first | rfl | fail) (by first | simp [hL, ho, hk2, hil, hik2, hkl, hkl2, ho1, hone, hA1, hA2, hB1, hB2, hC1, hC2, hmi, hmk, hi1t, hk1t, hcrD, htkc, hR2l, del] <;> rfl | fail) ?_; (try simp [hL, ho, hk2, hil, hik2, hkl, hkl2, ho1, hone, hA1, hA2, hB1, hB2, hC1, hC2, hmi, hmk, hi1t, hk1t, hcrD, htkc, hR2l, del]))
  | (refine CallV.fun_ (hsm) (by first | rfl | fail) (by first | simp [hL, ho, hk2, hil, hik2, hkl, hkl2, ho1, hone, hA1, hA2, hB1, hB2, hC1, hC2, hmi, hmk, hi1t, hk1t, hcrD, htkc, hR2l, del] <;> rfl | fail) ?_ <;> (try simp [hL, ho, hk2, hil, hik2, hkl, hkl2, ho1, hone, hA1, hA2, hB1, hB2, hC1, hC2, hmi, hmk, hi1t, hk1t, hcrD, htkc, hR2l, del]))
  | (refine CallP.fE (hsm) (by first | rfl | fail) (by first | simp [hL, ho, hk2, hil, hik2, hkl, hkl2, ho1, hone, hA1, hA2, hB1, hB2, hC1, hC2, hmi, hmk, hi1t, hk1t, hcrD, htkc, hR2l, del] <;> rfl | fail) ?_; (try simp [hL, ho, hk2, hil, hik2, hkl, hkl2, ho1, hone, hA1, hA2, hB1, hB2, hC1, hC2, hmi, hmk, hi1t, hk1t, hcrD, htkc, hR2l, del]))
  | (refine CallV.fun_ (hs) (by first | rfl | fail) (by first | simp [hL, ho, hk2, hil, hik2, hkl, hkl2, ho1, hone, hA1, hA2, hB1, hB2, hC1, hC2, hmi, hmk, hi1t, hk1t, hcrD, htkc, hR2l, del] <;> rfl | fail) ?_ <;> (try simp [hL, ho, hk2, hil, hik2, hkl, hkl2, ho1, hone, hA1, hA2, hB1, hB2, hC1, hC2, hmi, hmk, hi1t, hk1t, hcrD, htkc, hR2l, del]))
  | (refine CallP.fE (hs) (by first | rfl | fail) (by first | simp [hL, ho, hk2, hil, hik2, hkl, hkl2, ho1, hone, hA1, hA2, hB1, hB2, hC1, hC2, hmi, hmk, hi1t, hk1t, hcrD, htkc, hR2l, del] <;> rfl | fail) ?_; (try simp [hL, ho, hk2, hil, hik2, hkl, hkl2, ho1, hone, hA1, hA2, hB1, hB2, hC1, hC2, hmi, hmk, hi1t, hk1t, hcrD, htkc, hR2l, del])))
      all_goals refine EndW.here ?_
      all_goals (refine EndOK.val (.inr rfl) ?_; simp [zaJ, zah, zau, Tryz.results8])
      all_goals simp_all
     ·repeat' (first
  | ((first | refine zaf ?_ | refine zaO rfl ?_ | refine za3 rfl ?_ | refine zbx rfl ?_ | refine zbH rfl ?_ | refine zaj ?_ | fail); simp [hL, ho, hil, hik2, hkl, hkl2, ho1, hone, hA1, hA2, hB1, hB2, hC1, hC2, hmi, hmk, hi1t, hk1t, hcrD, htkc, hR2l, del])
  | (refine ⟨by omega, ?_⟩)
  | ((first | refine zag ?_ | refine zai ?_ | fail); simp [hL, ho, hil, hik2, hkl, hkl2, ho1, hone, hA1, hA2, hB1, hB2, hC1, hC2, hmi, hmk, hi1t, hk1t, hcrD, htkc, hR2l, del])
  | (refine zaX (hC _ (by kernel_rfl)) (hk _ ?_); clear hC hk C k; simp only [zao])
  | (refine hk _ ?_; clear hk k; simp only [zao])
  | (refine za0 rfl (by kernel_rfl) (by first | (simp [hn]; done) | (simp [hn]; omega) | fail) fun C k hC hk => ?_; simp [hL, ho, hil, hik2, hkl, hkl2, ho1, hone, hA1, hA2, hB1, hB2, hC1, hC2, hmi, hmk, hi1t, hk1t, hcrD, htkc, hR2l, del])
  | (refine zbn rfl (by simp [hL, ho, hil, hik2, hkl, hkl2, ho1, hone, hA1, hA2, hB1, hB2, hC1, hC2, hmi, hmk, hi1t, hk1t, hcrD, htkc, hR2l, del]) ?_; simp [hL, ho, hil, hik2, hkl, hkl2, ho1, hone, hA1, hA2, hB1, hB2, hC1, hC2, hmi, hmk, hi1t, hk1t, hcrD, htkc, hR2l, del])
  | (refine zbk rfl (by simp [hL, ho, hil, hik2, hkl, hkl2, ho1, hone, hA1, hA2, hB1, hB2, hC1, hC2, hmi, hmk, hi1t, hk1t, hcrD, htkc, hR2l, del]) (fun hc => ?_) (fun hc => ?_) <;> (try simp [hL, ho, hil, hik2, hkl, hkl2, ho1, hone, hA1, hA2, hB1, hB2, hC1, hC2, hmi, hmk, hi1t, hk1t, hcrD, htkc, hR2l, del] at hc) <;> (try (exfalso; omega)) <;> (try simp [hL, ho, hil, hik2, hkl, hkl2, ho1, hone, hA1, hA2, hB1, hB2, hC1, hC2, hmi, hmk, hi1t, hk1t, hcrD, htkc, hR2l, del]))
  | ((first | refine zav ?_ | refine zat ?_ | fail); simp [hL, ho, hil, hik2, hkl, hkl2, ho1, hone, hA1, hA2, hB1, hB2, hC1, hC2, hmi, hmk, hi1t, hk1t, hcrD, htkc, hR2l, del])
  | ((first | refine zaq ?_ | refine zap ?_ | fail); simp only [zao])
  | (refine zbb ?_; simp [zao])
  | (refine ⟨?_, by omega⟩)
  | (refine ⟨fun hc => ?_, fun hc => ?_⟩ <;> (try (exfalso; omega)))
  | (intro hc <;> (try (exfalso; omega)))
  | (refine CallV.fun_ (htx2) (by first | rfl | fail) (by first | simp [hL, ho, hil, hik2, hkl, hkl2, ho1, hone, hA1, hA2, hB1, hB2, hC1, hC2, hmi, hmk, hi1t, hk1t, hcrD, htkc, hR2l, del] <;> rfl | fail) ?_ <;> (try simp [hL, ho, hil, hik2, hkl, hkl2, ho1, hone, hA1, hA2, hB1, hB2, hC1, hC2, hmi, hmk, hi1t, hk1t, hcrD, htkc, hR2l, del]))
  | (refine CallP.fE (htx2) (by first | rfl | fail) (by first | simp [hL, ho, hil, hik2, hkl, hkl2, ho1, hone, hA1, hA2, hB1, hB2, hC1, hC2, hmi, hmk, hi1t, hk1t, hcrD, htkc, hR2l, del] <;> rfl | fail) ?_; (try simp [hL, ho, hil, hik2, hkl, hkl2, ho1, hone, hA1, hA2, hB1, hB2, hC1, hC2, hmi, hmk, hi1t, hk1t, hcrD, htkc, hR2l, del]))
  | (refine CallV.fun_ (hpp) (by first | rfl | fail) (by first | simp [hL, ho, hil, hik2, hkl, hkl2, ho1, hone, hA1, hA2, hB1, hB2, hC1, hC2, hmi, hmk, hi1t, hk1t, hcrD, htkc, hR2l, del] <;> rfl | fail) ?_ <;> (try simp [hL, ho, hil, hik2, hkl, hkl2, ho1, hone, hA1, hA2, hB1, hB2, hC1, hC2, hmi, hmk, hi1t, hk1t, hcrD, htkc, hR2l, del]))
  | (refine CallP.fE (hpp) (by first | rfl | fail) (by first | simp [hL, ho, hil, hik2, hkl, hkl2, ho1, hone, hA1, hA2, hB1, hB2, hC1, hC2, hmi, hmk, hi1t, hk1t, hcrD, htkc, hR2l, del] <;> rfl | fail) ?_; (try simp [hL, ho, hil, hik2, hkl, hkl2, ho1, hone, hA1, hA2, hB1, hB2, hC1, hC2, hmi, hmk, hi1t, hk1t, hcrD, htkc, hR2l, del]))
  | (refine CallV.fun_ (hsm) (by first | rfl | fail) (by first | simp [hL, ho, hil, hik2, hkl, hkl2, ho1, hone, hA1, hA2, hB1, hB2, hC1, hC2, hmi, hmk, hi1t, hk1t, hcrD, htkc, hR2l, del] <;> rfl | fail) ?_ <;> (try simp [hL, ho, hil, hik2, hkl, hkl2, ho1, hone, hA1, hA2, hB1, hB2, hC1, hC2, hmi, hmk, hi1t, hk1t, hcrD, htkc, hR2l, del]))
  | (refine CallP.fE (hsm) (by first | rfl | fail) (by first | simp [hL, ho, hil, hik2, hkl, hkl2, ho1, hone, hA1, hA2, hB1, hB2, hC1, hC2, hmi, hmk, hi1t, hk1t, hcrD, htkc, hR2l, del] <;> rfl | fail) ?_; (try simp [hL, ho, hil, hik2, hkl, hkl2, ho1, hone, hA1, hA2, hB1, hB2, hC1, hC2, hmi, hmk, hi1t, hk1t, hcrD, htkc, hR2l, del]))
  | (refine CallV.fun_ (hs) (by first | rfl | fail) (by first | simp [hL, ho, hil, hik2, hkl, hkl2, ho1, hone, hA1, hA2, hB1, hB2, hC1, hC2, hmi, hmk, hi1t, hk1t, hcrD, htkc, hR2l, del] <;> rfl | fail) ?_ <;> (try simp [hL, ho, hil, hik2, hkl, hkl2, ho1, hone, hA1, hA2, hB1, hB2, hC1, hC2, hmi, hmk, hi1t, hk1t, hcrD, htkc, hR2l, del]))
  | (refine CallP.fE (hs) (by first | rfl | fail) (by first | simp [hL, ho, hil, hik2, hkl, hkl2, ho1, hone, hA1, hA2, hB1, hB2, hC1, hC2, hmi, hmk, hi1t, hk1t, hcrD, htkc, hR2l, del] <;> rfl | fail) ?_; (try simp [hL, ho, hil, hik2, hkl, hkl2, ho1, hone, hA1, hA2, hB1, hB2, hC1, hC2, hmi, hmk, hi1t, hk1t, hcrD, htkc, hR2l, del])))
      all_goals refine EndW.here ?_
      all_goals (refine EndOK.val (.inr rfl) ?_; simp [zaJ, zah, zau, Tryz.results8])
      all_goals simp_all
end Go.Proofs.YthnemhfamhnfjaaGreatDoor
