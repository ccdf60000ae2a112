import Derived.Test.YthnemhfamhnfjaaGreatDoorJ7
set_option linter.all false
set_option maxRecDepth 100000
set_option maxHeartbeats 8000000
namespace Go.Proofs.YthnemhfamhnfjaaGreatDoor
open Go Go.VL
attribute [local simp] HS zdS zcz evPure opd uOf zaN St.put St.at getK binD binI binS binB nilD aggD zjm zkZ lookD lookR zdv Go.VL.nextD zdz zlv zk0 zid zc5 mkV zep zbT zb7 mapEff zfk zhO Key.kk shiftI arith unD convD zfC loadD cellsAt fieldAddrD fieldD indexAddrD indexD sliceD cutD lenD minmaxD nilCheckD buildD fillD zcs zd9 zf2 setAll zdC zgj zdo zkH zde St.add za8 zct rowsOf ze5 zdq zal zac zaa zbK zd4 zbo entry zcb zck valD zcB zc6 zjf zen zeo zcw zch zaE zba zbX delAll effD St.effS zeq zbM zbs zer zbN zbu zc7 zbt zbg zc8 zeb zcu zc0 zb1 zcY zcZ zaL mkD zcp zce zcg zaE zdk D.ids Op.operands Call.operands zcq makeIfD makeFuncD typeAssertD zkY zeT zeU zkV zdx IntKind.bits zdG List.take_of_length_le List.range_succ
attribute [local irreducible] V G H HD HD2 HD4 znD RetX zap Eff CallP CallV EndOK Fun Ret FinOK LoopI LoopW EndW
theorem znQ (s : W8) : Fun Tryz.prog 3 [.u (.str s)] (· = .u (.bool true)) := by
 have hs := znU;by_cases hl : 2100 < s.length
 ·have hl2 : 2100 < (s.length : Int) := by omega
  (refine Fun.of_bodyW Tryz.func3 rfl (by simp) fun Γ hn => ?_); simp only [entry, ziC, ziN, maC, maN, oA, Tryz.ntmps3]
  repeat' (first
  | ((first | refine zag ?_ | refine zaj ?_ | refine zah ?_ | refine zai ?_ | fail); simp [hl, hl2])
  | (refine zaq ?_; simp only [zap])
  | (refine CallP.fE (hs) (by first | rfl | fail) (by first | simp [hl, hl2] <;> rfl | fail) ?_; (try simp [hl, hl2]))
  | fail)
  refine EndW.here ?_
  (refine EndOK.val (.inr rfl) ?_; simp [zaA, zae, zar, Tryz.results3])
 ·have hl2 : ¬ 2100 < (s.length : Int) := by omega
  have c1 := zjY s;have c2 := zmN s;have c3 := zgM s;have c4 := ziB s;have c5 := zmJ (zdX s).1;have c6 : zfF (zcN s).1 (zcN s).1 := zcm _ _;have c7 := zeD s;have c8 := zhg s;rw [zfF, zfc, Exp.row_eq] at c6;unfold zkA at c3 c4;generalize zdX s = PB at *;generalize zcN s = PX at *;generalize zb3 s = nb at *;unfold byD zbb at c1 c2;unfold zbb at c5
  (refine Fun.of_bodyW Tryz.func3 rfl (by simp) fun Γ hn => ?_); simp only [entry, ziC, ziN, maC, maN, oA, Tryz.ntmps3]
  repeat' (first
  | ((first | refine zag ?_ | refine zaj ?_ | refine zah ?_ | refine zai ?_ | fail); simp [hl, hl2])
  | ((first | refine zaq ?_ | refine zao ?_ | fail); simp only [zap])
  | (refine CallP.fE (hs) (by first | rfl | fail) (by first | simp [hl, hl2] <;> rfl | fail) ?_; (try simp [hl, hl2]))
  | (refine CallP.fE (c1) (by first | rfl | fail) (by first | simp [hl, hl2] <;> rfl | fail) ?_; (try simp [hl, hl2]))
  | (refine CallP.fE (c2) (by first | rfl | fail) (by first | simp [hl, hl2] <;> rfl | fail) ?_; (try simp [hl, hl2]))
  | (refine CallP.fE (c3) (by first | rfl | fail) (by first | simp [hl, hl2] <;> rfl | fail) ?_; (try simp [hl, hl2]))
  | (refine CallP.fE (c4) (by first | rfl | fail) (by first | simp [hl, hl2] <;> rfl | fail) ?_; (try simp [hl, hl2]))
  | (refine CallP.fE (c5) (by first | rfl | fail) (by first | simp [hl, hl2] <;> rfl | fail) ?_; (try simp [hl, hl2]))
  | (refine CallP.fE (c6) (by first | rfl | fail) (by first | simp [hl, hl2] <;> rfl | fail) ?_; (try simp [hl, hl2]))
  | (refine CallP.fE (c7) (by first | rfl | fail) (by first | simp [hl, hl2] <;> rfl | fail) ?_; (try simp [hl, hl2]))
  | (refine CallP.fE (c8) (by first | rfl | fail) (by first | simp [hl, hl2] <;> rfl | fail) ?_; (try simp [hl, hl2]))
  | fail)
  refine EndW.here ?_
  (refine EndOK.val (.inr rfl) ?_; simp [zaA, zae, zar, Tryz.results3])
end Go.Proofs.YthnemhfamhnfjaaGreatDoor
