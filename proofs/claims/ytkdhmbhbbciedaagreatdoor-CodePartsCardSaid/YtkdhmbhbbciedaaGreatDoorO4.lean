import Derived.Test.YtkdhmbhbbciedaaGreatDoorO3
import Derived.Test.YtkdhmbhbbciedaaGreatDoorRows
import Derived.Laws.Bits64
import Derived.IntWalk
import Derived.Shelf.Strings.Builder1
import Derived.Shelf.Strings.BuilderF
import Derived.Shelf.Strings.BuilderK
import Derived.Shelf.Strconv.Atoi
import Derived.Shelf.Strconv.Itoa0
import Derived.Shelf.Strconv.Itoa1
import Derived.Shelf.LaysM
import Derived.Shelf.Strconv.Itoa2
import Derived.Shelf.Strconv.Itoa3
import Derived.Shelf.Strconv.AtoiErrFast
import Derived.Shelf.Strconv.ParseIntEmpty
import Derived.Shelf.Strconv.AtoiFail
import Derived.Shelf.Strconv.Clone
import Derived.Shelf.Strconv.SyntaxError
import Derived.Shelf.LaysC
import Derived.Shelf.Strconv.ToError
import Derived.Shelf.Strconv.AtoiErr
import Derived.Shelf.Strconv.ErrVar
import Derived.Shelf.Strconv.Lower
import Derived.Shelf.Strconv.ParseUint10
import Derived.Shelf.Strconv.ParseUint10Empty
import Derived.Shelf.Strconv.ParseUint10Any
import Derived.Shelf.Strconv.ParseInt10
import Derived.Shelf.Strconv.AtoiLong
import Derived.Shelf.Strconv.AtoiInnerAll
import Derived.Shelf.Strconv.RangeError
import Derived.Shelf.Strconv.ToErrorRange
import Derived.Shelf.Strconv.AtoiAll
import Derived.Shelf.Strconv.ErrVarAll
import Derived.Shelf.Strings.Search1
import Derived.Shelf.Strings.Search2
import Derived.Shelf.Strings.Search3
import Derived.Shelf.Strings.Cut
import Derived.Shelf.Strings.Shaped
import Derived.Shelf.Strings.Prefix
import Derived.Shelf.Bits.Mul64
import Derived.Shelf.Unicode.DecodeSlow
import Derived.Shelf.Slices.Turned
import Derived.Test.YtkdhmbhbbciedaaGreatDoorProg
import Derived.Lib.AppendStr
import Derived.RangeFuncCalls
import Derived.Test.YtkdhmbhbbciedaaGreatDoorTie
import Derived.Test.YtkdhmbhbbciedaaGreatDoorCards
import Derived.Lib.LaidTab
import Derived.LaidSub
import Derived.Lay
set_option linter.all false
set_option maxRecDepth 100000
set_option maxHeartbeats 8000000
namespace Go.Proofs.YtkdhmbhbbciedaaGreatDoor
open Go Go.VL
@[simp] theorem ld1 : zdB Tryz.prog 1 = some none := by kernel_rfl
@[simp] theorem ts1 : tsz Tryz.prog 1 = some 1 := by kernel_rfl
@[simp] theorem un1 : (Tryz.prog.underlying 1).isSome = true := by kernel_rfl
@[simp] theorem na1 : za8 Tryz.prog 1 = true := by kernel_rfl
@[simp] theorem sf1 : stT Tryz.prog 1 = none := by kernel_rfl
@[simp] theorem st1 : zbH Tryz.prog 1 = false := by kernel_rfl
@[simp] theorem zc1 : zbL Tryz.prog 1 = some [.nilFunc] := by kernel_rfl
@[simp] theorem sl1 : zdL Tryz.prog 1 = false := by kernel_rfl
@[simp] theorem ld2 : zdB Tryz.prog 2 = some none := by kernel_rfl
@[simp] theorem ts2 : tsz Tryz.prog 2 = some 1 := by kernel_rfl
@[simp] theorem un2 : (Tryz.prog.underlying 2).isSome = true := by kernel_rfl
@[simp] theorem na2 : za8 Tryz.prog 2 = true := by kernel_rfl
@[simp] theorem sf2 : stT Tryz.prog 2 = none := by kernel_rfl
@[simp] theorem st2 : zbH Tryz.prog 2 = false := by kernel_rfl
@[simp] theorem io2 : zgb Tryz.prog 2 = some .i64 := by kernel_rfl
@[simp] theorem zc2 : zbL Tryz.prog 2 = some [.int .i64 0] := by kernel_rfl
@[simp] theorem sl2 : zdL Tryz.prog 2 = false := by kernel_rfl
@[simp] theorem ld3 : zdB Tryz.prog 3 = some none := by kernel_rfl
@[simp] theorem ts3 : tsz Tryz.prog 3 = some 1 := by kernel_rfl
@[simp] theorem un3 : (Tryz.prog.underlying 3).isSome = true := by kernel_rfl
@[simp] theorem na3 : za8 Tryz.prog 3 = true := by kernel_rfl
@[simp] theorem sf3 : stT Tryz.prog 3 = none := by kernel_rfl
@[simp] theorem st3 : zbH Tryz.prog 3 = false := by kernel_rfl
@[simp] theorem io3 : zgb Tryz.prog 3 = some .i64 := by kernel_rfl
@[simp] theorem zc3 : zbL Tryz.prog 3 = some [.int .i64 0] := by kernel_rfl
@[simp] theorem sl3 : zdL Tryz.prog 3 = false := by kernel_rfl
@[simp] theorem ld4 : zdB Tryz.prog 4 = some none := by kernel_rfl
@[simp] theorem ts4 : tsz Tryz.prog 4 = some 1 := by kernel_rfl
@[simp] theorem un4 : (Tryz.prog.underlying 4).isSome = true := by kernel_rfl
@[simp] theorem na4 : za8 Tryz.prog 4 = true := by kernel_rfl
@[simp] theorem sf4 : stT Tryz.prog 4 = none := by kernel_rfl
@[simp] theorem st4 : zbH Tryz.prog 4 = false := by kernel_rfl
@[simp] theorem ub4 : Tryz.prog.underlying 4 = some .bool := by kernel_rfl
@[simp] theorem zc4 : zbL Tryz.prog 4 = some [.bool false] := by kernel_rfl
@[simp] theorem sl4 : zdL Tryz.prog 4 = false := by kernel_rfl
@[simp] theorem ld5 : zdB Tryz.prog 5 = some none := by kernel_rfl
@[simp] theorem ts5 : tsz Tryz.prog 5 = some 1 := by kernel_rfl
@[simp] theorem un5 : (Tryz.prog.underlying 5).isSome = true := by kernel_rfl
@[simp] theorem na5 : za8 Tryz.prog 5 = true := by kernel_rfl
@[simp] theorem sf5 : stT Tryz.prog 5 = none := by kernel_rfl
@[simp] theorem st5 : zbH Tryz.prog 5 = false := by kernel_rfl
@[simp] theorem io5 : zgb Tryz.prog 5 = some .u8 := by kernel_rfl
@[simp] theorem zc5 : zbL Tryz.prog 5 = some [.int .u8 0] := by kernel_rfl
@[simp] theorem sl5 : zdL Tryz.prog 5 = false := by kernel_rfl
@[simp] theorem ld8 : zdB Tryz.prog 8 = some (some 4) := by kernel_rfl
@[simp] theorem ts8 : tsz Tryz.prog 8 = some 4 := by kernel_rfl
@[simp] theorem un8 : (Tryz.prog.underlying 8).isSome = true := by kernel_rfl
@[simp] theorem na8 : za8 Tryz.prog 8 = true := by kernel_rfl
@[simp] theorem sf8 : stT Tryz.prog 8 = some [2, 3, 4, 6] := by kernel_rfl
@[simp] theorem st8 : zbH Tryz.prog 8 = false := by kernel_rfl
@[simp] theorem ni8 : zfc Tryz.prog 8 = true := by kernel_rfl
@[simp] theorem zc8 : zbL Tryz.prog 8 = some [.int .i64 0, .int .i64 0, .bool false, .int .u8 0] := by kernel_rfl
@[simp] theorem sl8 : zdL Tryz.prog 8 = false := by kernel_rfl
@[simp] theorem zyM : zcJ Tryz.prog 8 0 = some (0, 1, none) := by kernel_rfl
@[simp] theorem zyL : zcJ Tryz.prog 8 1 = some (1, 1, none) := by kernel_rfl
@[simp] theorem zyK : zcJ Tryz.prog 8 2 = some (2, 1, none) := by kernel_rfl
@[simp] theorem zyJ : zcJ Tryz.prog 8 3 = some (3, 1, none) := by kernel_rfl
@[simp] theorem zp8 : zp Tryz.prog 8 = some ([.int .i64 0, .int .i64 0, .bool false, .int .u8 0], [(0, 1), (1, 1), (2, 1), (3, 1)]) := by kernel_rfl
@[simp] theorem ld9 : zdB Tryz.prog 9 = some none := by kernel_rfl
@[simp] theorem ts9 : tsz Tryz.prog 9 = some 1 := by kernel_rfl
@[simp] theorem un9 : (Tryz.prog.underlying 9).isSome = true := by kernel_rfl
@[simp] theorem na9 : za8 Tryz.prog 9 = true := by kernel_rfl
@[simp] theorem sf9 : stT Tryz.prog 9 = none := by kernel_rfl
@[simp] theorem st9 : zbH Tryz.prog 9 = true := by kernel_rfl
@[simp] theorem zc9 : zbL Tryz.prog 9 = some [.string ⟨#[]⟩] := by kernel_rfl
@[simp] theorem sl9 : zdL Tryz.prog 9 = false := by kernel_rfl
@[simp] theorem zDx : zdB Tryz.prog 20 = some none := by kernel_rfl
@[simp] theorem zBg : tsz Tryz.prog 20 = some 1 := by kernel_rfl
@[simp] theorem zAP : (Tryz.prog.underlying 20).isSome = true := by kernel_rfl
@[simp] theorem zC6 : za8 Tryz.prog 20 = true := by kernel_rfl
@[simp] theorem zCx : stT Tryz.prog 20 = none := by kernel_rfl
@[simp] theorem zBH : zbH Tryz.prog 20 = false := by kernel_rfl
@[simp] theorem zEA : zkZ Tryz.prog 20 = true := by kernel_rfl
@[simp] theorem zAo : zbL Tryz.prog 20 = some [.nilIface] := by kernel_rfl
@[simp] theorem zB8 : zdL Tryz.prog 20 = false := by kernel_rfl
@[simp] theorem zDw : zdB Tryz.prog 21 = some none := by kernel_rfl
@[simp] theorem zBf : tsz Tryz.prog 21 = some 1 := by kernel_rfl
@[simp] theorem zAO : (Tryz.prog.underlying 21).isSome = true := by kernel_rfl
@[simp] theorem zC5 : za8 Tryz.prog 21 = true := by kernel_rfl
@[simp] theorem zCw : stT Tryz.prog 21 = none := by kernel_rfl
@[simp] theorem zBG : zbH Tryz.prog 21 = false := by kernel_rfl
@[simp] theorem zDz : zgb Tryz.prog 21 = some .i32 := by kernel_rfl
@[simp] theorem zAn : zbL Tryz.prog 21 = some [.int .i32 0] := by kernel_rfl
@[simp] theorem zB7 : zdL Tryz.prog 21 = false := by kernel_rfl
@[simp] theorem zDv : zdB Tryz.prog 22 = some none := by kernel_rfl
@[simp] theorem zBe : tsz Tryz.prog 22 = some 1 := by kernel_rfl
@[simp] theorem zAN : (Tryz.prog.underlying 22).isSome = true := by kernel_rfl
@[simp] theorem zC4 : za8 Tryz.prog 22 = true := by kernel_rfl
@[simp] theorem zCv : stT Tryz.prog 22 = none := by kernel_rfl
@[simp] theorem zBF : zbH Tryz.prog 22 = false := by kernel_rfl
@[simp] theorem zAm : zbL Tryz.prog 22 = some [.slice none 0 0] := by kernel_rfl
@[simp] theorem zB6 : zdL Tryz.prog 22 = true := by kernel_rfl
@[simp] theorem zyO : zi8 Tryz.prog 22 = some (39, 6) := by kernel_rfl
@[simp] theorem zDN : ze5 Tryz.prog 22 = some (39, 6, 80, [.string ⟨#[]⟩, .int .i64 0, .int .i64 0, .int .i64 0, .string ⟨#[]⟩, .slice none 0 0]) := by kernel_rfl
@[simp] theorem zDu : zdB Tryz.prog 23 = some none := by kernel_rfl
@[simp] theorem zBd : tsz Tryz.prog 23 = some 1 := by kernel_rfl
@[simp] theorem zAM : (Tryz.prog.underlying 23).isSome = true := by kernel_rfl
@[simp] theorem zC3 : za8 Tryz.prog 23 = true := by kernel_rfl
@[simp] theorem zCu : stT Tryz.prog 23 = none := by kernel_rfl
@[simp] theorem zBE : zbH Tryz.prog 23 = false := by kernel_rfl
@[simp] theorem zAl : zbL Tryz.prog 23 = some [.slice none 0 0] := by kernel_rfl
@[simp] theorem zB5 : zdL Tryz.prog 23 = true := by kernel_rfl
@[simp] theorem zyN : zi8 Tryz.prog 23 = some (25, 5) := by kernel_rfl
@[simp] theorem zDM : ze5 Tryz.prog 23 = some (25, 5, 64, [.int .i64 0, .int .i64 0, .int .i64 0, .string ⟨#[]⟩, .slice none 0 0]) := by kernel_rfl
@[simp] theorem zDt : zdB Tryz.prog 25 = some (some 5) := by kernel_rfl
@[simp] theorem zBc : tsz Tryz.prog 25 = some 5 := by kernel_rfl
@[simp] theorem zAL : (Tryz.prog.underlying 25).isSome = true := by kernel_rfl
@[simp] theorem zC2 : za8 Tryz.prog 25 = true := by kernel_rfl
@[simp] theorem zuH : stT Tryz.prog 25 = some [3, 3, 3, 9, 23] := by kernel_rfl
@[simp] theorem zBD : zbH Tryz.prog 25 = false := by kernel_rfl
@[simp] theorem zCF : zfc Tryz.prog 25 = true := by kernel_rfl
@[simp] theorem zAk : zbL Tryz.prog 25 = some [.int .i64 0, .int .i64 0, .int .i64 0, .string ⟨#[]⟩, .slice none 0 0] := by kernel_rfl
@[simp] theorem zB4 : zdL Tryz.prog 25 = false := by kernel_rfl
@[simp] theorem zvG : zcJ Tryz.prog 25 0 = some (0, 1, none) := by kernel_rfl
@[simp] theorem zvF : zcJ Tryz.prog 25 1 = some (1, 1, none) := by kernel_rfl
@[simp] theorem zvE : zcJ Tryz.prog 25 2 = some (2, 1, none) := by kernel_rfl
@[simp] theorem zvD : zcJ Tryz.prog 25 3 = some (3, 1, none) := by kernel_rfl
@[simp] theorem zvC : zcJ Tryz.prog 25 4 = some (4, 1, none) := by kernel_rfl
@[simp] theorem zzX : zp Tryz.prog 25 = some ([.int .i64 0, .int .i64 0, .int .i64 0, .string ⟨#[]⟩, .slice none 0 0], [(0, 1), (1, 1), (2, 1), (3, 1), (4, 1)]) := by kernel_rfl
@[simp] theorem zDs : zdB Tryz.prog 26 = some none := by kernel_rfl
@[simp] theorem zBb : tsz Tryz.prog 26 = some 1 := by kernel_rfl
@[simp] theorem zAK : (Tryz.prog.underlying 26).isSome = true := by kernel_rfl
@[simp] theorem zC1 : za8 Tryz.prog 26 = true := by kernel_rfl
@[simp] theorem zCt : stT Tryz.prog 26 = none := by kernel_rfl
@[simp] theorem zBC : zbH Tryz.prog 26 = false := by kernel_rfl
@[simp] theorem zAj : zbL Tryz.prog 26 = some [.slice none 0 0] := by kernel_rfl
@[simp] theorem zB3 : zdL Tryz.prog 26 = true := by kernel_rfl
@[simp] theorem zDF : zi8 Tryz.prog 26 = some (44, 3) := by kernel_rfl
@[simp] theorem zDL : ze5 Tryz.prog 26 = some (44, 3, 32, [.int .i64 0, .int .i64 0, .string ⟨#[]⟩]) := by kernel_rfl
@[simp] theorem zDr : zdB Tryz.prog 30 = some none := by kernel_rfl
@[simp] theorem zBa : tsz Tryz.prog 30 = some 1 := by kernel_rfl
@[simp] theorem zAJ : (Tryz.prog.underlying 30).isSome = true := by kernel_rfl
@[simp] theorem zC0 : za8 Tryz.prog 30 = true := by kernel_rfl
@[simp] theorem zCs : stT Tryz.prog 30 = none := by kernel_rfl
@[simp] theorem zBB : zbH Tryz.prog 30 = false := by kernel_rfl
@[simp] theorem zDy : zgb Tryz.prog 30 = some .i64 := by kernel_rfl
@[simp] theorem zAi : zbL Tryz.prog 30 = some [.int .i64 0] := by kernel_rfl
@[simp] theorem zB2 : zdL Tryz.prog 30 = false := by kernel_rfl
@[simp] theorem zDq : zdB Tryz.prog 35 = some none := by kernel_rfl
@[simp] theorem zA9 : tsz Tryz.prog 35 = some 1 := by kernel_rfl
@[simp] theorem zAI : (Tryz.prog.underlying 35).isSome = true := by kernel_rfl
@[simp] theorem zCZ : za8 Tryz.prog 35 = true := by kernel_rfl
@[simp] theorem zCr : stT Tryz.prog 35 = none := by kernel_rfl
@[simp] theorem zBA : zbH Tryz.prog 35 = false := by kernel_rfl
@[simp] theorem zAh : zbL Tryz.prog 35 = some [.nilFunc] := by kernel_rfl
@[simp] theorem zB1 : zdL Tryz.prog 35 = false := by kernel_rfl
@[simp] theorem zDp : zdB Tryz.prog 37 = some none := by kernel_rfl
@[simp] theorem zA8 : tsz Tryz.prog 37 = some 1 := by kernel_rfl
@[simp] theorem zAH : (Tryz.prog.underlying 37).isSome = true := by kernel_rfl
@[simp] theorem zCY : za8 Tryz.prog 37 = true := by kernel_rfl
@[simp] theorem zCq : stT Tryz.prog 37 = none := by kernel_rfl
@[simp] theorem zBz : zbH Tryz.prog 37 = false := by kernel_rfl
@[simp] theorem zAg : zbL Tryz.prog 37 = some [.nilFunc] := by kernel_rfl
@[simp] theorem zB0 : zdL Tryz.prog 37 = false := by kernel_rfl
@[simp] theorem zDo : zdB Tryz.prog 39 = some (some 6) := by kernel_rfl
@[simp] theorem zA7 : tsz Tryz.prog 39 = some 6 := by kernel_rfl
@[simp] theorem zAG : (Tryz.prog.underlying 39).isSome = true := by kernel_rfl
@[simp] theorem zCX : za8 Tryz.prog 39 = true := by kernel_rfl
@[simp] theorem zxt : stT Tryz.prog 39 = some [9, 25] := by kernel_rfl
@[simp] theorem zBy : zbH Tryz.prog 39 = false := by kernel_rfl
@[simp] theorem zCE : zfc Tryz.prog 39 = true := by kernel_rfl
@[simp] theorem zAf : zbL Tryz.prog 39 = some [.string ⟨#[]⟩, .int .i64 0, .int .i64 0, .int .i64 0, .string ⟨#[]⟩, .slice none 0 0] := by kernel_rfl
@[simp] theorem zBZ : zdL Tryz.prog 39 = false := by kernel_rfl
@[simp] theorem zvB : zcJ Tryz.prog 39 0 = some (0, 1, none) := by kernel_rfl
@[simp] theorem zvA : zcJ Tryz.prog 39 1 = some (1, 5, some 5) := by kernel_rfl
@[simp] theorem zzW : zp Tryz.prog 39 = some ([.string ⟨#[]⟩, .int .i64 0, .int .i64 0, .int .i64 0, .string ⟨#[]⟩, .slice none 0 0], [(0, 1), (1, 5)]) := by kernel_rfl
@[simp] theorem zDn : zdB Tryz.prog 40 = some none := by kernel_rfl
@[simp] theorem zA6 : tsz Tryz.prog 40 = some 1 := by kernel_rfl
@[simp] theorem zAF : (Tryz.prog.underlying 40).isSome = true := by kernel_rfl
@[simp] theorem zCW : za8 Tryz.prog 40 = true := by kernel_rfl
@[simp] theorem zCp : stT Tryz.prog 40 = none := by kernel_rfl
@[simp] theorem zBx : zbH Tryz.prog 40 = false := by kernel_rfl
@[simp] theorem zAe : zbL Tryz.prog 40 = some [.slice none 0 0] := by kernel_rfl
@[simp] theorem zBY : zdL Tryz.prog 40 = true := by kernel_rfl
@[simp] theorem zDE : zi8 Tryz.prog 40 = some (3, 1) := by kernel_rfl
@[simp] theorem zDK : ze5 Tryz.prog 40 = some (3, 1, 8, [.int .i64 0]) := by kernel_rfl
@[simp] theorem zDm : zdB Tryz.prog 44 = some (some 3) := by kernel_rfl
@[simp] theorem zA5 : tsz Tryz.prog 44 = some 3 := by kernel_rfl
@[simp] theorem zAE : (Tryz.prog.underlying 44).isSome = true := by kernel_rfl
@[simp] theorem zCV : za8 Tryz.prog 44 = true := by kernel_rfl
@[simp] theorem zCo : stT Tryz.prog 44 = some [3, 3, 9] := by kernel_rfl
@[simp] theorem zBw : zbH Tryz.prog 44 = false := by kernel_rfl
@[simp] theorem zCD : zfc Tryz.prog 44 = true := by kernel_rfl
@[simp] theorem zAd : zbL Tryz.prog 44 = some [.int .i64 0, .int .i64 0, .string ⟨#[]⟩] := by kernel_rfl
@[simp] theorem zBX : zdL Tryz.prog 44 = false := by kernel_rfl
@[simp] theorem zCz : zr3 Tryz.prog 44 = some [.int, .int, .str] := by kernel_rfl
@[simp] theorem zvz : zcJ Tryz.prog 44 0 = some (0, 1, none) := by kernel_rfl
@[simp] theorem zvy : zcJ Tryz.prog 44 1 = some (1, 1, none) := by kernel_rfl
@[simp] theorem zvx : zcJ Tryz.prog 44 2 = some (2, 1, none) := by kernel_rfl
@[simp] theorem zzV : zp Tryz.prog 44 = some ([.int .i64 0, .int .i64 0, .string ⟨#[]⟩], [(0, 1), (1, 1), (2, 1)]) := by kernel_rfl
@[simp] theorem zDl : zdB Tryz.prog 51 = some none := by kernel_rfl
@[simp] theorem zA4 : tsz Tryz.prog 51 = some 1 := by kernel_rfl
@[simp] theorem zAD : (Tryz.prog.underlying 51).isSome = true := by kernel_rfl
@[simp] theorem zCU : za8 Tryz.prog 51 = true := by kernel_rfl
@[simp] theorem zCn : stT Tryz.prog 51 = none := by kernel_rfl
@[simp] theorem zBv : zbH Tryz.prog 51 = false := by kernel_rfl
@[simp] theorem zAc : zbL Tryz.prog 51 = some [.slice none 0 0] := by kernel_rfl
@[simp] theorem zBW : zdL Tryz.prog 51 = true := by kernel_rfl
@[simp] theorem zDD : zi8 Tryz.prog 51 = some (98, 3) := by kernel_rfl
@[simp] theorem zDJ : ze5 Tryz.prog 51 = some (98, 3, 32, [.string ⟨#[]⟩, .int .i64 0, .int .i64 0]) := by kernel_rfl
@[simp] theorem zDk : zdB Tryz.prog 58 = some none := by kernel_rfl
@[simp] theorem zA3 : tsz Tryz.prog 58 = some 1 := by kernel_rfl
@[simp] theorem zAC : (Tryz.prog.underlying 58).isSome = true := by kernel_rfl
@[simp] theorem zCT : za8 Tryz.prog 58 = true := by kernel_rfl
@[simp] theorem zCm : stT Tryz.prog 58 = none := by kernel_rfl
@[simp] theorem zBu : zbH Tryz.prog 58 = false := by kernel_rfl
@[simp] theorem zAb : zbL Tryz.prog 58 = some [.slice none 0 0] := by kernel_rfl
@[simp] theorem zBV : zdL Tryz.prog 58 = true := by kernel_rfl
@[simp] theorem zDC : zi8 Tryz.prog 58 = some (9, 1) := by kernel_rfl
@[simp] theorem zDI : ze5 Tryz.prog 58 = some (9, 1, 16, [.string ⟨#[]⟩]) := by kernel_rfl
@[simp] theorem zDj : zdB Tryz.prog 59 = some none := by kernel_rfl
@[simp] theorem zA2 : tsz Tryz.prog 59 = some 1 := by kernel_rfl
@[simp] theorem zAB : (Tryz.prog.underlying 59).isSome = true := by kernel_rfl
@[simp] theorem zCS : za8 Tryz.prog 59 = true := by kernel_rfl
@[simp] theorem zCl : stT Tryz.prog 59 = none := by kernel_rfl
@[simp] theorem zBt : zbH Tryz.prog 59 = false := by kernel_rfl
@[simp] theorem zAa : zbL Tryz.prog 59 = some [.nilFunc] := by kernel_rfl
@[simp] theorem zBU : zdL Tryz.prog 59 = false := by kernel_rfl
@[simp] theorem zDi : zdB Tryz.prog 61 = some none := by kernel_rfl
@[simp] theorem zA1 : tsz Tryz.prog 61 = some 1 := by kernel_rfl
@[simp] theorem zAA : (Tryz.prog.underlying 61).isSome = true := by kernel_rfl
@[simp] theorem zCR : za8 Tryz.prog 61 = true := by kernel_rfl
@[simp] theorem zCk : stT Tryz.prog 61 = none := by kernel_rfl
@[simp] theorem zBs : zbH Tryz.prog 61 = false := by kernel_rfl
@[simp] theorem zz9 : zbL Tryz.prog 61 = some [.pointer none] := by kernel_rfl
@[simp] theorem zBT : zdL Tryz.prog 61 = false := by kernel_rfl
@[simp] theorem zDh : zdB Tryz.prog 62 = some none := by kernel_rfl
@[simp] theorem zA0 : tsz Tryz.prog 62 = some 1 := by kernel_rfl
@[simp] theorem zAz : (Tryz.prog.underlying 62).isSome = true := by kernel_rfl
@[simp] theorem zCQ : za8 Tryz.prog 62 = true := by kernel_rfl
@[simp] theorem zCj : stT Tryz.prog 62 = none := by kernel_rfl
@[simp] theorem zBr : zbH Tryz.prog 62 = false := by kernel_rfl
@[simp] theorem zz8 : zbL Tryz.prog 62 = some [.slice none 0 0] := by kernel_rfl
@[simp] theorem zBS : zdL Tryz.prog 62 = true := by kernel_rfl
@[simp] theorem zDB : zi8 Tryz.prog 62 = some (4, 1) := by kernel_rfl
@[simp] theorem zDH : ze5 Tryz.prog 62 = some (4, 1, 1, [.bool false]) := by kernel_rfl
@[simp] theorem zDg : zdB Tryz.prog 64 = some (some 3) := by kernel_rfl
@[simp] theorem zAZ : tsz Tryz.prog 64 = some 3 := by kernel_rfl
@[simp] theorem zAy : (Tryz.prog.underlying 64).isSome = true := by kernel_rfl
@[simp] theorem zCP : za8 Tryz.prog 64 = true := by kernel_rfl
@[simp] theorem zCi : stT Tryz.prog 64 = some [22, 62, 26] := by kernel_rfl
@[simp] theorem zBq : zbH Tryz.prog 64 = false := by kernel_rfl
@[simp] theorem zCC : zfc Tryz.prog 64 = true := by kernel_rfl
@[simp] theorem zz7 : zbL Tryz.prog 64 = some [.slice none 0 0, .slice none 0 0, .slice none 0 0] := by kernel_rfl
@[simp] theorem zBR : zdL Tryz.prog 64 = false := by kernel_rfl
@[simp] theorem zvw : zcJ Tryz.prog 64 0 = some (0, 1, none) := by kernel_rfl
@[simp] theorem zvv : zcJ Tryz.prog 64 1 = some (1, 1, none) := by kernel_rfl
@[simp] theorem zvu : zcJ Tryz.prog 64 2 = some (2, 1, none) := by kernel_rfl
@[simp] theorem zzU : zp Tryz.prog 64 = some ([.slice none 0 0, .slice none 0 0, .slice none 0 0], [(0, 1), (1, 1), (2, 1)]) := by kernel_rfl
@[simp] theorem zDf : zdB Tryz.prog 69 = some none := by kernel_rfl
@[simp] theorem zAY : tsz Tryz.prog 69 = some 1 := by kernel_rfl
@[simp] theorem zAx : (Tryz.prog.underlying 69).isSome = true := by kernel_rfl
@[simp] theorem zCO : za8 Tryz.prog 69 = true := by kernel_rfl
@[simp] theorem zCh : stT Tryz.prog 69 = none := by kernel_rfl
@[simp] theorem zBp : zbH Tryz.prog 69 = false := by kernel_rfl
@[simp] theorem zz6 : zbL Tryz.prog 69 = some [.nilFunc] := by kernel_rfl
@[simp] theorem zBQ : zdL Tryz.prog 69 = false := by kernel_rfl
@[simp] theorem zDe : zdB Tryz.prog 70 = some none := by kernel_rfl
@[simp] theorem zAX : tsz Tryz.prog 70 = some 1 := by kernel_rfl
@[simp] theorem zAw : (Tryz.prog.underlying 70).isSome = true := by kernel_rfl
@[simp] theorem zCN : za8 Tryz.prog 70 = true := by kernel_rfl
@[simp] theorem zCg : stT Tryz.prog 70 = none := by kernel_rfl
@[simp] theorem zBo : zbH Tryz.prog 70 = false := by kernel_rfl
@[simp] theorem zz5 : zbL Tryz.prog 70 = some [.nilFunc] := by kernel_rfl
@[simp] theorem zBP : zdL Tryz.prog 70 = false := by kernel_rfl
@[simp] theorem zDd : zdB Tryz.prog 76 = some (some 15) := by kernel_rfl
@[simp] theorem zAW : tsz Tryz.prog 76 = some 15 := by kernel_rfl
@[simp] theorem zAv : (Tryz.prog.underlying 76).isSome = true := by kernel_rfl
@[simp] theorem zCM : za8 Tryz.prog 76 = false := by kernel_rfl
@[simp] theorem zCf : stT Tryz.prog 76 = none := by kernel_rfl
@[simp] theorem zBn : zbH Tryz.prog 76 = false := by kernel_rfl
@[simp] theorem zEy : zsf Tryz.prog 76 = some 15 := by kernel_rfl
@[simp] theorem zz4 : zbL Tryz.prog 76 = some [.string ⟨#[]⟩, .string ⟨#[]⟩, .string ⟨#[]⟩, .string ⟨#[]⟩, .string ⟨#[]⟩, .string ⟨#[]⟩, .string ⟨#[]⟩, .string ⟨#[]⟩, .string ⟨#[]⟩, .string ⟨#[]⟩, .string ⟨#[]⟩, .string ⟨#[]⟩, .string ⟨#[]⟩, .string ⟨#[]⟩, .string ⟨#[]⟩] := by kernel_rfl
@[simp] theorem zBO : zdL Tryz.prog 76 = false := by kernel_rfl
@[simp] theorem zDc : zdB Tryz.prog 78 = some none := by kernel_rfl
@[simp] theorem zAV : tsz Tryz.prog 78 = some 1 := by kernel_rfl
@[simp] theorem zAu : (Tryz.prog.underlying 78).isSome = true := by kernel_rfl
@[simp] theorem zCL : za8 Tryz.prog 78 = true := by kernel_rfl
@[simp] theorem zCe : stT Tryz.prog 78 = none := by kernel_rfl
@[simp] theorem zBm : zbH Tryz.prog 78 = false := by kernel_rfl
@[simp] theorem zEz : zkZ Tryz.prog 78 = false := by kernel_rfl
@[simp] theorem zz3 : zbL Tryz.prog 78 = some [.nilIface] := by kernel_rfl
@[simp] theorem zBN : zdL Tryz.prog 78 = false := by kernel_rfl
@[simp] theorem zDb : zdB Tryz.prog 85 = some none := by kernel_rfl
@[simp] theorem zAU : tsz Tryz.prog 85 = some 1 := by kernel_rfl
@[simp] theorem zAt : (Tryz.prog.underlying 85).isSome = true := by kernel_rfl
@[simp] theorem zCK : za8 Tryz.prog 85 = true := by kernel_rfl
@[simp] theorem zCd : stT Tryz.prog 85 = none := by kernel_rfl
@[simp] theorem zBl : zbH Tryz.prog 85 = false := by kernel_rfl
@[simp] theorem zz2 : zbL Tryz.prog 85 = some [.pointer none] := by kernel_rfl
@[simp] theorem zBM : zdL Tryz.prog 85 = false := by kernel_rfl
@[simp] theorem zDa : zdB Tryz.prog 86 = some none := by kernel_rfl
@[simp] theorem zAT : tsz Tryz.prog 86 = some 1 := by kernel_rfl
@[simp] theorem zAs : (Tryz.prog.underlying 86).isSome = true := by kernel_rfl
@[simp] theorem zCJ : za8 Tryz.prog 86 = true := by kernel_rfl
@[simp] theorem zCc : stT Tryz.prog 86 = none := by kernel_rfl
@[simp] theorem zBk : zbH Tryz.prog 86 = false := by kernel_rfl
@[simp] theorem zz1 : zbL Tryz.prog 86 = some [.slice none 0 0] := by kernel_rfl
@[simp] theorem zBL : zdL Tryz.prog 86 = true := by kernel_rfl
@[simp] theorem zDA : zi8 Tryz.prog 86 = some (5, 1) := by kernel_rfl
@[simp] theorem zDG : ze5 Tryz.prog 86 = some (5, 1, 1, [.int .u8 0]) := by kernel_rfl
@[simp] theorem zC9 : zdB Tryz.prog 88 = some (some 2) := by kernel_rfl
@[simp] theorem zAS : tsz Tryz.prog 88 = some 2 := by kernel_rfl
@[simp] theorem zAr : (Tryz.prog.underlying 88).isSome = true := by kernel_rfl
@[simp] theorem zCI : za8 Tryz.prog 88 = true := by kernel_rfl
@[simp] theorem zCb : stT Tryz.prog 88 = some [85, 86] := by kernel_rfl
@[simp] theorem zBj : zbH Tryz.prog 88 = false := by kernel_rfl
@[simp] theorem zCB : zfc Tryz.prog 88 = true := by kernel_rfl
@[simp] theorem zz0 : zbL Tryz.prog 88 = some [.pointer none, .slice none 0 0] := by kernel_rfl
@[simp] theorem zBK : zdL Tryz.prog 88 = false := by kernel_rfl
@[simp] theorem zvt : zcJ Tryz.prog 88 0 = some (0, 1, none) := by kernel_rfl
@[simp] theorem zvs : zcJ Tryz.prog 88 1 = some (1, 1, none) := by kernel_rfl
@[simp] theorem zzS : zp Tryz.prog 88 = some ([.pointer none, .slice none 0 0], [(0, 1), (1, 1)]) := by kernel_rfl
@[simp] theorem zC8 : zdB Tryz.prog 94 = some none := by kernel_rfl
@[simp] theorem zAR : tsz Tryz.prog 94 = some 1 := by kernel_rfl
@[simp] theorem zAq : (Tryz.prog.underlying 94).isSome = true := by kernel_rfl
@[simp] theorem zCH : za8 Tryz.prog 94 = true := by kernel_rfl
@[simp] theorem zCa : stT Tryz.prog 94 = none := by kernel_rfl
@[simp] theorem zBi : zbH Tryz.prog 94 = false := by kernel_rfl
@[simp] theorem zzZ : zbL Tryz.prog 94 = some [.pointer none] := by kernel_rfl
@[simp] theorem zBJ : zdL Tryz.prog 94 = false := by kernel_rfl
@[simp] theorem zC7 : zdB Tryz.prog 98 = some (some 3) := by kernel_rfl
@[simp] theorem zAQ : tsz Tryz.prog 98 = some 3 := by kernel_rfl
@[simp] theorem zAp : (Tryz.prog.underlying 98).isSome = true := by kernel_rfl
@[simp] theorem zCG : za8 Tryz.prog 98 = true := by kernel_rfl
@[simp] theorem zB9 : stT Tryz.prog 98 = some [9, 3, 3] := by kernel_rfl
@[simp] theorem zBh : zbH Tryz.prog 98 = false := by kernel_rfl
@[simp] theorem zCA : zfc Tryz.prog 98 = true := by kernel_rfl
@[simp] theorem zzY : zbL Tryz.prog 98 = some [.string ⟨#[]⟩, .int .i64 0, .int .i64 0] := by kernel_rfl
@[simp] theorem zBI : zdL Tryz.prog 98 = false := by kernel_rfl
@[simp] theorem zCy : zr3 Tryz.prog 98 = some [.str, .int, .int] := by kernel_rfl
@[simp] theorem zvr : zcJ Tryz.prog 98 0 = some (0, 1, none) := by kernel_rfl
@[simp] theorem zvq : zcJ Tryz.prog 98 1 = some (1, 1, none) := by kernel_rfl
@[simp] theorem zvp : zcJ Tryz.prog 98 2 = some (2, 1, none) := by kernel_rfl
@[simp] theorem zzR : zp Tryz.prog 98 = some ([.string ⟨#[]⟩, .int .i64 0, .int .i64 0], [(0, 1), (1, 1), (2, 1)]) := by kernel_rfl
@[simp] theorem zyI : zdB Tryz.prog 118 = some none := by kernel_rfl
@[simp] theorem zwQ : tsz Tryz.prog 118 = some 1 := by kernel_rfl
@[simp] theorem zwx : (Tryz.prog.underlying 118).isSome = true := by kernel_rfl
@[simp] theorem zyf : za8 Tryz.prog 118 = true := by kernel_rfl
@[simp] theorem zxM : stT Tryz.prog 118 = none := by kernel_rfl
@[simp] theorem zw9 : zbH Tryz.prog 118 = false := by kernel_rfl
@[simp] theorem zwd : zbL Tryz.prog 118 = some [.nilFunc] := by kernel_rfl
@[simp] theorem zxs : zdL Tryz.prog 118 = false := by kernel_rfl
@[simp] theorem zyH : zdB Tryz.prog 121 = some none := by kernel_rfl
@[simp] theorem zwP : tsz Tryz.prog 121 = some 1 := by kernel_rfl
@[simp] theorem zww : (Tryz.prog.underlying 121).isSome = true := by kernel_rfl
@[simp] theorem zye : za8 Tryz.prog 121 = true := by kernel_rfl
@[simp] theorem zxL : stT Tryz.prog 121 = none := by kernel_rfl
@[simp] theorem zw8 : zbH Tryz.prog 121 = false := by kernel_rfl
@[simp] theorem zwc : zbL Tryz.prog 121 = some [.map none] := by kernel_rfl
@[simp] theorem zxr : zdL Tryz.prog 121 = false := by kernel_rfl
@[simp] theorem zym : zeh Tryz.prog 121 = some (.s, false, [.int .i64 0]) := by kernel_rfl
@[simp] theorem zyG : zdB Tryz.prog 122 = some none := by kernel_rfl
@[simp] theorem zwO : tsz Tryz.prog 122 = some 1 := by kernel_rfl
@[simp] theorem zwv : (Tryz.prog.underlying 122).isSome = true := by kernel_rfl
@[simp] theorem zyd : za8 Tryz.prog 122 = true := by kernel_rfl
@[simp] theorem zxK : stT Tryz.prog 122 = none := by kernel_rfl
@[simp] theorem zw7 : zbH Tryz.prog 122 = false := by kernel_rfl
@[simp] theorem zwb : zbL Tryz.prog 122 = some [.map none] := by kernel_rfl
@[simp] theorem zxq : zdL Tryz.prog 122 = false := by kernel_rfl
@[simp] theorem zyl : zeh Tryz.prog 122 = some (.s, true, [.int .i64 0, .int .i64 0, .bool false]) := by kernel_rfl
@[simp] theorem zyF : zdB Tryz.prog 124 = some (some 2) := by kernel_rfl
@[simp] theorem zwN : tsz Tryz.prog 124 = some 2 := by kernel_rfl
@[simp] theorem zwu : (Tryz.prog.underlying 124).isSome = true := by kernel_rfl
@[simp] theorem zyc : za8 Tryz.prog 124 = true := by kernel_rfl
@[simp] theorem zxJ : stT Tryz.prog 124 = some [121, 122] := by kernel_rfl
@[simp] theorem zw6 : zbH Tryz.prog 124 = false := by kernel_rfl
@[simp] theorem zxW : zfc Tryz.prog 124 = true := by kernel_rfl
@[simp] theorem zwa : zbL Tryz.prog 124 = some [.map none, .map none] := by kernel_rfl
@[simp] theorem zxp : zdL Tryz.prog 124 = false := by kernel_rfl
@[simp] theorem zu6 : zcJ Tryz.prog 124 0 = some (0, 1, none) := by kernel_rfl
@[simp] theorem zu5 : zcJ Tryz.prog 124 1 = some (1, 1, none) := by kernel_rfl
@[simp] theorem zvU : zp Tryz.prog 124 = some ([.map none, .map none], [(0, 1), (1, 1)]) := by kernel_rfl
@[simp] theorem zyE : zdB Tryz.prog 129 = some (some 3) := by kernel_rfl
@[simp] theorem zwM : tsz Tryz.prog 129 = some 3 := by kernel_rfl
@[simp] theorem zwt : (Tryz.prog.underlying 129).isSome = true := by kernel_rfl
@[simp] theorem zyb : za8 Tryz.prog 129 = true := by kernel_rfl
@[simp] theorem zxI : stT Tryz.prog 129 = some [3, 30, 4] := by kernel_rfl
@[simp] theorem zw5 : zbH Tryz.prog 129 = false := by kernel_rfl
@[simp] theorem zxV : zfc Tryz.prog 129 = true := by kernel_rfl
@[simp] theorem zv9 : zbL Tryz.prog 129 = some [.int .i64 0, .int .i64 0, .bool false] := by kernel_rfl
@[simp] theorem zxo : zdL Tryz.prog 129 = false := by kernel_rfl
@[simp] theorem zxQ : zr3 Tryz.prog 129 = some [.int, .int, .bool] := by kernel_rfl
@[simp] theorem zu4 : zcJ Tryz.prog 129 0 = some (0, 1, none) := by kernel_rfl
@[simp] theorem zu3 : zcJ Tryz.prog 129 1 = some (1, 1, none) := by kernel_rfl
@[simp] theorem zu2 : zcJ Tryz.prog 129 2 = some (2, 1, none) := by kernel_rfl
@[simp] theorem zvT : zp Tryz.prog 129 = some ([.int .i64 0, .int .i64 0, .bool false], [(0, 1), (1, 1), (2, 1)]) := by kernel_rfl
@[simp] theorem zyD : zdB Tryz.prog 133 = some none := by kernel_rfl
@[simp] theorem zwL : tsz Tryz.prog 133 = some 1 := by kernel_rfl
@[simp] theorem zws : (Tryz.prog.underlying 133).isSome = true := by kernel_rfl
@[simp] theorem zya : za8 Tryz.prog 133 = true := by kernel_rfl
@[simp] theorem zxH : stT Tryz.prog 133 = none := by kernel_rfl
@[simp] theorem zw4 : zbH Tryz.prog 133 = false := by kernel_rfl
@[simp] theorem zv8 : zbL Tryz.prog 133 = some [.nilFunc] := by kernel_rfl
@[simp] theorem zxn : zdL Tryz.prog 133 = false := by kernel_rfl
@[simp] theorem zyC : zdB Tryz.prog 139 = some none := by kernel_rfl
@[simp] theorem zwK : tsz Tryz.prog 139 = some 1 := by kernel_rfl
@[simp] theorem zwr : (Tryz.prog.underlying 139).isSome = true := by kernel_rfl
@[simp] theorem zx9 : za8 Tryz.prog 139 = true := by kernel_rfl
@[simp] theorem zxG : stT Tryz.prog 139 = none := by kernel_rfl
@[simp] theorem zw3 : zbH Tryz.prog 139 = false := by kernel_rfl
@[simp] theorem zv7 : zbL Tryz.prog 139 = some [.pointer none] := by kernel_rfl
@[simp] theorem zxm : zdL Tryz.prog 139 = false := by kernel_rfl
@[simp] theorem zyB : zdB Tryz.prog 143 = some none := by kernel_rfl
@[simp] theorem zwJ : tsz Tryz.prog 143 = some 1 := by kernel_rfl
@[simp] theorem zwq : (Tryz.prog.underlying 143).isSome = true := by kernel_rfl
@[simp] theorem zx8 : za8 Tryz.prog 143 = true := by kernel_rfl
@[simp] theorem zxF : stT Tryz.prog 143 = none := by kernel_rfl
@[simp] theorem zw2 : zbH Tryz.prog 143 = false := by kernel_rfl
@[simp] theorem zv6 : zbL Tryz.prog 143 = some [.pointer none] := by kernel_rfl
@[simp] theorem zxl : zdL Tryz.prog 143 = false := by kernel_rfl
@[simp] theorem zyA : zdB Tryz.prog 144 = some none := by kernel_rfl
@[simp] theorem zwI : tsz Tryz.prog 144 = some 1 := by kernel_rfl
@[simp] theorem zwp : (Tryz.prog.underlying 144).isSome = true := by kernel_rfl
@[simp] theorem zx7 : za8 Tryz.prog 144 = true := by kernel_rfl
@[simp] theorem zxE : stT Tryz.prog 144 = none := by kernel_rfl
@[simp] theorem zw1 : zbH Tryz.prog 144 = false := by kernel_rfl
@[simp] theorem zv5 : zbL Tryz.prog 144 = some [.pointer none] := by kernel_rfl
@[simp] theorem zxk : zdL Tryz.prog 144 = false := by kernel_rfl
@[simp] theorem zyz : zdB Tryz.prog 148 = some (some 4) := by kernel_rfl
@[simp] theorem zwH : tsz Tryz.prog 148 = some 4 := by kernel_rfl
@[simp] theorem zwo : (Tryz.prog.underlying 148).isSome = true := by kernel_rfl
@[simp] theorem zx6 : za8 Tryz.prog 148 = true := by kernel_rfl
@[simp] theorem zxD : stT Tryz.prog 148 = some [3, 9, 3, 3] := by kernel_rfl
@[simp] theorem zw0 : zbH Tryz.prog 148 = false := by kernel_rfl
@[simp] theorem zxU : zfc Tryz.prog 148 = true := by kernel_rfl
@[simp] theorem zv4 : zbL Tryz.prog 148 = some [.int .i64 0, .string ⟨#[]⟩, .int .i64 0, .int .i64 0] := by kernel_rfl
@[simp] theorem zxj : zdL Tryz.prog 148 = false := by kernel_rfl
@[simp] theorem zxP : zr3 Tryz.prog 148 = some [.int, .str, .int, .int] := by kernel_rfl
@[simp] theorem zu1 : zcJ Tryz.prog 148 0 = some (0, 1, none) := by kernel_rfl
@[simp] theorem zu0 : zcJ Tryz.prog 148 1 = some (1, 1, none) := by kernel_rfl
@[simp] theorem zuZ : zcJ Tryz.prog 148 2 = some (2, 1, none) := by kernel_rfl
@[simp] theorem zuY : zcJ Tryz.prog 148 3 = some (3, 1, none) := by kernel_rfl
@[simp] theorem zvS : zp Tryz.prog 148 = some ([.int .i64 0, .string ⟨#[]⟩, .int .i64 0, .int .i64 0], [(0, 1), (1, 1), (2, 1), (3, 1)]) := by kernel_rfl
@[simp] theorem zyy : zdB Tryz.prog 166 = some none := by kernel_rfl
@[simp] theorem zwG : tsz Tryz.prog 166 = some 1 := by kernel_rfl
@[simp] theorem zwn : (Tryz.prog.underlying 166).isSome = true := by kernel_rfl
@[simp] theorem zx5 : za8 Tryz.prog 166 = true := by kernel_rfl
@[simp] theorem zxC : stT Tryz.prog 166 = none := by kernel_rfl
@[simp] theorem zwZ : zbH Tryz.prog 166 = false := by kernel_rfl
@[simp] theorem zv3 : zbL Tryz.prog 166 = some [.pointer none] := by kernel_rfl
@[simp] theorem zxi : zdL Tryz.prog 166 = false := by kernel_rfl
@[simp] theorem zyx : zdB Tryz.prog 173 = some none := by kernel_rfl
@[simp] theorem zwF : tsz Tryz.prog 173 = some 1 := by kernel_rfl
@[simp] theorem zwm : (Tryz.prog.underlying 173).isSome = true := by kernel_rfl
@[simp] theorem zx4 : za8 Tryz.prog 173 = true := by kernel_rfl
@[simp] theorem zxB : stT Tryz.prog 173 = none := by kernel_rfl
@[simp] theorem zwY : zbH Tryz.prog 173 = false := by kernel_rfl
@[simp] theorem zv2 : zbL Tryz.prog 173 = some [.slice none 0 0] := by kernel_rfl
@[simp] theorem zxh : zdL Tryz.prog 173 = true := by kernel_rfl
@[simp] theorem zyQ : zi8 Tryz.prog 173 = some (148, 4) := by kernel_rfl
@[simp] theorem zyT : ze5 Tryz.prog 173 = some (148, 4, 40, [.int .i64 0, .string ⟨#[]⟩, .int .i64 0, .int .i64 0]) := by kernel_rfl
@[simp] theorem zyw : zdB Tryz.prog 177 = some (some 2) := by kernel_rfl
@[simp] theorem zwE : tsz Tryz.prog 177 = some 2 := by kernel_rfl
@[simp] theorem zwl : (Tryz.prog.underlying 177).isSome = true := by kernel_rfl
@[simp] theorem zx3 : za8 Tryz.prog 177 = true := by kernel_rfl
@[simp] theorem zxA : stT Tryz.prog 177 = some [173, 3] := by kernel_rfl
@[simp] theorem zwX : zbH Tryz.prog 177 = false := by kernel_rfl
@[simp] theorem zxT : zfc Tryz.prog 177 = true := by kernel_rfl
@[simp] theorem zv1 : zbL Tryz.prog 177 = some [.slice none 0 0, .int .i64 0] := by kernel_rfl
@[simp] theorem zxg : zdL Tryz.prog 177 = false := by kernel_rfl
@[simp] theorem zuX : zcJ Tryz.prog 177 0 = some (0, 1, none) := by kernel_rfl
@[simp] theorem zuW : zcJ Tryz.prog 177 1 = some (1, 1, none) := by kernel_rfl
@[simp] theorem zvR : zp Tryz.prog 177 = some ([.slice none 0 0, .int .i64 0], [(0, 1), (1, 1)]) := by kernel_rfl
@[simp] theorem zyv : zdB Tryz.prog 179 = some (some 2) := by kernel_rfl
@[simp] theorem zwD : tsz Tryz.prog 179 = some 2 := by kernel_rfl
@[simp] theorem zwk : (Tryz.prog.underlying 179).isSome = true := by kernel_rfl
@[simp] theorem zx2 : za8 Tryz.prog 179 = true := by kernel_rfl
@[simp] theorem zxz : stT Tryz.prog 179 = some [3, 30] := by kernel_rfl
@[simp] theorem zwW : zbH Tryz.prog 179 = false := by kernel_rfl
@[simp] theorem zxS : zfc Tryz.prog 179 = true := by kernel_rfl
@[simp] theorem zv0 : zbL Tryz.prog 179 = some [.int .i64 0, .int .i64 0] := by kernel_rfl
@[simp] theorem zxf : zdL Tryz.prog 179 = false := by kernel_rfl
@[simp] theorem zxO : zr3 Tryz.prog 179 = some [.int, .int] := by kernel_rfl
@[simp] theorem zuV : zcJ Tryz.prog 179 0 = some (0, 1, none) := by kernel_rfl
@[simp] theorem zuU : zcJ Tryz.prog 179 1 = some (1, 1, none) := by kernel_rfl
@[simp] theorem zvQ : zp Tryz.prog 179 = some ([.int .i64 0, .int .i64 0], [(0, 1), (1, 1)]) := by kernel_rfl
@[simp] theorem zyu : zdB Tryz.prog 184 = some none := by kernel_rfl
@[simp] theorem zwC : tsz Tryz.prog 184 = some 1 := by kernel_rfl
@[simp] theorem zwj : (Tryz.prog.underlying 184).isSome = true := by kernel_rfl
@[simp] theorem zx1 : za8 Tryz.prog 184 = true := by kernel_rfl
@[simp] theorem zxy : stT Tryz.prog 184 = none := by kernel_rfl
@[simp] theorem zwV : zbH Tryz.prog 184 = false := by kernel_rfl
@[simp] theorem zvZ : zbL Tryz.prog 184 = some [.slice none 0 0] := by kernel_rfl
@[simp] theorem zxe : zdL Tryz.prog 184 = true := by kernel_rfl
@[simp] theorem zyP : zi8 Tryz.prog 184 = some (186, 3) := by kernel_rfl
@[simp] theorem zyS : ze5 Tryz.prog 184 = some (186, 3, 32, [.string ⟨#[]⟩, .int .i64 0, .int .i64 0]) := by kernel_rfl
@[simp] theorem zyt : zdB Tryz.prog 186 = some (some 3) := by kernel_rfl
@[simp] theorem zwB : tsz Tryz.prog 186 = some 3 := by kernel_rfl
@[simp] theorem zwi : (Tryz.prog.underlying 186).isSome = true := by kernel_rfl
@[simp] theorem zx0 : za8 Tryz.prog 186 = true := by kernel_rfl
@[simp] theorem zxx : stT Tryz.prog 186 = some [9, 3, 3] := by kernel_rfl
@[simp] theorem zwU : zbH Tryz.prog 186 = false := by kernel_rfl
@[simp] theorem zxR : zfc Tryz.prog 186 = true := by kernel_rfl
@[simp] theorem zvY : zbL Tryz.prog 186 = some [.string ⟨#[]⟩, .int .i64 0, .int .i64 0] := by kernel_rfl
@[simp] theorem zxd : zdL Tryz.prog 186 = false := by kernel_rfl
@[simp] theorem zxN : zr3 Tryz.prog 186 = some [.str, .int, .int] := by kernel_rfl
@[simp] theorem zuT : zcJ Tryz.prog 186 0 = some (0, 1, none) := by kernel_rfl
@[simp] theorem zuS : zcJ Tryz.prog 186 1 = some (1, 1, none) := by kernel_rfl
@[simp] theorem zuR : zcJ Tryz.prog 186 2 = some (2, 1, none) := by kernel_rfl
@[simp] theorem zvP : zp Tryz.prog 186 = some ([.string ⟨#[]⟩, .int .i64 0, .int .i64 0], [(0, 1), (1, 1), (2, 1)]) := by kernel_rfl
@[simp] theorem zys : zdB Tryz.prog 188 = some none := by kernel_rfl
@[simp] theorem zwA : tsz Tryz.prog 188 = some 1 := by kernel_rfl
@[simp] theorem zwh : (Tryz.prog.underlying 188).isSome = true := by kernel_rfl
@[simp] theorem zxZ : za8 Tryz.prog 188 = true := by kernel_rfl
@[simp] theorem zxw : stT Tryz.prog 188 = none := by kernel_rfl
@[simp] theorem zwT : zbH Tryz.prog 188 = false := by kernel_rfl
@[simp] theorem zvX : zbL Tryz.prog 188 = some [.nilFunc] := by kernel_rfl
@[simp] theorem zxc : zdL Tryz.prog 188 = false := by kernel_rfl
@[simp] theorem zyr : zdB Tryz.prog 199 = some none := by kernel_rfl
@[simp] theorem zwz : tsz Tryz.prog 199 = some 1 := by kernel_rfl
@[simp] theorem zwg : (Tryz.prog.underlying 199).isSome = true := by kernel_rfl
@[simp] theorem zxY : za8 Tryz.prog 199 = true := by kernel_rfl
@[simp] theorem zxv : stT Tryz.prog 199 = none := by kernel_rfl
@[simp] theorem zwS : zbH Tryz.prog 199 = false := by kernel_rfl
@[simp] theorem zvW : zbL Tryz.prog 199 = some [.nilFunc] := by kernel_rfl
@[simp] theorem zxb : zdL Tryz.prog 199 = false := by kernel_rfl
@[simp] theorem zyq : zdB Tryz.prog 226 = some (some 11) := by kernel_rfl
@[simp] theorem zwy : tsz Tryz.prog 226 = some 11 := by kernel_rfl
@[simp] theorem zwf : (Tryz.prog.underlying 226).isSome = true := by kernel_rfl
@[simp] theorem zxX : za8 Tryz.prog 226 = false := by kernel_rfl
@[simp] theorem zxu : stT Tryz.prog 226 = none := by kernel_rfl
@[simp] theorem zwR : zbH Tryz.prog 226 = false := by kernel_rfl
@[simp] theorem zzI : zsf Tryz.prog 226 = some 11 := by kernel_rfl
@[simp] theorem zvV : zbL Tryz.prog 226 = some [.string ⟨#[]⟩, .string ⟨#[]⟩, .string ⟨#[]⟩, .string ⟨#[]⟩, .string ⟨#[]⟩, .string ⟨#[]⟩, .string ⟨#[]⟩, .string ⟨#[]⟩, .string ⟨#[]⟩, .string ⟨#[]⟩, .string ⟨#[]⟩] := by kernel_rfl
@[simp] theorem zxa : zdL Tryz.prog 226 = false := by kernel_rfl
@[simp] theorem zzT : zp Tryz.prog 76 = some ([.string ⟨#[]⟩, .string ⟨#[]⟩, .string ⟨#[]⟩, .string ⟨#[]⟩, .string ⟨#[]⟩, .string ⟨#[]⟩, .string ⟨#[]⟩, .string ⟨#[]⟩, .string ⟨#[]⟩, .string ⟨#[]⟩, .string ⟨#[]⟩, .string ⟨#[]⟩, .string ⟨#[]⟩, .string ⟨#[]⟩, .string ⟨#[]⟩], [(0, 1), (1, 1), (2, 1), (3, 1), (4, 1), (5, 1), (6, 1), (7, 1), (8, 1), (9, 1), (10, 1), (11, 1), (12, 1), (13, 1), (14, 1)]) := by kernel_rfl
@[simp] theorem zvO : zp Tryz.prog 226 = some ([.string ⟨#[]⟩, .string ⟨#[]⟩, .string ⟨#[]⟩, .string ⟨#[]⟩, .string ⟨#[]⟩, .string ⟨#[]⟩, .string ⟨#[]⟩, .string ⟨#[]⟩, .string ⟨#[]⟩, .string ⟨#[]⟩, .string ⟨#[]⟩], [(0, 1), (1, 1), (2, 1), (3, 1), (4, 1), (5, 1), (6, 1), (7, 1), (8, 1), (9, 1), (10, 1)]) := by kernel_rfl
@[simp] theorem ca7 : zae Tryz.prog 7 = true := by kernel_rfl
@[simp] theorem ca9 : zae Tryz.prog 9 = true := by kernel_rfl
@[simp] theorem zEx : zae Tryz.prog 10 = true := by kernel_rfl
@[simp] theorem zEw : zae Tryz.prog 12 = true := by kernel_rfl
@[simp] theorem zEv : zae Tryz.prog 14 = true := by kernel_rfl
@[simp] theorem zEu : zae Tryz.prog 17 = true := by kernel_rfl
@[simp] theorem zEt : zae Tryz.prog 19 = true := by kernel_rfl
@[simp] theorem zEs : zae Tryz.prog 21 = true := by kernel_rfl
@[simp] theorem zEr : zae Tryz.prog 22 = true := by kernel_rfl
@[simp] theorem zEq : zae Tryz.prog 26 = true := by kernel_rfl
@[simp] theorem zEp : zae Tryz.prog 27 = true := by kernel_rfl
@[simp] theorem zEo : zae Tryz.prog 29 = true := by kernel_rfl
@[simp] theorem zEn : zae Tryz.prog 32 = true := by kernel_rfl
@[simp] theorem zEm : zae Tryz.prog 33 = true := by kernel_rfl
@[simp] theorem zEl : zae Tryz.prog 34 = true := by kernel_rfl
@[simp] theorem zEk : zae Tryz.prog 35 = true := by kernel_rfl
@[simp] theorem zEj : zae Tryz.prog 36 = true := by kernel_rfl
@[simp] theorem zEi : zae Tryz.prog 37 = true := by kernel_rfl
@[simp] theorem zEh : zae Tryz.prog 38 = true := by kernel_rfl
@[simp] theorem zEg : zae Tryz.prog 41 = true := by kernel_rfl
@[simp] theorem zEf : zae Tryz.prog 42 = true := by kernel_rfl
@[simp] theorem zEe : zae Tryz.prog 43 = true := by kernel_rfl
@[simp] theorem zEd : zae Tryz.prog 44 = true := by kernel_rfl
@[simp] theorem zEc : zae Tryz.prog 47 = true := by kernel_rfl
@[simp] theorem zEb : zae Tryz.prog 48 = true := by kernel_rfl
@[simp] theorem zEa : zae Tryz.prog 50 = true := by kernel_rfl
@[simp] theorem zD9 : zae Tryz.prog 54 = true := by kernel_rfl
@[simp] theorem zD8 : zae Tryz.prog 55 = true := by kernel_rfl
@[simp] theorem zD7 : zae Tryz.prog 58 = true := by kernel_rfl
@[simp] theorem zD6 : zae Tryz.prog 59 = true := by kernel_rfl
@[simp] theorem zD5 : zae Tryz.prog 60 = true := by kernel_rfl
@[simp] theorem zD4 : zae Tryz.prog 62 = true := by kernel_rfl
@[simp] theorem zD3 : zae Tryz.prog 64 = true := by kernel_rfl
@[simp] theorem zD2 : zae Tryz.prog 65 = true := by kernel_rfl
@[simp] theorem zD1 : zae Tryz.prog 66 = true := by kernel_rfl
@[simp] theorem zD0 : zae Tryz.prog 67 = true := by kernel_rfl
@[simp] theorem zDZ : zae Tryz.prog 68 = true := by kernel_rfl
@[simp] theorem zDY : zae Tryz.prog 75 = true := by kernel_rfl
@[simp] theorem zDX : zae Tryz.prog 76 = true := by kernel_rfl
@[simp] theorem zDW : zae Tryz.prog 77 = true := by kernel_rfl
@[simp] theorem zDV : zae Tryz.prog 82 = true := by kernel_rfl
@[simp] theorem zDU : zae Tryz.prog 84 = true := by kernel_rfl
@[simp] theorem zDT : zae Tryz.prog 86 = true := by kernel_rfl
@[simp] theorem zDS : zae Tryz.prog 87 = true := by kernel_rfl
@[simp] theorem zDR : zae Tryz.prog 88 = true := by kernel_rfl
@[simp] theorem zDQ : zae Tryz.prog 90 = true := by kernel_rfl
@[simp] theorem zDP : zae Tryz.prog 91 = true := by kernel_rfl
@[simp] theorem zDO : zae Tryz.prog 94 = true := by kernel_rfl
@[simp] theorem zzD : zae Tryz.prog 103 = true := by kernel_rfl
@[simp] theorem zzC : zae Tryz.prog 104 = true := by kernel_rfl
@[simp] theorem zzB : zae Tryz.prog 105 = true := by kernel_rfl
@[simp] theorem zzA : zae Tryz.prog 106 = true := by kernel_rfl
@[simp] theorem zzz : zae Tryz.prog 107 = true := by kernel_rfl
@[simp] theorem zzy : zae Tryz.prog 108 = true := by kernel_rfl
@[simp] theorem zzx : zae Tryz.prog 109 = true := by kernel_rfl
@[simp] theorem zzw : zae Tryz.prog 110 = true := by kernel_rfl
@[simp] theorem zzv : zae Tryz.prog 111 = true := by kernel_rfl
@[simp] theorem zzu : zae Tryz.prog 115 = true := by kernel_rfl
@[simp] theorem zzt : zae Tryz.prog 117 = true := by kernel_rfl
@[simp] theorem zzs : zae Tryz.prog 118 = true := by kernel_rfl
@[simp] theorem zzr : zae Tryz.prog 119 = true := by kernel_rfl
@[simp] theorem zzq : zae Tryz.prog 126 = true := by kernel_rfl
@[simp] theorem zzp : zae Tryz.prog 127 = true := by kernel_rfl
@[simp] theorem zzo : zae Tryz.prog 128 = true := by kernel_rfl
@[simp] theorem zzn : zae Tryz.prog 131 = true := by kernel_rfl
@[simp] theorem zzm : zae Tryz.prog 134 = true := by kernel_rfl
@[simp] theorem zzl : zae Tryz.prog 135 = true := by kernel_rfl
@[simp] theorem zzk : zae Tryz.prog 138 = true := by kernel_rfl
@[simp] theorem zzj : zae Tryz.prog 139 = true := by kernel_rfl
@[simp] theorem zzi : zae Tryz.prog 140 = true := by kernel_rfl
@[simp] theorem zzh : zae Tryz.prog 141 = true := by kernel_rfl
@[simp] theorem zzg : zae Tryz.prog 142 = true := by kernel_rfl
@[simp] theorem zzf : zae Tryz.prog 143 = true := by kernel_rfl
@[simp] theorem zze : zae Tryz.prog 145 = true := by kernel_rfl
@[simp] theorem zzd : zae Tryz.prog 154 = true := by kernel_rfl
@[simp] theorem zzc : zae Tryz.prog 155 = true := by kernel_rfl
@[simp] theorem zzb : zae Tryz.prog 156 = true := by kernel_rfl
@[simp] theorem zza : zae Tryz.prog 157 = true := by kernel_rfl
@[simp] theorem zy9 : zae Tryz.prog 161 = true := by kernel_rfl
@[simp] theorem zy8 : zae Tryz.prog 162 = true := by kernel_rfl
@[simp] theorem zy7 : zae Tryz.prog 163 = true := by kernel_rfl
@[simp] theorem zy6 : zae Tryz.prog 166 = true := by kernel_rfl
@[simp] theorem zy5 : zae Tryz.prog 167 = true := by kernel_rfl
@[simp] theorem zy4 : zae Tryz.prog 168 = true := by kernel_rfl
@[simp] theorem zy3 : zae Tryz.prog 169 = true := by kernel_rfl
@[simp] theorem zy2 : zae Tryz.prog 170 = true := by kernel_rfl
@[simp] theorem zy1 : zae Tryz.prog 180 = true := by kernel_rfl
@[simp] theorem zy0 : zae Tryz.prog 181 = true := by kernel_rfl
@[simp] theorem zyZ : zae Tryz.prog 182 = true := by kernel_rfl
@[simp] theorem zyY : zae Tryz.prog 183 = true := by kernel_rfl
@[simp] theorem zyX : zae Tryz.prog 189 = true := by kernel_rfl
end Go.Proofs.YtkdhmbhbbciedaaGreatDoor
namespace Go.VL
open Go
section
theorem zrw {k n n' ret q} (_ : (True /\ True) = q) (h0 : n = n') : arith k n ret = arith k n' ret := by rw [h0]
theorem zs9 {op k a b a' b' ret q} (_ : (True /\ True) = q) (h0 : a = a') (h1 : b = b') : binI op k a b ret = binI op k a' b' ret := by rw [h0, h1]
theorem zs8 {op a b a' b' ret q} (_ : (True /\ True) = q) (h0 : a = a') (h1 : b = b') : binS op a b ret = binS op a' b' ret := by rw [h0, h1]
theorem ztb {P op t a b a' b' ret q} (_ : (True /\ True) = q) (h0 : a = a') (h1 : b = b') : binB P op t a b ret = binB P op t a' b' ret := by rw [h0, h1]
theorem zpO {op k a b a' b' ret q} (_ : (True /\ True) = q) (h0 : a = a') (h1 : b = b') : shiftI op k a b ret = shiftI op k a' b' ret := by rw [h0, h1]
theorem zs3 {op b b' ret q} (_ : (True /\ True) = q) (h0 : b = b') : nilD op b ret = nilD op b' ret := by rw [h0]
theorem ztc {P op t x y x' y' ret q} (_ : (True /\ True) = q) (h0 : x = x') (h1 : y = y') : aggD P op t x y ret = aggD P op t x' y' ret := by rw [h0, h1]
theorem zta {P op t x y x' y' ret q} (_ : (True /\ True) = q) (h0 : x = x') (h1 : y = y') : binD P op t x y ret = binD P op t x' y' ret := by rw [h0, h1]
theorem zua {op x x' ret q} (_ : (True /\ True) = q) (h0 : x = x') : unD op x ret = unD op x' ret := by rw [h0]
theorem zrr {P s t x x' ret q} (_ : (True /\ True) = q) (h0 : x = x') : loadD P s t x ret = loadD P s t x' ret := by rw [h0]
theorem zj7 {P t x f x' ret q} (_ : (True /\ True) = q) (h0 : x = x') : fieldAddrD P t x f ret = fieldAddrD P t x' f ret := by rw [h0]
theorem zpU {P t x f x' ret q} (_ : (True /\ True) = q) (h0 : x = x') : fieldD P t x f ret = fieldD P t x' f ret := by rw [h0]
theorem zmi {P s t x i x' i' ret q} (_ : (True /\ True) = q) (h0 : x = x') (h1 : i = i') : indexSlD P s t x i ret = indexSlD P s t x' i' ret := by rw [h0, h1]
theorem zoh {P t i i' ret q} (_ : (True /\ True) = q) (h0 : i = i') : arrAddr P t i ret = arrAddr P t i' ret := by rw [h0]
theorem zj6 {P s t x i x' i' ret q} (_ : (True /\ True) = q) (h0 : x = x') (h1 : i = i') : indexAddrD P s t x i ret = indexAddrD P s t x' i' ret := by rw [h0, h1]
theorem zpT {P t x i x' i' ret q} (_ : (True /\ True) = q) (h0 : x = x') (h1 : i = i') : indexD P t x i ret = indexD P t x' i' ret := by rw [h0, h1]
theorem zs6 {n lo hi n' lo' hi' ret q} (_ : (True /\ True) = q) (h0 : n = n') (h1 : lo = lo') (h2 : hi = hi') : cutD n lo hi ret = cutD n' lo' hi' ret := by rw [h0, h1, h2]
theorem zpN {P s t x lo hi x' lo' hi' ret q} (_ : (True /\ True) = q) (h0 : x = x') (h1 : lo = lo') (h2 : hi = hi') : sliceD P s t x lo hi ret = sliceD P s t x' lo' hi' ret := by rw [h0, h1, h2]
theorem zru {p a c a' c' ret q} (_ : (True /\ True) = q) (h0 : a = a') (h1 : c = c') : fillD p a c ret = fillD p a' c' ret := by rw [h0, h1]
theorem zpX {P t a a' ret q} (_ : (True /\ True) = q) (h0 : a = a') : buildD P t a ret = buildD P t a' ret := by rw [h0]
theorem zs4 {P s t x x' ret q} (_ : (True /\ True) = q) (h0 : x = x') : lenD P s t x ret = lenD P s t x' ret := by rw [h0]
theorem zod {b l l' ret q} (_ : (True /\ True) = q) (h0 : l = l') : minmaxD b l ret = minmaxD b l' ret := by rw [h0]
theorem zrq {P s t x i ok x' i' ret q} (_ : (True /\ True) = q) (h0 : x = x') (h1 : i = i') : lookD P s t x i ok ret = lookD P s t x' i' ok ret := by rw [h0, h1]
theorem zrp {ag z r ok r' ret q} (_ : (True /\ True) = q) (h0 : r = r') : lookR ag z r ok ret = lookR ag z r' ok ret := by rw [h0]
theorem zrv {P a b x x' ret q} (_ : (True /\ True) = q) (h0 : x = x') : convD P a b x ret = convD P a b x' ret := by rw [h0]
theorem zln {x x' ret q} (_ : (True /\ True) = q) (h0 : x = x') : nilCheckD x ret = nilCheckD x' ret := by rw [h0]
theorem zlo {f a b a' b' ret q} (_ : (True /\ True) = q) (h0 : a = a') (h1 : b = b') : makeFuncD f a b ret = makeFuncD f a' b' ret := by rw [h0, h1]
theorem zof {P t x x' ret q} (_ : (True /\ True) = q) (h0 : x = x') : makeIfD P t x ret = makeIfD P t x' ret := by rw [h0]
theorem ziu {P x t ok x' ret q} (_ : (True /\ True) = q) (h0 : x = x') : typeAssertD P x t ok ret = typeAssertD P x' t ok ret := by rw [h0]
theorem zpV {P s op s' ret q} (_ : (True /\ True) = q) (h0 : s = s') : evPure P s op ret = evPure P s' op ret := by rw [h0]
theorem zpY {P t s d ret q} (_ : (True /\ True) = q)  : zbK P t s d ret = zbK P t s d ret := by rfl
theorem zs7 {x s d x' ret q} (_ : (True /\ True) = q) (h0 : x = x') : zeT x s d ret = zeT x' s d ret := by rw [h0]
theorem zpM {P t a x s a' x' ret q} (_ : (True /\ True) = q) (h0 : a = a') (h1 : x = x') : zbJ P t a x s ret = zbJ P t a' x' s ret := by rw [h0, h1]
theorem ziv {P t n a s d a' ret q} (_ : (True /\ True) = q) (h0 : a = a') : zak P t n a s d ret = zak P t n a' s d ret := by rw [h0]
theorem zoi {P t x y s d x' y' ret q} (_ : (True /\ True) = q) (h0 : x = x') (h1 : y = y') : zbd P t x y s d ret = zbd P t x' y' s d ret := by rw [h0, h1]
theorem zro {P t x y s d x' y' ret q} (_ : (True /\ True) = q) (h0 : x = x') (h1 : y = y') : zcU P t x y s d ret = zcU P t x' y' s d ret := by rw [h0, h1]
theorem zmh {P t s d ret q} (_ : (True /\ True) = q)  : zaP P t s d ret = zaP P t s d ret := by rfl
theorem zoe {P t x y z s x' y' z' ret q} (_ : (True /\ True) = q) (h0 : x = x') (h1 : y = y') (h2 : z = z') : za5 P t x y z s ret = za5 P t x' y' z' s ret := by rw [h0, h1, h2]
theorem zpQ {P t x s d x' ret q} (_ : (True /\ True) = q) (h0 : x = x') : zbM P t x s d ret = zbM P t x' s d ret := by rw [h0]
theorem zrn {x s d x' ret q} (_ : (True /\ True) = q) (h0 : x = x') : nextD x s d ret = nextD x' s d ret := by rw [h0]
theorem zpP {P t z s d z' ret q} (_ : (True /\ True) = q) (h0 : z = z') : rangeS P t z s d ret = rangeS P t z' s d ret := by rw [h0]
theorem zrm {x s d x' ret q} (_ : (True /\ True) = q) (h0 : x = x') : nextS x s d ret = nextS x' s d ret := by rw [h0]
theorem zpW {x s x' ret q} (_ : (True /\ True) = q) (h0 : x = x') : zbR x s ret = zbR x' s ret := by rw [h0]
theorem zpR {d d' ret q} (_ : (True /\ True) = q) (h0 : d = d') : zbN d ret = zbN d' ret := by rw [h0]
theorem zpS {P s t x y z x' y' z' ret q} (_ : (True /\ True) = q) (h0 : x = x') (h1 : y = y') (h2 : z = z') : mapEff P s t x y z ret = mapEff P s t x' y' z' ret := by rw [h0, h1, h2]
theorem zs5 {P s op s' ret q} (_ : (True /\ True) = q) (h0 : s = s') : effD P s op ret = effD P s' op ret := by rw [h0]
theorem zs1 {P s op s' ret q} (_ : (True /\ True) = q) (h0 : s = s') : valD P s op ret = valD P s' op ret := by rw [h0]
theorem zrs {P Γ d op s s' ret q} (_ : (True /\ True) = q) (h0 : s = s') : zbP P Γ d op s ret = zbP P Γ d op s' ret := by rw [h0]
theorem zrz {P s f a s' ret q} (_ : (True /\ True) = q) (h0 : s = s') : CallV P s f a ret = CallV P s' f a ret := by rw [h0]
theorem zs2 {P s rs s' rs' ret q} (_ : (True /\ True) = q) (h0 : s = s') (h1 : rs = rs') : zdT P s rs ret = zdT P s' rs' ret := by rw [h0, h1]
theorem zog {α : Type} {c c' : List α} {o o' l l' f g z} (_ : (True /\ True) = z) (h : c = c') (h1 : o = o') (h2 : l = l') : cellsAt c o l f g = cellsAt c' o' l' f g := by rw [h, h1, h2]
attribute [congr] zrw zs9 zs8 ztb zpO zs3 ztc zta zua zrr zj7 zpU zmi zoh zj6 zpT zs6 zpN zru zpX zs4 zod zrq zrp zrv zln zlo zof ziu zpV zpY zs7 zpM ziv zoi zro zmh zoe zpQ zrn zpP zrm zpW zpR zpS zs5 zs1 zrs zrz zs2 zog
theorem zrA {P Γ f a d s s' k z} (_ : (True /\ True) = z) (h : s = s') : CallP P Γ f a d s k = CallP P Γ f a d s' k := by rw [h]
attribute [congr] zrA
end
def Cnd (p q A B : Prop) : Prop := (p -> A) /\ (q -> B)
theorem Cnd.of {p q A B : Prop} (h : p -> A) (h' : q -> B) : Cnd p q A B := ⟨h, h'⟩
theorem zcq {A B : Prop} : Cnd True False A B = A := by simp [Cnd]
theorem zcr {A B : Prop} : Cnd False True A B = B := by simp [Cnd]
theorem zuh {p q p' q' A B z : Prop} (_ : (True /\ True) = z) (h : p = p') (h' : q = q') : Cnd p q A B = Cnd p' q' A B := by rw [h, h']
def HR (P : Program) (Γ : Ctx) : List O1 -> St -> (St -> Prop) -> Prop
 | [], s, k => k s
 | o :: r, s, k => match o.guard with
  | none => zbP P Γ o.dst o.op s fun s' => HR P Γ r s' k
  | some (t, want) => match getK s.env t with
   | some (.u (.bool b)) => zaq o.dst s ∧ Cnd (b = want) (b = !want)
         (zbP P Γ o.dst o.op (s.put (some t) (.u (.bool want))) fun s' => HR P Γ r s' k)
         (HR P Γ r ((s.put (some t) (.u (.bool (!want)))).put o.dst .un) k)
   | some (.u (.oth v)) => v = undef /\ zaq o.dst s /\ HR P Γ r (s.put o.dst .un) k
   | _ => False
theorem zsl {P Γ} {all : Array Oper} {k : St -> Prop} : ∀ {l : List O1} {ops : List Oper} {s}, zaW all ops = some l -> HR P Γ l s k -> G P Γ all ops s k
 | [], ops, s, e, h => by
  cases ops with
  | nil => exact zuw h
  | cons x l => simp only [zaW] at e; split at e <;> simp at e
 | o :: r, ops, s, e, h => by
  obtain ⟨x, ops', rfl, hx, hr⟩ := zdS e;obtain ⟨dst, op, type, pos, after, guard⟩ := x;unfold zcy at hx;unfold HR at h;simp only at hx;cases guard with
  | none =>
   simp at hx;subst hx;exact zni ((zee (o := { dst, op, type, pos, after, guard := none }) h).mono fun s' h => zsl hr h)
  | some g =>
   obtain ⟨j, b⟩ := g;simp only at hx;split at hx
   ·rename_i t ht;simp at hx;subst hx;simp only at h;split at h
    ·rename_i b' hb;obtain ⟨hp, hy, hn⟩ := h;exact zqf ht hb hp (fun e => zni ((zee (o := { dst, op, type, pos, after, guard := none }) (hy e)).mono fun s' h => zsl hr h)) (fun e => zsl hr (hn e))
    ·rename_i v hb;obtain ⟨rfl, hp, hn⟩ := h;exact znh ht hb hp (zsl hr hn)
    ·exact h.elim
   ·cases hx
theorem zsm {P Γ all ops s} {k k' : St -> Prop} (h : G P Γ all ops s k) (hk : ∀ s, k s -> k' s) : G P Γ all ops s k' :=
 fun K a w h1 h2 Q hQ => h K a w h1 h2 Q fun K' a' w' s' h3 h4 h5 => hQ K' a' w' s' h3 h4 (hk _ h5)
def vs2 (P : Program) (Γ : Ctx) (Q : Exit -> St -> Prop) (R : Kt -> Exit -> St -> Prop) : Code -> Kt -> St -> Prop
 | .seq a b, k, s => vs2 P Γ Q R a (.seq b k) s
 | .block id c, k, s => vs2 P Γ Q R c (.blk id k) s
 | .skip, k, s => R k .normal s
 | .label _, k, s => R k .normal s
 | .exit id, k, s => R k (.exit id) s
 | .ret, k, s => R k .ret s
 | .cond c x y, k, s => match opd s c with
  | .u (.bool t) => Cnd (t = true) (t = false) (vs2 P Γ Q R x k s) (vs2 P Γ Q R y k s)
  | _ => False
 | .region _ l false, k, s => match zaW l l.toList with | some l' => HR P Γ l' s (R k .normal) | none => False
 | c, k, s => V P Γ c s (za3 P Γ Q k)
theorem zkh {P Γ Q} {R : Kt -> Exit -> St -> Prop} (hR : ∀ k e s, R k e s -> za3 P Γ Q k e s) : ∀ {c : Code} {k : Kt} {s : St}, vs2 P Γ Q R c k s -> V P Γ c s (za3 P Γ Q k)
 | .seq a b, k, s, h => zp5 (zkh hR (c := a) (by rw [vs2] at h; exact h))
 | .block id c, k, s, h => zmp (zkh hR (c := c) (by rw [vs2] at h; exact h))
 | .skip, k, s, h => zlx (hR _ _ _ (by rw [vs2] at h; exact h))
 | .label _, k, s, h => zp7 (hR _ _ _ (by rw [vs2] at h; exact h))
 | .exit id, k, s, h => zqa (hR _ _ _ (by rw [vs2] at h; exact h))
 | .ret, k, s, h => zoq (hR _ _ _ (by rw [vs2] at h; exact h))
 | .cond c x y, k, s, h => by
  rw [vs2] at h;split at h
  ·rename_i t ht;exact zsi ht (fun e => zkh hR (h.1 e)) (fun e => zkh hR (h.2 e))
  ·exact h.elim
 | .region id l false, k, s, h => by
  rw [vs2] at h;have := zly (P := P) (Γ := Γ) (s := s) (Q := Q) (kt := k) (id := id) (l := l.toList) fun K hK => by
   split at h
   ·rename_i l' hl;simp only [Array.toArray_toList]
    try rw [hl]
    exact fun all ops e => zsm (zsl e h) fun s hs => hK _ (hR _ _ _ hs)
   ·exact h.elim
  simpa using this
 | .region _ _ true, k, s, h => by rw [vs2] at h; exact h; all_goals simp
 | .loop c, k, s, h => by rw [vs2] at h; exact h; all_goals simp
 | .rangeFunc .., k, s, h => by rw [vs2] at h; exact h; all_goals simp
 | .scope .., k, s, h => by rw [vs2] at h; exact h; all_goals simp
 | .goto .., k, s, h => by rw [vs2] at h; exact h; all_goals simp
 | .refuse .., k, s, h => by rw [vs2] at h; exact h; all_goals simp
def RN (P : Program) (Γ : Ctx) (Q : Exit -> St -> Prop) : Nat -> Kt -> Exit -> St -> Prop
 | 0, k, e, s => za3 P Γ Q k e s
 | _ + 1, .done, e, s => Q e s
 | n + 1, .seq b k, .normal, s => vs2 P Γ Q (RN P Γ Q n) b k s
 | n + 1, .seq _ k, e, s => RN P Γ Q n k e s
 | n + 1, .blk id k, .exit id', s => if id' = id then RN P Γ Q n k .normal s else RN P Γ Q n k (.exit id') s
 | n + 1, .blk _ k, e, s => RN P Γ Q n k e s
 | _ + 1, .loop I _, .normal, s => I s
 | n + 1, .loop _ k, e, s => RN P Γ Q n k e s
theorem zdb {P Γ Q} : ∀ n k e s, RN P Γ Q n k e s -> za3 P Γ Q k e s
 | 0, _, _, _, h => h
 | n + 1, k, e, s, h => by
  have ih := zdb (P := P) (Γ := Γ) (Q := Q) n;cases k <;> cases e <;> simp only [RN, za3] at h ⊢ <;> first | exact h | exact ih _ _ _ h | exact zkh ih h | (split at h <;> rename_i hc <;> first | (rw [if_pos hc]; exact ih _ _ _ h) | (rw [if_neg hc]; exact ih _ _ _ h))
def zuJ : Code -> Bool
 | .loop _ | .rangeFunc .. | .scope .. | .region _ _ true => false
 | _ => true
theorem zaf {P Γ Q c k s} (_ : zuJ c = true) (h : vs2 P Γ Q (RN P Γ Q 8) c k s) : V P Γ c s (za3 P Γ Q k) := zkh (zdb 8) h
theorem zgs {P Γ Q c k s} (_ : zuJ c = true) (h : vs2 P Γ Q (RN P Γ Q 0) c k s) : V P Γ c s (za3 P Γ Q k) := zkh (zdb 0) h
theorem zum {P Γ c s} {Q Q' : Exit -> St -> Prop} (h : V P Γ c s Q) (hq : ∀ e s, Q e s -> Q' e s) : V P Γ c s Q' := fun K a w hin hs => by
 refine Code.wp_mono ?_ (h K a w hin hs);rintro e a' w' (⟨K', s', h2, h3, h4⟩ | h2)
 ·cases e <;> first | exact .inl ⟨K', s', h2, h3, hq _ _ h4⟩ | exact .inl ⟨K', s', h2, h3, h4⟩
 ·exact .inr h2
section
variable {P : Program} {Γ : Ctx} {Q : Exit -> St -> Prop} {R : Kt -> Exit -> St -> Prop} {k : Kt} {s s' : St} {n : Nat}
theorem zvc {l K z} (_ : (True /\ True) = z) (h : s = s') : HR P Γ l s K = HR P Γ l s' K := by rw [h]
theorem zt9 {c z} (_ : (True /\ True) = z) (h : s = s') : vs2 P Γ Q R c k s = vs2 P Γ Q R c k s' := by rw [h]
theorem zvb {e z} (_ : (True /\ True) = z) (h : s = s') : RN P Γ Q n k e s = RN P Γ Q n k e s' := by rw [h]
attribute [congr] zuh zvc zt9 zvb
theorem zcm {K} : HR P Γ [] s K = K s := rfl
theorem zbF {d op r K} : HR P Γ (⟨d, op, none⟩ :: r) s K = zbP P Γ d op s fun s' => HR P Γ r s' K := rfl
theorem zcn {d op t want r K} : HR P Γ (⟨d, op, some (t, want)⟩ :: r) s K = match getK s.env t with
   | some (.u (.bool b)) => zaq d s /\ Cnd (b = want) (b = !want)
     (zbP P Γ d op (s.put (some t) (.u (.bool want))) fun s' => HR P Γ r s' K)
     (HR P Γ r ((s.put (some t) (.u (.bool (!want)))).put d .un) K)
   | some (.u (.oth v)) => v = undef /\ zaq d s /\ HR P Γ r (s.put d .un) K
   | _ => False := rfl
theorem zch {a b : Code} : vs2 P Γ Q R (.seq a b) k s = vs2 P Γ Q R a (.seq b k) s := by rw [vs2]
theorem zba {i} {a : Code} : vs2 P Γ Q R (.block i a) k s = vs2 P Γ Q R a (.blk i k) s := by rw [vs2]
theorem zbw : vs2 P Γ Q R .skip k s = R k .normal s := by rw [vs2]
theorem zby {l} : vs2 P Γ Q R (.exit l) k s = R k (.exit l) s := by rw [vs2]
theorem zci : vs2 P Γ Q R .ret k s = R k .ret s := by rw [vs2]
theorem zbA {c x y} : vs2 P Γ Q R (.cond c x y) k s = match opd s c with
  | .u (.bool t) => Cnd (t = true) (t = false) (vs2 P Γ Q R x k s) (vs2 P Γ Q R y k s)
  | _ => False := by rw [vs2]
theorem zaU {i} {l : List Oper} : vs2 P Γ Q R (.region i l.toArray false) k s = match zaW l.toArray l with | some l' => HR P Γ l' s (R k .normal) | none => False := by rw [vs2]
theorem zbz {i l} : vs2 P Γ Q R (.region i l true) k s = V P Γ (.region i l true) s (za3 P Γ Q k) := by rw [vs2] <;> simp
theorem zbx {c} : vs2 P Γ Q R (.loop c) k s = V P Γ (.loop c) s (za3 P Γ Q k) := by rw [vs2] <;> simp
theorem zfO {e} : RN P Γ Q 0 k e s = za3 P Γ Q k e s := rfl
theorem zbE {e} : RN P Γ Q (n + 1) .done e s = Q e s := rfl
theorem zck {b} : RN P Γ Q (n + 1) (.seq b k) .normal s = vs2 P Γ Q (RN P Γ Q n) b k s := rfl
theorem zaK {b} : RN P Γ Q (n + 1) (.seq b k) .ret s = RN P Γ Q n k .ret s := rfl
theorem zaw {b i} : RN P Γ Q (n + 1) (.seq b k) (.exit i) s = RN P Γ Q n k (.exit i) s := rfl
theorem zcl {i} : RN P Γ Q (n + 1) (.blk i k) .normal s = RN P Γ Q n k .normal s := rfl
theorem zaL {i} : RN P Γ Q (n + 1) (.blk i k) .ret s = RN P Γ Q n k .ret s := rfl
theorem zay {i j} : RN P Γ Q (n + 1) (.blk i k) (.exit j) s = if j = i then RN P Γ Q n k .normal s else RN P Γ Q n k (.exit j) s := rfl
theorem zbD {I} : RN P Γ Q (n + 1) (.loop I k) .normal s = I s := rfl
theorem zax {I} : RN P Γ Q (n + 1) (.loop I k) .ret s = RN P Γ Q n k .ret s := rfl
theorem zap {I i} : RN P Γ Q (n + 1) (.loop I k) (.exit i) s = RN P Γ Q n k (.exit i) s := rfl
end
def Pst (p : Prop) : Prop := p
theorem Pst.of {p : Prop} (h : p) : Pst p := h
theorem zud {p z : Prop} (_ : (True /\ True) = z) : Pst p = Pst p := rfl
attribute [congr] zud
def zfN (P : Program) (rs : Array ResultVar) (post : D -> Prop) (e : Exit) (s : St) : Prop := (e = .normal \/ e = .ret) /\ Pst (zdT P s rs.toList fun ds => za7 (zas ds) = true /\ post (zas ds))
theorem Fun.run {P f fn c ds post nt rs} (hf : P.funcs[f]? = some fn) (hnt : fn.ntmps = nt) (hr : fn.results = rs) (hb : fn.body = some c) (hn : ds.length <= nt)
  (h : ∀ Γ : Ctx, Γ.n0 = 0 -> V P Γ c (entry ds nt [] 0) (za3 P Γ (zfN P rs post) .done)) : Fun P f ds post := by
 subst hnt hr;exact Fun.of_body hf hb hn fun Γ hn => zum (h Γ hn) fun e s h => EndOK.val h.1 h.2
theorem CallP.f2 {P : Program} {Γ : Ctx} {s : St} {k : St -> Prop} {dst : Option Tmp} {fop : Operand} {args : List Operand} {f caps} {ds : List D} {L : List Nat} {v : D} (hf : zag (opd s fop) = some (f, caps)) (hret : Fun P f ds (· = v))
  (hds : zbW s (args.map (opd s) ++ caps) = some (ds, L)) (hk : zae P f = true /\ zaq dst s /\ k (({ s with obs := if zaM v then s.obs else delAll s.obs L } : St).put dst v)) : CallP P Γ fop args dst s k :=
 CallP.fun_ hret hf hk.1 hds hk.2.1 fun d h => by subst h; exact hk.2.2
theorem CallV.f2 {P : Program} {s : St} {ret : D -> Prop} {fop : Operand} {args : List Operand} {f caps} {ds : List D} {L : List Nat} {v : D} (hf : zag (opd s fop) = some (f, caps)) (hret : Fun P f ds (· = v))
  (hds : zbW s (args.map (opd s) ++ caps) = some (ds, L)) (hk : zae P f = true /\ (zaM v = true \/ L = []) /\ ret v) : CallV P s fop args ret := CallV.fun_ hret hf hk.1 hds hk.2.1 hk.2.2
theorem zmy {s : St} {nx : Nat} : ∀ {l : List (Nat × Ob)} {p : Nat × Ob}, wkO s nx l -> p ∈ l -> p.1 < nx /\ getK s.obs p.1 = some p.2 /\ p.2.under nx = true
 | q :: l, p, h, hp => by
  rcases List.mem_cons.1 hp with rfl | hp
  ·exact h.1
  ·exact zmy h.2 hp
theorem zkA {P : Program} {s : St} {K K' : List D -> Prop} (hk : ∀ ds, K ds -> K' ds) {rs : List ResultVar} (h : zdT P s rs K) : zdT P s rs K' := by
 induction rs generalizing K K' with
 | nil => exact hk _ h
 | cons r rs ih =>
  cases r with
  | tmp t => exact ih (fun ds => hk _) h
  | cell a t => exact Lin.loadD.1 _ _ (fun d hd => ih (fun ds => hk _) hd) h
theorem Wk.zem {Γ : Ctx} {s s' : St} (h : s'.n = s.n /\ Γ.n0 <= s'.next /\ wkO s s'.next s'.obs /\ wkU s'.next s'.env /\ wkE s s'.env) : Wk Γ s s' := .cut h.1 h.2.1 h.2.2.1 h.2.2.2.1 h.2.2.2.2
theorem Fun.runW {P f fn c ds post nt} (hf : P.funcs[f]? = some fn) (hnt : fn.ntmps = nt) (hb : fn.body = some c) (hn : ds.length <= nt)
  (h : ∀ Γ : Ctx, Γ.n0 = 0 -> V P Γ c (entry ds nt [] 0) (za3 P Γ (EndW P Γ fn 0 fun d _ _ => za7 d = true /\ post d) .done)) : Fun P f ds post := by subst hnt; exact Fun.of_bodyW hf hb hn h
theorem Ret.runW {P f fn c ds obs nx post nt} (hf : P.funcs[f]? = some fn) (hnt : fn.ntmps = nt) (hb : fn.body = some c) (hn : ds.length <= nt)
  (h : ∀ Γ : Ctx, Γ.n0 = nx -> V P Γ c (entry ds nt obs nx) (za3 P Γ (EndW P Γ fn nx post) .done)) : Ret P f ds obs nx post := by subst hnt; exact Ret.of_bodyW hf hb hn h
end Go.VL
namespace Go.VL
open Go
def h4s (P : Program) (R : St -> Fp4 -> Prop) (G : Prop) (dst : Option Tmp) (op : Op) (s : St) (fp : Fp4) : Prop :=
 match zbf op with
 | some _ => G
 | none => if zbc op = true then effD P s op fun e => zaq dst s /\ (e.nw = none -> dst = none) /\ R (s.effS e dst) (fp ++ [(zbi s op, match e.nw with | none => (e.U.map (·.1), 0) | some _ => (s.next :: e.U.map (·.1), 0))])
  else evPure P s op fun d => zaq dst s /\ R (s.put dst d) (fp ++ [(zbi s op, [], 0)])
def H4 (P : Program) (Γ : Ctx) (N : Nat) (C : Fp4 -> Prop) (k : St -> Prop) : List O1 -> St -> Fp4 -> Prop
 | [], s, fp => C fp /\ k s
 | o :: r, s, fp => match o.guard with
  | none => h4s P (H4 P Γ N C k r) (HD4 P Γ N (⟨o.dst, o.op, none⟩ :: r) s fp C k) o.dst o.op s fp
  | some (t, want) => match getK s.env t with
   | some (.u (.bool b)) => zaq o.dst s ∧ Cnd (b = want) (b = !want)
         (h4s P (H4 P Γ N C k r) (zgw P Γ N ⟨o.dst, o.op, none⟩ r (s.put (some t) (.u (.bool want))) fp C k) o.dst o.op (s.put (some t) (.u (.bool want))) fp)
         (H4 P Γ N C k r ((s.put (some t) (.u (.bool (!want)))).put o.dst .un) (fp ++ [([], [], 0)]))
   | some (.u (.oth v)) => v = undef /\ zaq o.dst s /\ H4 P Γ N C k r (s.put o.dst .un) (fp ++ [([], [], 0)])
   | _ => False
theorem zoD {P s op} {ret : D -> Prop} (h : zbf op = none) : valD P s op ret = evPure P s op ret := by
 cases op
 case call c =>
  obtain ⟨callee, args, ts⟩ := c;cases callee <;> first | rfl | (simp [zbf] at h)
 all_goals rfl
theorem zt5 {P Γ N C k} {R : St -> Fp4 -> Prop} {dst op s fp} {r : List O1} (hR : ∀ s fp, R s fp -> HD4 P Γ N r s fp C k) (h : h4s P R (zgw P Γ N ⟨dst, op, none⟩ r s fp C k) dst op s fp) : zgw P Γ N ⟨dst, op, none⟩ r s fp C k := by
 unfold h4s at h;split at h
 ·exact h
 ·rename_i hc;split at h
  ·rename_i he;exact zrV he (Lin.effD.1 _ _ (fun e h => ⟨h.1, h.2.1, hR _ _ h.2.2⟩) h)
  ·rename_i he;refine zbs (by simpa using he) ?_;rw [zoD hc];exact Lin.evPure.1 _ _ (fun d h => ⟨h.1, hR _ _ h.2⟩) h
def zuM : List O1 -> Bool
 | ⟨_, op, none⟩ :: _ => (zbf op).isNone
 | _ => true
theorem ztM {P Γ N C k} : ∀ {l s fp}, H4 P Γ N C k l s fp -> HD4 P Γ N l s fp C k
 | [], s, fp, h => ztx h.1 h.2
 | ⟨dst, op, g⟩ :: r, s, fp, h => by
  unfold H4 at h;cases g with
  | none =>
   simp only at h;by_cases hc : (zbf op).isSome = true
   ·unfold h4s at h;split at h
    ·exact h
    ·simp_all
   ·exact .of_h (zt5 (fun _ _ => ztM) (by
     unfold h4s at h ⊢;split at h
     ·simp_all
     ·exact h))
  | some g =>
   obtain ⟨t, want⟩ := g;simp only at h;split at h
   ·rename_i b hb;obtain ⟨hp, hy, hn⟩ := h;exact zqd hb hp (fun e => zt5 (fun _ _ => ztM) (hy e)) (fun e => ztM (hn e))
   ·rename_i v hb;obtain ⟨rfl, hp, hn⟩ := h;exact zor hb hp (ztM hn)
   ·exact h.elim
theorem zb9 {P Γ N C k l s fp} (_ : zuM l = true) (h : H4 P Γ N C k l s fp) : HD4 P Γ N l s fp C k := ztM h
theorem zdX {P Γ s} {Q : Exit -> St -> Prop} {kt : Kt} {id : Nat} {l : List Oper} (hm : P.follows .mixedOrders = true) (hord : zij l = true) (hn0 : Γ.n0 <= s.next)
  (h : ∀ (C : Fp4 -> Prop) (k : St -> Prop), (∀ fp, zr7 l fp = true -> C fp) -> (∀ s', za3 P Γ Q kt .normal s' -> k s') -> match zaW l.toArray l with | some l' => H4 P Γ s.next C k l' s [] | none => False) :
  V P Γ (.region id l.toArray true) s (za3 P Γ Q kt) := ztm hm hord hn0 fun C k hC hk => by
 have := h C k hC hk;split at this
 ·rename_i l' hl
  (try rw [hl])
  exact ztM this
 ·exact this.elim
section
variable {P : Program} {Γ : Ctx} {N : Nat} {C : Fp4 -> Prop} {k : St -> Prop} {s s' : St} {fp fp' : Fp4}
theorem zve {l z} (_ : (True /\ True) = z) (h : s = s') (h' : fp = fp') : H4 P Γ N C k l s fp = H4 P Γ N C k l s' fp' := by rw [h, h']
theorem zub {R G d op z} (_ : (True /\ True) = z) (h : s = s') (h' : fp = fp') : h4s P R G d op s fp = h4s P R G d op s' fp' := by rw [h, h']
theorem zue {l z} (_ : (True /\ True) = z) (h : s = s') (h' : fp = fp') : HD4 P Γ N l s fp C k = HD4 P Γ N l s' fp' C k := by rw [h, h']
theorem zte {o l z} (_ : (True /\ True) = z) (h : s = s') (h' : fp = fp') : zgw P Γ N o l s fp C k = zgw P Γ N o l s' fp' C k := by rw [h, h']
attribute [congr] zve zub zue zte
theorem zco : H4 P Γ N C k [] s fp = (C fp /\ k s) := rfl
theorem zbG {d op r} : H4 P Γ N C k (⟨d, op, none⟩ :: r) s fp = h4s P (H4 P Γ N C k r) (HD4 P Γ N (⟨d, op, none⟩ :: r) s fp C k) d op s fp := rfl
theorem zcp {d op r t want} : H4 P Γ N C k (⟨d, op, some (t, want)⟩ :: r) s fp = match getK s.env t with
   | some (.u (.bool b)) => zaq d s /\ Cnd (b = want) (b = !want)
     (h4s P (H4 P Γ N C k r) (zgw P Γ N ⟨d, op, none⟩ r (s.put (some t) (.u (.bool want))) fp C k) d op (s.put (some t) (.u (.bool want))) fp)
     (H4 P Γ N C k r ((s.put (some t) (.u (.bool (!want)))).put d .un) (fp ++ [([], [], 0)]))
   | some (.u (.oth v)) => v = undef /\ zaq d s /\ H4 P Γ N C k r (s.put d .un) (fp ++ [([], [], 0)])
   | _ => False := rfl
end
theorem EndW.z {P : Program} {Γ : Ctx} {fn : Func} {n0 N : Nat} {post : D -> List (Nat × Ob) -> Nat -> Prop} {e : Exit} {s : St} {rs : Array ResultVar} (O : List (Nat × Ob)) (hr : fn.results = rs)
  (h : (e = .normal \/ e = .ret) /\ n0 <= N /\ wkO s N O) (h3 : zdT P s rs.toList fun ds => (zas ds).under N = true /\ post (zas ds) O N) : EndW P Γ fn n0 post e s := by
 subst hr;refine .here (.fin h.1 ?_);obtain ⟨_, h1, h2⟩ := h;exact zkA (fun ds h => FinOK.cut O N (fun p hp => ⟨(zmy h2 hp).2.1, (zmy h2 hp).1, (zmy h2 hp).2.2⟩) h.1 h1 h.2) h3
theorem EndW.h {P : Program} {Γ : Ctx} {fn : Func} {n0 : Nat} {post : D -> List (Nat × Ob) -> Nat -> Prop} {e : Exit} {s : St} {rs : Array ResultVar} (hr : fn.results = rs)
  (h : (e = .normal \/ e = .ret) /\ n0 <= s.next /\ zdT P s rs.toList fun ds => post (zas ds) s.obs s.next) : EndW P Γ fn n0 post e s := by
 subst hr;exact .here (.fin h.1 (zkA (fun ds h' => FinOK.here h.2.1 h') h.2.2))
theorem PanG.k {Γ : Ctx} {post : Out -> List (Nat × Ob) -> Nat -> Prop} {ch : List PanicEntry} {s : St} (O : List (Nat × Ob)) (N : Nat) (h : Γ.n0 <= N /\ wkO s N O) (hp : post (.pan ch) O N) : PanG Γ post ch s :=
 ⟨⟨s.n, [], O, N⟩, Wk.cut rfl h.1 h.2 trivial trivial, h.1, hp⟩
theorem RetX.runW {P f fn c ds obs nx post nt} (hf : P.funcs[f]? = some fn) (hnt : fn.ntmps = nt) (hb : fn.body = some c) (hn : ds.length <= nt)
  (h : ∀ Γ : Ctx, Γ.n0 = nx -> (∀ ch s, PanG Γ post ch s -> Γ.pan ch s) -> V P Γ c (entry ds nt obs nx) (za3 P Γ (EndW P Γ fn nx fun d o n => post (.val d) o n) .done)) : RetX P f ds obs nx post := by
 subst hnt; exact RetX.of_bodyW hf hb hn h
end Go.VL
namespace Go.Pm
theorem zpB {a b q r : Int} (h : a = b * q + r) (hp : 0 < b -> 0 <= r /\ r < b) (hn : b < 0 -> b < r /\ r <= 0) (hb : b ≠ 0) : a.fdiv b = q := by
 rcases Int.lt_or_gt_of_ne hb with h0 | h0
 ·obtain ⟨h1, h2⟩ := hn h0;have e1 : a.fdiv b = (-a).fdiv (-b) := by rw [Int.neg_fdiv_neg]
  rw [e1, Int.fdiv_eq_ediv_of_nonneg _ (by omega)];have e2 : -a = -r + (-b) * q := by rw [h, Int.neg_mul]; omega
  rw [e2, Int.add_mul_ediv_left _ _ (by omega), Int.ediv_eq_zero_of_lt (by omega) (by omega)];omega
 ·obtain ⟨h1, h2⟩ := hp h0;rw [Int.fdiv_eq_ediv_of_nonneg _ (by omega), h, Int.add_comm, Int.add_mul_ediv_left _ _ (by omega), Int.ediv_eq_zero_of_lt h1 h2];omega
theorem zno (a b : Int) (hb : b ≠ 0) : a = b * a.tdiv b + a.tmod b /\ (0 <= a -> 0 <= a.tmod b) /\ (a <= 0 -> a.tmod b <= 0) /\ (0 < b -> -b < a.tmod b /\ a.tmod b < b) /\ (b < 0 -> b < a.tmod b /\ a.tmod b < -b) := by
 have h1 := Int.mul_tdiv_add_tmod a b;have h2 : (a.tmod b).natAbs < b.natAbs := by rw [Int.natAbs_tmod]; exact Nat.mod_lt _ (by omega)
 refine ⟨h1.symm, fun h => Int.tmod_nonneg b h, fun h => ?_, fun h => by omega, fun h => by omega⟩;have := Int.tmod_nonneg (a := -a) b (by omega);rw [Int.neg_tmod] at this;omega
theorem floor_eq (a b : Int) (hb : b ≠ 0) : a.fdiv b = if a.tmod b ≠ 0 /\ ¬ (a < 0 ↔ b < 0) then a.tdiv b - 1 else a.tdiv b := by
 obtain ⟨h1, h2, h3, h4, h5⟩ := zno a b hb;split
 ·rename_i hc;refine zpB (r := a.tmod b + b) (by rw [Int.mul_sub]; omega) (fun h => ?_) (fun h => ?_) hb
  ·have := h4 h; have := h3 (by omega); omega
  ·have := h5 h; have := h2 (by omega); omega
 ·rename_i hc;refine zpB (r := a.tmod b) h1 (fun h => ?_) (fun h => ?_) hb
  ·have := h4 h;by_cases h0 : a < 0
   ·have : a.tmod b = 0 := Classical.byContradiction fun hh => hc ⟨hh, by omega⟩;omega
   ·have := h2 (by omega); omega
  ·have := h5 h;by_cases h0 : a < 0
   ·have := h3 (by omega); omega
   ·have : a.tmod b = 0 := by
     by_cases ha : a = 0
     ·subst ha; simp
     ·exact Classical.byContradiction fun hh => hc ⟨hh, by omega⟩
    omega
end Go.Pm
namespace Go.Pm
open Go Go.VL
end Go.Pm
namespace Go.Proofs
open Go.Shelf
def Tryz.zf0 : Go.Shelf.Ren := ⟨fun | 169 => 51 | n => n, fun | 70 => 85 | 9 => 9 | 0 => 0 | 72 => 88 | 37 => 86 | 127 => 119 | 3 => 3 | 5 => 5 | n => n, fun | n => n⟩
theorem Tryz.ztp : Go.Proofs.Lays.n169 Tryz.prog Tryz.zf0 := {
 mixed := by kernel_rfl
 f169 := Tryz.func51.trans (congrArg some (by kernel_rfl))
 t0 := Tryz.underlying0
 a0 := Tryz.isAgg0
 z0 := Tryz.sizeOf0
 v0 := Tryz.zeroValue0
 t3 := Tryz.underlying3
 a3 := Tryz.isAgg3
 z3 := Tryz.sizeOf3
 v3 := Tryz.zeroValue3
 t9 := Tryz.underlying9
 a9 := Tryz.isAgg9
 z9 := Tryz.sizeOf9
 v9 := Tryz.zeroValue9
 t37 := Tryz.underlying86
 a37 := Tryz.isAgg86
 z37 := Tryz.sizeOf86
 v37 := Tryz.zeroValue86
 t70 := Tryz.underlying85
 a70 := Tryz.isAgg85
 z70 := Tryz.sizeOf85
 v70 := Tryz.zeroValue85
 t72 := Tryz.underlying88
 a72 := Tryz.isAgg88
 z72 := Tryz.sizeOf88
 v72 := Tryz.zeroValue88
 t127 := Tryz.underlying119
 a127 := Tryz.isAgg119
 z127 := Tryz.sizeOf119
 v127 := Tryz.zeroValue119 }
theorem Tryz.zgS : Builder.Extra Tryz.prog Tryz.zf0 := {
 sizeBuilder := by kernel_rfl
 liesBuilder := by kernel_rfl
 t5 := Tryz.underlying5
 a5 := Tryz.isAgg5
 z5 := Tryz.sizeOf5
 v5 := Tryz.zeroValue5
 infoByte := by kernel_rfl
 cellsByte := by kernel_rfl
 sizeByte := by kernel_rfl
 neB5 := by decide }
def Tryz.zlz : Go.Shelf.Ren := ⟨fun | 171 => 84 | 243 => 130 | 246 => 158 | 283 => 175 | 284 => 176 | 285 => 177 | 286 => 178 | 129 => 185 | 317 => 184 | 318 => 186 | 319 => 187 | 320 => 188 | 337 => 190 | 338 => 191 | n => n, fun | 3 => 3 | 9 => 9 | 2 => 2 | 4 => 4 | 171 => 221 | 0 => 0 | 53 => 191 | 37 => 86 | 5 => 5 | 173 => 224 | 212 => 227 | 51 => 214 | 20 => 20 | 213 => 228 | 46 => 190 | 232 => 231 | 233 => 232 | n => n, fun | 17 => 9 | 18 => 10 | 19 => 11 | n => n⟩
theorem Tryz.zrQ : Go.Proofs.LaysM.n171 Tryz.prog Tryz.zlz := {
 mixed := by kernel_rfl
 f129 := Tryz.func185.trans (congrArg some (by kernel_rfl))
 f171 := Tryz.func84.trans (congrArg some (by kernel_rfl))
 f243 := Tryz.func130.trans (congrArg some (by kernel_rfl))
 f246 := Tryz.func158.trans (congrArg some (by kernel_rfl))
 f283 := Tryz.func175.trans (congrArg some (by kernel_rfl))
 f284 := Tryz.func176.trans (congrArg some (by kernel_rfl))
 f285 := Tryz.func177.trans (congrArg some (by kernel_rfl))
 f286 := Tryz.func178.trans (congrArg some (by kernel_rfl))
 f317 := Tryz.func184.trans (congrArg some (by kernel_rfl))
 f318 := Tryz.func186.trans (congrArg some (by kernel_rfl))
 f319 := Tryz.func187.trans (congrArg some (by kernel_rfl))
 f320 := Tryz.func188.trans (congrArg some (by kernel_rfl))
 f337 := Tryz.func190.trans (congrArg some (by kernel_rfl))
 f338 := Tryz.func191.trans (congrArg some (by kernel_rfl))
 t0 := Tryz.underlying0
 a0 := Tryz.isAgg0
 z0 := Tryz.sizeOf0
 v0 := Tryz.zeroValue0
 t2 := Tryz.underlying2
 a2 := Tryz.isAgg2
 z2 := Tryz.sizeOf2
 v2 := Tryz.zeroValue2
 t3 := Tryz.underlying3
 a3 := Tryz.isAgg3
 z3 := Tryz.sizeOf3
 v3 := Tryz.zeroValue3
 t4 := Tryz.underlying4
 a4 := Tryz.isAgg4
 z4 := Tryz.sizeOf4
 v4 := Tryz.zeroValue4
 t5 := Tryz.underlying5
 a5 := Tryz.isAgg5
 z5 := Tryz.sizeOf5
 v5 := Tryz.zeroValue5
 t9 := Tryz.underlying9
 a9 := Tryz.isAgg9
 z9 := Tryz.sizeOf9
 v9 := Tryz.zeroValue9
 t20 := Tryz.underlying20
 a20 := Tryz.isAgg20
 z20 := Tryz.sizeOf20
 v20 := Tryz.zeroValue20
 t37 := Tryz.underlying86
 a37 := Tryz.isAgg86
 z37 := Tryz.sizeOf86
 v37 := Tryz.zeroValue86
 t46 := Tryz.underlying190
 a46 := Tryz.isAgg190
 z46 := Tryz.sizeOf190
 v46 := Tryz.zeroValue190
 t51 := Tryz.underlying214
 a51 := Tryz.isAgg214
 z51 := Tryz.sizeOf214
 v51 := Tryz.zeroValue214
 t53 := Tryz.underlying191
 a53 := Tryz.isAgg191
 z53 := Tryz.sizeOf191
 v53 := Tryz.zeroValue191
 t171 := Tryz.underlying221
 a171 := Tryz.isAgg221
 z171 := Tryz.sizeOf221
 v171 := Tryz.zeroValue221
 t173 := Tryz.underlying224
 a173 := Tryz.isAgg224
 z173 := Tryz.sizeOf224
 v173 := Tryz.zeroValue224
 t212 := Tryz.underlying227
 a212 := Tryz.isAgg227
 z212 := Tryz.sizeOf227
 v212 := Tryz.zeroValue227
 t213 := Tryz.underlying228
 a213 := Tryz.isAgg228
 z213 := Tryz.sizeOf228
 t232 := Tryz.underlying231
 a232 := Tryz.isAgg231
 z232 := Tryz.sizeOf231
 v232 := Tryz.zeroValue231
 t233 := Tryz.underlying232
 a233 := Tryz.isAgg232
 z233 := Tryz.sizeOf232
 v233 := Tryz.zeroValue232
 g17 := by kernel_rfl
 g18 := by kernel_rfl
 g19 := by kernel_rfl
 i0 := by kernel_rfl
 i2 := by kernel_rfl
 i3 := by kernel_rfl
 i4 := by kernel_rfl
 i5 := by kernel_rfl
 i9 := by kernel_rfl
 i20 := by kernel_rfl
 i37 := by kernel_rfl
 i46 := by kernel_rfl
 i51 := by kernel_rfl
 i53 := by kernel_rfl
 i171 := by kernel_rfl
 i173 := by kernel_rfl
 i212 := by kernel_rfl
 i232 := by kernel_rfl
 i233 := by kernel_rfl
 m17 := by kernel_rfl
 m18 := by kernel_rfl
 m19 := by kernel_rfl }
open Go.RowKit Go.Sort Go.Lib in
theorem Tryz.strconv_Itoa (n : Int) (h0 : -9223372036854775808 <= n) (h1 : n <= 9223372036854775807) (w : World) (htab : Lib.TabIs Tryz.prog w "internal/strconv.uint64pow10" .u64 Lib.pow10Tab) :
  Calls Tryz.prog 84 #[.int .i64 n] w fun e w' => e = .returned (.string ⟨(Lib.itoa n).toArray⟩) /\ ∃ k os, w' = grow (w.drewN k) os := Any.strconv_Itoa Tryz.zrQ n h0 h1 w htab
def Tryz.zlA : Go.Shelf.Ren := ⟨fun | 172 => 45 | 244 => 78 | 245 => 79 | 247 => 120 | 279 => 121 | 280 => 122 | 281 => 123 | 282 => 124 | 287 => 149 | 316 => 150 | 171 => 84 | 205 => 151 | 321 => 173 | 322 => 174 | 243 => 130 | 246 => 158 | 283 => 175 | 284 => 176 | 285 => 177 | 286 => 178 | 129 => 185 | 317 => 184 | 318 => 186 | 319 => 187 | 320 => 188 | 337 => 190 | 338 => 191 | n => n, fun | 9 => 9 | 3 => 3 | 75 => 78 | 76 => 79 | 4 => 4 | 5 => 5 | 167 => 156 | 37 => 86 | 0 => 0 | 85 => 157 | 2 => 2 | 168 => 159 | 53 => 191 | 175 => 192 | 46 => 190 | 210 => 196 | 127 => 119 | 145 => 220 | 143 => 218 | 21 => 21 | 171 => 221 | 173 => 224 | 212 => 227 | 51 => 214 | 20 => 20 | 213 => 228 | 232 => 231 | 233 => 232 | 80 => 90 | n => n, fun | 15 => 2 | 16 => 3 | 17 => 9 | 18 => 10 | 19 => 11 | n => n⟩
theorem Tryz.zke : Go.Proofs.LaysC.n172 Tryz.prog Tryz.zlA := {
 mixed := by kernel_rfl
 f129 := Tryz.func185.trans (congrArg some (by kernel_rfl))
 f171 := Tryz.func84.trans (congrArg some (by kernel_rfl))
 f172 := Tryz.func45.trans (congrArg some (by kernel_rfl))
 f205 := Tryz.func151.trans (congrArg some (by kernel_rfl))
 f243 := Tryz.func130.trans (congrArg some (by kernel_rfl))
 f244 := Tryz.func78.trans (congrArg some (by kernel_rfl))
 f245 := Tryz.func79.trans (congrArg some (by kernel_rfl))
 f246 := Tryz.func158.trans (congrArg some (by kernel_rfl))
 f247 := Tryz.func120.trans (congrArg some (by kernel_rfl))
 f279 := Tryz.func121.trans (congrArg some (by kernel_rfl))
 f280 := Tryz.func122.trans (congrArg some (by kernel_rfl))
 f281 := Tryz.func123.trans (congrArg some (by kernel_rfl))
 f282 := Tryz.func124.trans (congrArg some (by kernel_rfl))
 f283 := Tryz.func175.trans (congrArg some (by kernel_rfl))
 f284 := Tryz.func176.trans (congrArg some (by kernel_rfl))
 f285 := Tryz.func177.trans (congrArg some (by kernel_rfl))
 f286 := Tryz.func178.trans (congrArg some (by kernel_rfl))
 f287 := Tryz.func149.trans (congrArg some (by kernel_rfl))
 f316 := Tryz.func150.trans (congrArg some (by kernel_rfl))
 f317 := Tryz.func184.trans (congrArg some (by kernel_rfl))
 f318 := Tryz.func186.trans (congrArg some (by kernel_rfl))
 f319 := Tryz.func187.trans (congrArg some (by kernel_rfl))
 f320 := Tryz.func188.trans (congrArg some (by kernel_rfl))
 f321 := Tryz.func173.trans (congrArg some (by kernel_rfl))
 f322 := Tryz.func174.trans (congrArg some (by kernel_rfl))
 f337 := Tryz.func190.trans (congrArg some (by kernel_rfl))
 f338 := Tryz.func191.trans (congrArg some (by kernel_rfl))
 t0 := Tryz.underlying0
 a0 := Tryz.isAgg0
 z0 := Tryz.sizeOf0
 v0 := Tryz.zeroValue0
 t2 := Tryz.underlying2
 a2 := Tryz.isAgg2
 z2 := Tryz.sizeOf2
 v2 := Tryz.zeroValue2
 t3 := Tryz.underlying3
 a3 := Tryz.isAgg3
 z3 := Tryz.sizeOf3
 v3 := Tryz.zeroValue3
 t4 := Tryz.underlying4
 a4 := Tryz.isAgg4
 z4 := Tryz.sizeOf4
 v4 := Tryz.zeroValue4
 t5 := Tryz.underlying5
 a5 := Tryz.isAgg5
 z5 := Tryz.sizeOf5
 v5 := Tryz.zeroValue5
 t9 := Tryz.underlying9
 a9 := Tryz.isAgg9
 z9 := Tryz.sizeOf9
 v9 := Tryz.zeroValue9
 t20 := Tryz.underlying20
 a20 := Tryz.isAgg20
 z20 := Tryz.sizeOf20
 v20 := Tryz.zeroValue20
 t21 := Tryz.underlying21
 a21 := Tryz.isAgg21
 z21 := Tryz.sizeOf21
 v21 := Tryz.zeroValue21
 t37 := Tryz.underlying86
 a37 := Tryz.isAgg86
 z37 := Tryz.sizeOf86
 v37 := Tryz.zeroValue86
 t46 := Tryz.underlying190
 a46 := Tryz.isAgg190
 z46 := Tryz.sizeOf190
 v46 := Tryz.zeroValue190
 t51 := Tryz.underlying214
 a51 := Tryz.isAgg214
 z51 := Tryz.sizeOf214
 v51 := Tryz.zeroValue214
 t53 := Tryz.underlying191
 a53 := Tryz.isAgg191
 z53 := Tryz.sizeOf191
 v53 := Tryz.zeroValue191
 t75 := Tryz.underlying78
 a75 := Tryz.isAgg78
 z75 := Tryz.sizeOf78
 v75 := Tryz.zeroValue78
 t76 := Tryz.underlying79
 a76 := Tryz.isAgg79
 z76 := Tryz.sizeOf79
 v76 := Tryz.zeroValue79
 t85 := Tryz.underlying157
 a85 := Tryz.isAgg157
 z85 := Tryz.sizeOf157
 v85 := Tryz.zeroValue157
 t127 := Tryz.underlying119
 a127 := Tryz.isAgg119
 z127 := Tryz.sizeOf119
 v127 := Tryz.zeroValue119
 t143 := Tryz.underlying218
 a143 := Tryz.isAgg218
 z143 := Tryz.sizeOf218
 v143 := Tryz.zeroValue218
 t145 := Tryz.underlying220
 a145 := Tryz.isAgg220
 z145 := Tryz.sizeOf220
 v145 := Tryz.zeroValue220
 t167 := Tryz.underlying156
 a167 := Tryz.isAgg156
 z167 := Tryz.sizeOf156
 v167 := Tryz.zeroValue156
 t168 := Tryz.underlying159
 a168 := Tryz.isAgg159
 z168 := Tryz.sizeOf159
 v168 := Tryz.zeroValue159
 t171 := Tryz.underlying221
 a171 := Tryz.isAgg221
 z171 := Tryz.sizeOf221
 v171 := Tryz.zeroValue221
 t173 := Tryz.underlying224
 a173 := Tryz.isAgg224
 z173 := Tryz.sizeOf224
 v173 := Tryz.zeroValue224
 t175 := Tryz.underlying192
 a175 := Tryz.isAgg192
 z175 := Tryz.sizeOf192
 v175 := Tryz.zeroValue192
 t210 := Tryz.underlying196
 a210 := Tryz.isAgg196
 z210 := Tryz.sizeOf196
 v210 := Tryz.zeroValue196
 t212 := Tryz.underlying227
 a212 := Tryz.isAgg227
 z212 := Tryz.sizeOf227
 v212 := Tryz.zeroValue227
 t213 := Tryz.underlying228
 a213 := Tryz.isAgg228
 z213 := Tryz.sizeOf228
 t232 := Tryz.underlying231
 a232 := Tryz.isAgg231
 z232 := Tryz.sizeOf231
 v232 := Tryz.zeroValue231
 t233 := Tryz.underlying232
 a233 := Tryz.isAgg232
 z233 := Tryz.sizeOf232
 v233 := Tryz.zeroValue232
 g15 := by kernel_rfl
 g16 := by kernel_rfl
 g17 := by kernel_rfl
 g18 := by kernel_rfl
 g19 := by kernel_rfl
 t80 := Tryz.underlying90
 a80 := Tryz.isAgg90
 z80 := Tryz.sizeOf90
 v80 := Tryz.zeroValue90
 i0 := by kernel_rfl
 i2 := by kernel_rfl
 i3 := by kernel_rfl
 i4 := by kernel_rfl
 i5 := by kernel_rfl
 i9 := by kernel_rfl
 i20 := by kernel_rfl
 i21 := by kernel_rfl
 i37 := by kernel_rfl
 i46 := by kernel_rfl
 i51 := by kernel_rfl
 i53 := by kernel_rfl
 i75 := by kernel_rfl
 i76 := by kernel_rfl
 i80 := by kernel_rfl
 i85 := by kernel_rfl
 i127 := by kernel_rfl
 i143 := by kernel_rfl
 i145 := by kernel_rfl
 i167 := by kernel_rfl
 i168 := by kernel_rfl
 i171 := by kernel_rfl
 i173 := by kernel_rfl
 i175 := by kernel_rfl
 i210 := by kernel_rfl
 i212 := by kernel_rfl
 i232 := by kernel_rfl
 i233 := by kernel_rfl
 m15 := by kernel_rfl
 m16 := by kernel_rfl
 m17 := by kernel_rfl
 m18 := by kernel_rfl
 m19 := by kernel_rfl
 c0 := by kernel_rfl
 c2 := by kernel_rfl
 c3 := by kernel_rfl
 c4 := by kernel_rfl
 c5 := by kernel_rfl
 c9 := by kernel_rfl
 c20 := by kernel_rfl
 c21 := by kernel_rfl
 c37 := by kernel_rfl
 c46 := by kernel_rfl
 c51 := by kernel_rfl
 c53 := by kernel_rfl
 c75 := by kernel_rfl
 c76 := by kernel_rfl
 c80 := by kernel_rfl
 c85 := by kernel_rfl
 c127 := by kernel_rfl
 c143 := by kernel_rfl
 c145 := by kernel_rfl
 c167 := by kernel_rfl
 c168 := by kernel_rfl
 c171 := by kernel_rfl
 c173 := by kernel_rfl
 c175 := by kernel_rfl
 c210 := by kernel_rfl
 c212 := by kernel_rfl
 c213 := by kernel_rfl
 c232 := by kernel_rfl
 c233 := by kernel_rfl }
open Go.RowKit in
theorem Tryz.strconv_Atoi_ok (s : ByteArray) (hmax : s.size <= 9223372036854775806) (v : Int) (h : Lib.atoiAll s.data.toList = .ok v) (w : World) :
  Calls Tryz.prog 45 #[.string s] w fun e w' => e = .returned (.tuple #[.int .i64 v, .nilIface]) /\ (w' = w \/ ∃ t, w' = Lib.bytesWorld w 5 t) := Any.strconv_Atoi_ok Tryz.zke s hmax v h w
open Go.RowKit in
theorem Tryz.strconv_Atoi_syntax (s : ByteArray) (hlim : s.size <= 281474976710656) (h0 : match Lib.atoiAll s.data.toList with | .ok _ => False | .range => False | _ => True) (ev : Value) (w : World) (hv : w.cell? ⟨2, 0, none⟩ = some ev) (hev : ev = .nilIface \/ ∃ te pe, ev = .iface te pe) :
  Calls Tryz.prog 45 #[.string s] w fun e w' => ∃ N, e = .returned (.tuple #[.int .i64 (0), .iface 159 (.pointer (some ⟨N, 0, none⟩))]) /\ w.heap.size <= N /\ w'.heap[N]? = some (.cells #[.string ⟨#[65, 116, 111, 105]⟩, .string s, ev] 196 (0, 0)) /\ Below w.heap.size w w' := Any.strconv_Atoi_syntax Tryz.zke s hlim (by revert h0; cases Lib.atoiAll s.data.toList <;> simp) ev w hv hev
open Go.RowKit in
theorem Tryz.strconv_Atoi_range (s : ByteArray) (hlim : s.size <= 281474976710656) (h : Lib.atoiAll s.data.toList = .range) (ev : Value) (w : World) (hv : w.cell? ⟨3, 0, none⟩ = some ev) (hev : ev = .nilIface \/ ∃ te pe, ev = .iface te pe) :
  Calls Tryz.prog 45 #[.string s] w fun e w' => ∃ N, e = .returned (.tuple #[.int .i64 (Lib.atoiSat s.data.toList), .iface 159 (.pointer (some ⟨N, 0, none⟩))]) /\ w.heap.size <= N /\ w'.heap[N]? = some (.cells #[.string ⟨#[65, 116, 111, 105]⟩, .string s, ev] 196 (0, 0)) /\ Below w.heap.size w w' := Any.strconv_Atoi_range Tryz.zke s hlim h ev w hv hev
def Tryz.zmq : Go.Shelf.Ren := ⟨fun | 217 => 145 | 266 => 171 | n => n, fun | 9 => 9 | 5 => 5 | 3 => 3 | n => n, fun | n => n⟩
theorem Tryz.zto : Go.Proofs.Lays.n217 Tryz.prog Tryz.zmq := {
 mixed := by kernel_rfl
 f217 := Tryz.func145.trans (congrArg some (by kernel_rfl))
 f266 := Tryz.func171.trans (congrArg some (by kernel_rfl))
 t3 := Tryz.underlying3
 a3 := Tryz.isAgg3
 z3 := Tryz.sizeOf3
 v3 := Tryz.zeroValue3
 t5 := Tryz.underlying5
 a5 := Tryz.isAgg5
 z5 := Tryz.sizeOf5
 v5 := Tryz.zeroValue5
 t9 := Tryz.underlying9
 a9 := Tryz.isAgg9
 z9 := Tryz.sizeOf9
 v9 := Tryz.zeroValue9 }
open Go.RowKit Go.Lib in
theorem Tryz.stringslite_IndexByte (s : ByteArray) (c : Int) (w : World) :
  Calls Tryz.prog 145 #[.string s, .int .u8 c] w fun e w' => e = .returned (.int .i64 (Lib.indexByte s.data.toList c.toNat.toUInt8)) /\ w' = w := Any.stringslite_IndexByte Tryz.zto s c w
end Go.Proofs
namespace Go.VL
open Go
end Go.VL
namespace Go.VL
open Go
section
variable {P : Program} {l : List Oper} {o : Oper} {Q Q1 : Exit -> Act -> World -> Prop}
end
end Go.VL
namespace Go.VL
open Go Go.Lib
def zeP (l : List UInt8) : List (List U) := l.map fun c => [.int .u8 c.toNat]
abbrev zd7 (l : List UInt8) : List (List D) := rowsD (zeP l)
theorem zom (l : List UInt8) : (zeP l).length = l.length := by simp [zeP]
theorem zon (a b : List UInt8) : zeP (a ++ b) = zeP a ++ zeP b := by simp [zeP]
theorem zjb (l : List UInt8) : (zd7 l).length = l.length := by simp [zeP]
theorem zgO (l : List UInt8) : zd7 l = l.map fun c => [.u (.int .u8 c.toNat)] := by simp [zd7, zeP, rowsD, Function.comp_def]
theorem zop {P : Program} (w : World) {t u ty e : TypeId} {i : TypeInfo} (ht : P.underlying t = some (.slice e)) (hu : P.underlying u = some .string) (hi : P.info? e = some i) (hz : i.zero = some (.int .u8 0)) (hsize : i.size = 1) (hby : i.bytes = 1)
  {v : Value} {n : Nat} {xs : List Value} (hown : w.ownsRow 0 e 1 v n xs) (s : ByteArray) (hb : n + s.size <= 140737488355328) :
  ∃ v' w', (Builtin.append_ #[t, u] ty #[v, .string s]).run P w = .ok v' w' /\ w'.ownsRow 0 e 1 v' (n + s.size) (xs ++ strCells s) /\ w.grownBy w' v.ownBlock /\
   (v'.ownBlock = v.ownBlock \/ ∃ b, w.heap.size <= b /\ v'.ownBlock = some b) := by
 have h63 : n + s.size <= maxLen := by unfold maxLen; omega
 obtain ⟨v', w', hr, h2, h3, _⟩ := run_append_own_string w 0 t u ty e i ht hu hi hz hsize hby v n xs hown s h63 hb (Nat.zero_le _);refine ⟨v', w', hr, h2, h3, ?_⟩;rcases hown.2 with ⟨rfl, rfl⟩ | ⟨g, cap, cur, rfl, hbg, hg, hnc, hcm, hcs, htake⟩
 ·have hx : xs = [] := List.eq_nil_of_length_eq_zero (by simpa using hown.1);subst hx;obtain ⟨v2, w2, hr2, h4, _⟩ := run_append_own_string w w.heap.size t u ty e i ht hu hi hz hsize hby (.slice none 0 0) 0 [] (World.ownsRow_nil w w.heap.size e 1) s h63 hb (Nat.le_refl _);rw [hr] at hr2;cases hr2;rcases h4.2 with ⟨rfl, _⟩ | ⟨g, cap, cur, rfl, hbg, _⟩
  ·exact .inl rfl
  ·exact .inr ⟨g, hbg, rfl⟩
 ·by_cases hroom : n + s.size <= cap
  ·have hcs' : cur.size = cap := by simpa using hcs
   have hr2 := run_append_room_string (P := P) w t u ty e i ht hu hi hsize g n cap cur hg s hroom (by omega);rw [hr] at hr2;cases hr2;exact .inl rfl
  ·have holds : ∀ j u, xs[j]? = some u -> w.cell? ((⟨g, 0, none⟩ : Addr).add j) = some u := hown.cells (g := g) rfl;have hxl : xs.length = n := by simpa using hown.1
   have hr2 := run_append_grow_string (P := P) w t u ty e i (.int .u8 0) ht hu hi hz ⟨g, 0, none⟩ n cap xs (by rw [hsize]; simpa using hxl) holds s (by omega) (by omega) (by rw [hby]; exact growslice_fits (by omega) (by omega));rw [hr] at hr2;cases hr2;exact .inr ⟨_, Nat.le_refl _, rfl⟩
def zml (P : Program) (t u : TypeId) : Option TypeId := match P.underlying t, P.underlying u with
 | some (.slice e), some .string => match P.info? e with
  | some i => match i.zero with
   | some (.int .u8 z) => if z = 0 /\ i.size = 1 /\ i.bytes = 1 then some e else none
   | _ => none
  | none => none
 | _, _ => none
def zgp (P : Program) (t u : TypeId) (x y : D) (s : St) (dst : Option Tmp) (k : St -> Prop) : Prop := match x, y with
 | .vec i len, .u (.str l) => match getK s.obs i with
  | some (.vec e sz rows) => zml P t u = some e /\ sz = 1 /\ len = rows.length /\ zaq dst s /\ len + l.length <= 140737488355328 /\
    k ((({ s with obs := del s.obs i } : St).add (.vec e 1 (rows ++ zd7 l))).put dst (.vec s.next (len + l.length)))
  | _ => False
 | _, _ => False
theorem Eff.ztE {P Γ o s k x y t u} (ho : o.op = .call { callee := .builtin .append, args := #[x, y], argTypes := #[t, u] }) (h : zgp P t u (opd s x) (opd s y) s o.dst k) : Eff P Γ o s k := by
 intro K a w hin hs Kont Q hK;obtain ⟨dst, op, type, pos, after, guard⟩ := o;simp only at ho h;subst ho;unfold zgp at h;split at h
 case h_2 => exact h.elim
 rename_i i len l hx hy;split at h
 case h_2 => exact h.elim
 rename_i e sz rows hg;obtain ⟨he, rfl, rfl, hp, hlen0, hk⟩ := h;unfold zml at he;split at he
 case h_2 => cases he
 rename_i e0 ht hu;split at he
 case h_2 => cases he
 rename_i inf hi;split at he
 case h_2 => cases he
 rename_i z hz;split at he
 case isFalse => cases he
 rename_i hinf;cases he;obtain ⟨rfl, hsize, hby⟩ := hinf;have hnext := hs.hdr s.next (Nat.le_refl _)
 have hxr := zaJ hs x;rw [hx] at hxr;obtain ⟨gi, hgi, hxv⟩ := zeB hxr;have hyr := zaJ hs y;rw [hy] at hyr;have hyv := zeC hyr;obtain ⟨g2, xs, hg2, hrow, hpos, hlen, hcs, hno⟩ := (hs.sat.ob _ _ hg).vec;rw [hgi] at hg2;simp only [Option.some.injEq] at hg2;subst hg2;have hls : (ByteArray.mk l.toArray).size = l.length := by simp [ByteArray.size]
 obtain ⟨v', w', hrun, hown, hgrow, hob⟩ := zop w (ty := type) ht hu hi hz hsize hby hrow ⟨l.toArray⟩ (by rw [hls]; exact hlen0);rw [hls] at hown;obtain ⟨g, hv', hgv⟩ := zjy hown;subst hv';have hrun' : (execOp a.eval { dst, op := .call { callee := .builtin .append, args := #[x, y], argTypes := #[t, u] }, type, pos, after, guard }).run P w = .ok (.value (za9 g (rows.length + l.length))) w' := by
  simp only [execOp];simp [resolve, invoke, builtin, hxv, hyv, hrun]
 unfold Oper.wp;rw [hrun'];have hle := Kr.zfP (k := K) (h := g) hnext;have hvb : (za9 gi rows.length).ownBlock = gi.1 := by
  obtain ⟨gb, gc⟩ := gi;cases gb <;> rfl
 rw [hvb] at hgrow hob;have hin' : In Γ (K.add s.next g) w' := (hin.grown hgrow (fun b e => (hno b e).1)).step hle (fun _ _ _ e => .inl e) rfl rfl rfl (Nat.le_refl _) fun _ _ => rfl;have hd := hs.sat.del i;have hnb : ∀ b, gi.1 = some b -> ¬ Blk K (del s.obs i) b := fun b e ⟨j, oj, gj, h1, h2, h3⟩ => by
  rw [zac] at h1;split at h1
  ·cases h1
  ·rename_i hji;exact hs.sat.apart i j _ oj gi gj b hg h1 (Ne.symm hji) hgi h2 e h3
 have hold : ∀ b, b < w.heap.size -> gi.1 ≠ some b -> w'.heap[b]? = w.heap[b]? := fun b hb hne => hgrow.block b hb (fun e => hne e.symm);have hcell : ∀ j : Nat, (strCells ⟨l.toArray⟩)[j]? = (l[j]?).map fun c : UInt8 => Value.int .u8 c.toNat := fun j => by simp [strCells]
 suffices hsim : Sim (K.add s.next g) Γ.own (({ s with obs := del s.obs i } : St).add (.vec e 1 (rows ++ zd7 l))) a w' from
  hK _ _ _ _ hin' (hsim.put (St.zd0 (s := { s with obs := del s.obs i }) (by cases dst <;> simp_all [zaq])) (.vec _ _ _ (by simp [Kr.add]))) hk
 refine ⟨?_, hs.defers, hs.size, fun x d hx => ⟨(hs.env x d hx).1, (hs.env x d hx).2.mono hle⟩, fun i hi => ?_⟩
 ·refine hd.add hnext (fun b e => ?_) (fun b hb => ?_) ⟨xs ++ strCells ⟨l.toArray⟩, ?_, Nat.one_pos, ?_, ?_⟩
  ·rw [hgv] at e;rcases hob with ho | ⟨b', hb', ho⟩
   ·rw [ho] at e;exact ⟨(hno b e).1, (hno b e).2, hnb b e⟩
   ·rw [ho] at e;simp only [Option.some.injEq] at e;subst e;refine ⟨hin.own_of_ge hb', fun o => ?_, fun hb => absurd (hd.lt hb) (by omega)⟩;cases hm : K.mem b' o with
    | none => rfl
    | some v => exact absurd (hs.sat.memLt hm) (by omega)
  ·refine hold b (hb.elim hd.lt fun ⟨_, _, e⟩ => hs.sat.memLt e) fun e => ?_;rcases hb with hb | ⟨o, v, hm⟩
   ·exact hnb b e hb
   ·have := (hno b e).2 o;rw [hm] at this;cases this
  ·have e1 : (rows ++ zd7 l).length = rows.length + l.length := by rw [List.length_append, zjb]
   rw [e1];exact hown
  ·intro r hr;rcases List.mem_append.1 hr with hr | hr
   ·exact hlen r hr
   ·rw [zgO] at hr;obtain ⟨c, _, rfl⟩ := List.mem_map.1 hr
    try rfl
  ·have hnews : ∀ i r, (zd7 l)[i]? = some r -> ∀ j d, r[j]? = some d -> zdO (K.add s.next g) d ((strCells ⟨l.toArray⟩).getD (i * 1 + j) undef) := fun i r hi j d hj => by
    rw [zgO, List.getElem?_map] at hi;cases hc : l[i]? with
    | none => rw [hc] at hi; cases hi
    | some c =>
     rw [hc] at hi;cases hi
     match j, hj with
     | 0, hj =>
      cases hj;have : (strCells ⟨l.toArray⟩).getD (i * 1 + 0) undef = .int .u8 c.toNat := by
       rw [List.getD_eq_getElem?_getD, Nat.mul_one, Nat.add_zero, hcell, hc]; rfl
      rw [this];exact ⟨rfl, .u _ _ (.int _ _)⟩
   exact rows_append (by simpa using hrow.1) hlen (fun i r hi j d hj => ⟨(hcs i r hi j d hj).1, (hcs i r hi j d hj).2.mono hle⟩) hnews
 ·have hi' : s.next + 1 <= i := hi
  simp only [Kr.add];rw [if_neg (by omega)];exact hs.hdr i (by omega)
theorem zlC {P : Program} {Γ : Ctx} {s : St} {k : St -> Prop} {dst : Option Tmp} {x y : Operand} {t u : TypeId} {rest : List O1}
  (h : zgp P t u (opd s x) (opd s y) s dst fun s' => H P Γ rest s' k) : H P Γ (⟨dst, .call { callee := .builtin .append, args := #[x, y], argTypes := #[t, u] }, none⟩ :: rest) s k := by
 intro all ops e;obtain ⟨o, ops', rfl, hx, hr⟩ := zdS e;obtain ⟨dst', op, type, pos, after, guard⟩ := o;unfold zcy at hx;simp only at hx;cases guard with
 | none =>
  simp at hx;obtain ⟨rfl, rfl⟩ := hx;exact zux ((Eff.ztE (o := { dst := dst', op := _, type, pos, after, guard := none }) rfl h).mono fun s' h => h all ops' hr)
 | some g =>
  obtain ⟨j, b⟩ := g;simp only at hx;split at hx <;> simp at hx
theorem Eff.zuy {P Γ o s k t} (ho : o.op = .alloc t) (hz : zbL P t = some [.pointer none, .slice none 0 0]) (hp : zaq o.dst s) (hk : k ((s.add (.nw t)).put o.dst (.ptr s.next 0))) : Eff P Γ o s k := by
 intro K a w hin hs Kont Q hK;obtain ⟨v, hv, hc, hone⟩ := zgx hz;obtain ⟨h1, h2⟩ := Sim.alloc hin hs (.cells v.cells t) 0 (.nw t) ⟨w.heap.size, rfl, by rw [heap_alloc_new, hc]⟩;have hrun : (execOp a.eval o).run P w = .ok (.value (.pointer (some ⟨w.heap.size, 0, none⟩))) (w.alloc (.cells v.cells t)) := by
  obtain ⟨dst, op, type, pos, after, guard⟩ := o;simp only at ho;subst ho;simp [execOp, Instr.alloc, hv, newVar, newRow]
 unfold Oper.wp;rw [hrun];refine hK _ _ _ _ h1 (h2.put (by cases hd : o.dst <;> simp_all [zaq, St.add]) (.ptr _ _ w.heap.size 0 (by simp [Kr.add]))) hk
theorem zrU {P : Program} {Γ : Ctx} {s : St} {k : St -> Prop} {dst : Option Tmp} {t : TypeId} {rest : List O1}
  (hz : zbL P t = some [.pointer none, .slice none 0 0]) (hp : zaq dst s) (h : H P Γ rest ((s.add (.nw t)).put dst (.ptr s.next 0)) k) : H P Γ (⟨dst, .alloc t, none⟩ :: rest) s k := by
 intro all ops e;obtain ⟨o, ops', rfl, hx, hr⟩ := zdS e;obtain ⟨dst', op, type, pos, after, guard⟩ := o;unfold zcy at hx;simp only at hx;cases guard with
 | none =>
  simp at hx;obtain ⟨rfl, rfl⟩ := hx;exact zux ((Eff.zuy (k := fun s' => H P Γ rest s' k) (o := { dst := dst', op := _, type, pos, after, guard := none }) rfl hz hp h).mono fun s' h => h all ops' hr)
 | some g =>
  obtain ⟨j, b⟩ := g;simp only at hx;split at hx <;> simp at hx
end Go.VL
namespace Go.VL
open Go
abbrev FO (ro : Option Nat) : Fence := { Fence.wide with round := ro }
theorem zol {ro n P f args w R} (h : Calls P f args w R) : CallsIn (FO ro) n P f args w R := (callsIn_wide (n := n)).2 h
theorem rowsIn_FO {ro n P row args w R} (h : Rows P row args w R) : RowsIn (FO ro) n P row args w R := fun c cs _ => let ⟨v, w', r, s⟩ := h c cs; ⟨v, w', r, stepsIn_wide.2 s⟩
def ziw (o : Oper) : Bool := match o.op with | .defer _ => false | _ => true
theorem znu {ro ρ} {o : Oper} (h : ziw o = true) : Oper.semAt ro ρ o = execOp ρ o := Oper.semAt_eq ro ρ o fun c e => by simp [ziw, e] at h
theorem zsp {ro n P} {o : Oper} {a} {next next' : Act -> World -> Prop} {Q Q' : Exit -> Act -> World -> Prop} {res : Result Next} (hn : ∀ a w, next a w -> next' a w) (hp : ∀ ch a w, Q (.panic ch) a w -> Q' (.panic ch) a w) (hQ : ∀ a w, ¬ Q .outgrown a w)
  (h : o.upon P a next Q res) : o.uponIn (FO ro) n P a next' Q' res := by
 cases res with
 | halt x w' => cases x with
  | panic v => exact hp _ _ _ h
  | _ => exact h.elim
 | ok x w' =>
  cases x with
  | value v => exact hn _ _ h
  | skip => exact hn _ _ h
  | defer d => exact hn _ _ h
  | enter f args =>
   refine ⟨fun e => by simp [Fence.wide] at e, zol (Calls.mono h fun e w'' h => ?_)⟩;cases e with
   | returned v => exact hn _ _ h
   | panicked ch => exact hp _ _ _ h
   | outgrown => obtain ⟨a, w, h⟩ := h; exact absurd h (hQ _ _)
  | row row args => exact ⟨fun e => by simp [Fence.wide] at e, (rowsIn_FO h).mono fun v w h => hn _ _ h⟩
  | _ => exact h.elim
theorem zhr {ro n P all} {Q Q' : Exit -> Act -> World -> Prop} {rest : List Oper} (hQ : ∀ a w, ¬ Q .outgrown a w) (hp : ∀ ch a w, Q (.panic ch) a w -> Q' (.panic ch) a w)
  (hr : ∀ a w, Q .normal a w -> wpListIn (FO ro) n P all Q' rest a w) : ∀ (l : List Oper) (a w), l.all ziw = true -> wpList P all Q l a w -> wpListIn (FO ro) n P all Q' (l ++ rest) a w
 | [], a, w, _, h => hr _ _ h
 | o :: l, a, w, hc, h => by
  simp only [List.all_cons, Bool.and_eq_true] at hc;rw [List.cons_append];unfold wpList at h;unfold wpListIn;split at h
  ·rename_i hw;rw [if_pos hw];rcases h with h | ⟨_, a', w', h⟩
   ·refine ⟨fun _ _ => trivial, ?_⟩;rw [znu hc.1];exact zsp (fun a w h => zhr hQ hp hr l a w hc.2 h) hp hQ h
   ·exact absurd h (hQ _ _)
  ·rename_i hw;rw [if_neg hw];exact ⟨fun _ _ => trivial, zhr hQ hp hr l _ _ hc.2 h⟩
theorem zvk {ro n P Γ all l s} {k : St -> Prop} {Q' : Exit -> Act -> World -> Prop} {rest : List Oper} (hpan : ∀ ch s, ¬ Γ.pan ch s) (hc : l.all ziw = true) (h : G P Γ all l s k) {K a w} (hin : In Γ K w) (hs : Sim K Γ.own s a w)
  (hr : ∀ K' a' w' s', In Γ K' w' -> Sim K' Γ.own s' a' w' -> k s' -> wpListIn (FO ro) n P all Q' rest a' w') : wpListIn (FO ro) n P all Q' (l ++ rest) a w :=
 zhr (Q := fun e a w => e = .normal /\ ∃ K s, In Γ K w /\ Sim K Γ.own s a w /\ k s) (fun a w h => by cases h.1) (fun ch a w h => by cases h.1) (fun a w ⟨_, K, s, h1, h2, h3⟩ => hr K a w s h1 h2 h3) l a w hc
  (h K a w hin hs _ (fun K' a' w' s' h1 h2 h3 => ⟨rfl, K', s', h1, h2, h3⟩) fun ch K' a' w' s' _ _ h3 => absurd h3 (hpan ch s'))
def zuI : Code -> Bool
 | .seq a _ => zuI a
 | .block _ a => zuI a
 | _ => true
theorem zgr {P Γ Q c k s} (_ : (zuJ c && zuI c) = true) (h : vs2 P Γ Q (RN P Γ Q 0) c k s) : V P Γ c s (za3 P Γ Q k) := zkh (zdb 0) h
def VR (P : Program) (Γ : Ctx) (r : Nat) (c : Code) (s : St) (Q : Exit -> St -> Prop) : Prop :=
 ∀ K a w, In Γ K w -> Sim K Γ.own s a w -> c.wpIn (FO (some r)) 0 P (VPost Γ Q) a w
def zix (P : Program) (Γ : Ctx) (r : Nat) (Q : Exit -> St -> Prop) : Kt -> Exit -> St -> Prop
 | .done, e, s => Q e s
 | .seq b k, .normal, s => VR P Γ r b s (zix P Γ r Q k)
 | .seq _ k, e, s => zix P Γ r Q k e s
 | .blk id k, .exit id', s => if id' = id then zix P Γ r Q k .normal s else zix P Γ r Q k (.exit id') s
 | .blk _ k, e, s => zix P Γ r Q k e s
 | .loop _ _, _, _ => False
section
variable {P : Program} {Γ : Ctx} {r : Nat} {Q : Exit -> St -> Prop} {k : Kt} {s : St}
theorem zuo {a b : Code} (h : VR P Γ r a s (zix P Γ r Q (.seq b k))) : VR P Γ r (.seq a b) s (zix P Γ r Q k) :=
 fun K ac w hin hs => wpIn_seq (wpIn_mono (h K ac w hin hs) fun e a' w' h => by
  rcases h with ⟨K', s', h1, h2, h3⟩ | h
  ·cases e with
   | normal => exact h3 K' a' w' h1 h2
   | _ => exact .inl ⟨K', s', h1, h2, h3⟩
  ·cases e with
   | normal => exact h.1.elim
   | _ => exact .inr h)
theorem zrN {id : Nat} {c : Code} (h : VR P Γ r c s (zix P Γ r Q (.blk id k))) : VR P Γ r (.block id c) s (zix P Γ r Q k) :=
 fun K ac w hin hs => wpIn_block (wpIn_mono (h K ac w hin hs) fun e a' w' h => by
  rcases h with ⟨K', s', h1, h2, h3⟩ | h
  ·cases e with
   | exit id' =>
    simp only [Qx, zix] at h3;simp only [Exit.inBlock];split
    ·rename_i he; rw [if_pos he] at h3; exact .inl ⟨K', s', h1, h2, h3⟩
    ·rename_i he; rw [if_neg he] at h3; exact .inl ⟨K', s', h1, h2, h3⟩
   | _ => exact .inl ⟨K', s', h1, h2, h3⟩
  ·cases e with
   | exit => exact h.1.elim
   | _ => exact .inr h)
theorem ztn {c : Operand} {x y : Code} {t : Bool} (hc : opd s c = .u (.bool t)) (ht : t = true -> VR P Γ r x s (zix P Γ r Q k)) (hf : t = false -> VR P Γ r y s (zix P Γ r Q k)) :
  VR P Γ r (.cond c x y) s (zix P Γ r Q k) := fun K a w hin hs => by
 have hr := zaJ hs c;rw [hc] at hr;exact wpIn_cond_split (zdt hr) (fun e => ht e K a w hin hs) (fun e => hf e K a w hin hs)
theorem zqc {id : Nat} {l : List Oper} (hpan : ∀ ch s, ¬ Γ.pan ch s) (hc : l.all ziw = true) (h : G P Γ l.toArray l s (zix P Γ r Q k .normal)) : VR P Γ r (.region id l.toArray false) s (zix P Γ r Q k) :=
 fun K a w hin hs => wpIn_region_lit (by
  have := zvk (ro := some r) (n := 0) (Q' := VPost Γ (zix P Γ r Q k)) (rest := []) hpan hc h hin hs fun K' a' w' s' h1 h2 h3 => .inl ⟨K', s', h1, h2, h3⟩
  rwa [List.append_nil] at this)
end
def zjz : Code -> Bool
 | .seq a b => zjz a && zjz b
 | .block _ c => zjz c
 | .skip => true
 | .label _ => true
 | .exit _ => true
 | .cond _ x y => zjz x && zjz y
 | .region _ l false => l.toList.all ziw
 | _ => false
def okK : Kt -> Bool
 | .done => true
 | .seq b k => zjz b && okK k
 | .blk _ k => okK k
 | .loop _ _ => false
theorem ziz {P Γ r} {Q0 Q : Exit -> St -> Prop} {R : Kt -> Exit -> St -> Prop} (hpan : ∀ ch s, ¬ Γ.pan ch s) (hR : ∀ k e s, okK k = true -> R k e s -> zix P Γ r Q k e s) :
  ∀ {c : Code} {k : Kt} {s : St}, zjz c = true -> okK k = true -> vs2 P Γ Q0 R c k s -> VR P Γ r c s (zix P Γ r Q k)
 | .seq a b, k, s, hc, hk, h => by
  simp only [zjz, Bool.and_eq_true] at hc;exact zuo (ziz hpan hR (c := a) (k := .seq b k) hc.1 (by simp [okK, hc.2, hk]) (by rw [vs2] at h; exact h))
 | .block id c, k, s, hc, hk, h => zrN (ziz hpan hR (c := c) (k := .blk id k) (by simpa only [zjz] using hc) (by simpa only [okK] using hk) (by rw [vs2] at h; exact h))
 | .skip, k, s, hc, hk, h => fun K _ _ hin hs => wpIn_skip (.inl ⟨K, s, hin, hs, hR _ _ _ hk (by rw [vs2] at h; exact h)⟩)
 | .label _, k, s, hc, hk, h => fun K _ _ hin hs => wpIn_label (.inl ⟨K, s, hin, hs, hR _ _ _ hk (by rw [vs2] at h; exact h)⟩)
 | .exit id, k, s, hc, hk, h => fun K _ _ hin hs => wpIn_exit (.inl ⟨K, s, hin, hs, hR _ _ _ hk (by rw [vs2] at h; exact h)⟩)
 | .cond c x y, k, s, hc, hk, h => by
  simp only [zjz, Bool.and_eq_true] at hc;rw [vs2] at h;split at h
  ·rename_i t ht;exact ztn ht (fun e => ziz hpan hR hc.1 hk (h.1 e)) (fun e => ziz hpan hR hc.2 hk (h.2 e))
  ·exact h.elim
 | .region id l false, k, s, hc, hk, h => by
  simp only [zjz] at hc;rw [vs2] at h;split at h
  ·rename_i l' hl;have := zqc (P := P) (Γ := Γ) (r := r) (Q := Q) (k := k) (id := id) (l := l.toList) (s := s) hpan hc (by simp only [Array.toArray_toList]; exact zsm (zsl hl h) fun s hs => hR _ _ _ hk hs);simpa using this
  ·exact h.elim
 | .ret, _, _, hc, _, _ => by simp [zjz] at hc
 | .region _ _ true, _, _, hc, _, _ => by simp [zjz] at hc
 | .loop _, _, _, hc, _, _ => by simp [zjz] at hc
 | .rangeFunc .., _, _, hc, _, _ => by simp [zjz] at hc
 | .scope .., _, _, hc, _, _ => by simp [zjz] at hc
 | .goto .., _, _, hc, _, _ => by simp [zjz] at hc
 | .refuse .., _, _, hc, _, _ => by simp [zjz] at hc
def RR (P : Program) (Γ : Ctx) (r : Nat) (Q : Exit -> St -> Prop) : Nat -> Kt -> Exit -> St -> Prop
 | 0, k, e, s => zix P Γ r Q k e s
 | _ + 1, .done, e, s => Q e s
 | n + 1, .seq b k, .normal, s => vs2 P Γ Q (RR P Γ r Q n) b k s
 | n + 1, .seq _ k, e, s => RR P Γ r Q n k e s
 | n + 1, .blk id k, .exit id', s => if id' = id then RR P Γ r Q n k .normal s else RR P Γ r Q n k (.exit id') s
 | n + 1, .blk _ k, e, s => RR P Γ r Q n k e s
 | _ + 1, .loop _ _, _, _ => False
theorem zvI {P Γ r Q} (hpan : ∀ ch s, ¬ Γ.pan ch s) : ∀ n k e s, okK k = true -> RR P Γ r Q n k e s -> zix P Γ r Q k e s
 | 0, _, _, _, _, h => h
 | n + 1, k, e, s, hk, h => by
  have ih := fun k e s => zvI (P := P) (Γ := Γ) (r := r) (Q := Q) hpan n k e s;cases k with
  | done => cases e <;> exact h
  | seq b k =>
   simp only [okK, Bool.and_eq_true] at hk;cases e with
   | normal => exact ziz hpan ih hk.1 hk.2 h
   | _ => first | exact ih k _ s hk.2 h
  | blk id k =>
   simp only [okK] at hk;cases e with
   | exit id' =>
    simp only [RR, zix] at h ⊢;split at h
    ·rename_i hc; rw [if_pos hc]; exact ih _ _ _ hk h
    ·rename_i hc; rw [if_neg hc]; exact ih _ _ _ hk h
   | _ => exact ih k _ s hk h
  | loop I k => cases e <;> exact h.elim
theorem zsj {P Γ r Q c s} (hpan : ∀ ch s, ¬ Γ.pan ch s) (hc : zjz c = true) (h : vs2 P Γ Q (RR P Γ r Q 60) c .done s) : VR P Γ r c s Q := ziz (Q := Q) (k := .done) hpan (zvI hpan 60) hc rfl h
section
variable {P : Program} {Γ : Ctx} {r : Nat} {Q : Exit -> St -> Prop} {k : Kt} {s s' : St} {n : Nat}
theorem zva {e z} (_ : (True /\ True) = z) (h : s = s') : RR P Γ r Q n k e s = RR P Γ r Q n k e s' := by rw [h]
attribute [congr] zva
theorem zts {e} : RR P Γ r Q (n + 1) .done e s = Q e s := rfl
theorem zuq {b} : RR P Γ r Q (n + 1) (.seq b k) .normal s = vs2 P Γ Q (RR P Γ r Q n) b k s := rfl
theorem zmr {b i} : RR P Γ r Q (n + 1) (.seq b k) (.exit i) s = RR P Γ r Q n k (.exit i) s := rfl
theorem zur {i} : RR P Γ r Q (n + 1) (.blk i k) .normal s = RR P Γ r Q n k .normal s := rfl
theorem zms {i j} : RR P Γ r Q (n + 1) (.blk i k) (.exit j) s = if j = i then RR P Γ r Q n k .normal s else RR P Γ r Q n k (.exit j) s := rfl
end
theorem Sat.zuC {k own obs w w'} (h : Sat k own obs w) (r : Nat) (hb : ∀ b, b ≠ r -> b < w.heap.size -> w'.heap[b]? = w.heap[b]?) (hr : ¬ Blk k obs r) (hl : ∀ o, look w r o = none) : Sat k own obs w' := by
 refine h.keep (.refl k) (fun b hB => hb b (fun e => hr (e ▸ hB)) (h.lt hB)) (fun b o v e => ?_) (fun b hB o => ?_)
 ·have hm := h.mem b o v e;by_cases hbr : b = r
  ·subst hbr;rw [hl o] at hm;cases hm
  ·rw [cell_of_heap (hb b hbr (zo8 hm))];exact hm
 ·obtain ⟨i, ob, g, h1, h2, h3⟩ := hB;obtain ⟨g', h4, h5, _⟩ := h.ob i ob h1;rw [h2] at h4;cases h4;exact (h5 b h3).2 o
theorem Sat.notBlk {k own obs w r} (h : Sat k own obs w) (hr : ¬ own r) : ¬ Blk k obs r := fun hB => by
 obtain ⟨i, ob, g, h1, h2, h3⟩ := hB;obtain ⟨g', h4, h5, _⟩ := h.ob i ob h1;rw [h2] at h4;cases h4;exact hr (h5 r h3).1
theorem Sat.owns {k own own' obs w} (h : Sat k own obs w) (ho : ∀ b, Blk k obs b -> own b -> own' b) : Sat k own' obs w := by
 refine ⟨h.mem, fun i ob hi => ?_, h.apart⟩;obtain ⟨g, h1, h2, h3⟩ := h.ob i ob hi;exact ⟨g, h1, fun b hb => ⟨ho b ⟨i, ob, g, hi, h1, hb⟩ (h2 b hb).1, (h2 b hb).2⟩, h3⟩
theorem zhQ {w : World} {l : Nat} {L : Loop} (h : w.heap[l]? = some (.loop L)) (o : Nat) : look w l o = none := by simp [look, h, World.cell?]
theorem zqR {w : World} {l : Nat} {d} (h : w.heap[l]? = some (.deferred d)) (o : Nat) : look w l o = none := by simp [look, h, World.cell?]
abbrev yD (l : Nat) : D := .u (.oth (.func (.yield l) #[] #[]))
def RetY (P : Program) (k0 : Kr) (l : Nat) (L : Loop) (ds : List D) (obs : List (Nat × Ob)) (nx : Nat) (post : D -> List (Nat × Ob) -> Nat -> Prop) : Prop :=
 ∀ (k : Kr) (own : Nat -> Prop) (w : World) (vs : Array Value), k0.le k -> ¬ own l -> w.heap[l]? = some (.loop L) -> Sat k own obs w -> (∀ i, nx <= i -> k.hdr i = none) -> (∀ b, w.heap.size <= b -> own b) -> RepL k ds vs ->
  ∃ fn tmps assign body, (Instr.yield l vs).run P w = .ok (.round l fn tmps assign body) w /\ RoundIn (FO none) 0 P l fn tmps assign body w fun e w' =>
     ∃ v d obs' nx' k', e = .returned v /\ In (.of own k nx w) k' w' /\ Sat k' own obs' w' /\ (∀ i, nx' <= i -> k'.hdr i = none) /\ nx <= nx' /\ Rep k' d v /\ post d obs' nx'
theorem RetY.congr {P k0 l L ds obs obs' nx post} (h : RetY P k0 l L ds obs nx post) (e : ∀ i, getK obs' i = getK obs i) : RetY P k0 l L ds obs' nx post :=
 fun k own w vs hk hl hL hsat hhdr hfresh hrep => h k own w vs hk hl hL (Sat.congr hsat fun i => (e i).symm) hhdr hfresh hrep
theorem RetY.frame {P k0 l L ds obs nx post} (F : List (Nat × Ob)) (hF : ∀ i ob, getK F i = some ob -> getK obs i = none) (h : RetY P k0 l L ds obs nx post) :
  RetY P k0 l L ds (F ++ obs) nx (fun d o n => ∃ o1, o = F ++ o1 /\ post d o1 n) := by
 intro k own w vs hk hl hL hsat hhdr hfresh hrep;obtain ⟨fn, tmps, assign, body, h1, h2⟩ := h k _ w vs hk (fun h => hl h.1) hL (zgJ hF hsat) hhdr (zfW hsat hfresh) hrep;refine ⟨fn, tmps, assign, body, h1, h2.mono ?_⟩;rintro e w' ⟨v, d, o1, n', k', he, hin, hs1, hh1, hle, hr, hp⟩;exact ⟨v, d, F ++ o1, n', k', he, zjR hfresh hin, zh4 hsat hin hs1, hh1, hle, hr, o1, rfl, hp⟩
def RetI (P : Program) (k0 : Kr) (l : Nat) (L : Loop) (f : FuncId) (ds : List D) (obs : List (Nat × Ob)) (nx : Nat) (post : D -> List (Nat × Ob) -> Nat -> Prop) : Prop :=
 ∀ (k : Kr) (own : Nat -> Prop) (w : World) (vs : Array Value), k0.le k -> ¬ own l -> w.heap[l]? = some (.loop L) -> Sat k own obs w -> (∀ i, nx <= i -> k.hdr i = none) -> (∀ b, w.heap.size <= b -> own b) -> RepL k ds vs ->
  Calls P f vs w fun e w' => ∃ v d obs' nx' k', e = .returned v /\ In (.of own k nx w) k' w' /\ Sat k' own obs' w' /\ (∀ i, nx' <= i -> k'.hdr i = none) /\ nx <= nx' /\ Rep k' d v /\ post d obs' nx'
structure YCtx (Γ : Ctx) (k0 : Kr) (l : Nat) (L : Loop) : Prop where
 own : ¬ Γ.own.own l
 heap : Γ.w0.heap[l]? = some (.loop L)
 le : k0.le Γ.k0
theorem RetI.of_body {P k0 l L f fn c ds obs nx post nt} (hf : P.funcs[f]? = some fn) (hnt : fn.ntmps = nt) (hb : fn.body = some c) (hn : ds.length <= nt)
  (h : ∀ Γ : Ctx, Γ.n0 = nx -> YCtx Γ k0 l L -> (∀ ch s, ¬ Γ.pan ch s) -> V P Γ c (entry ds nt obs nx) (za3 P Γ (EndW P Γ fn nx post) .done)) : RetI P k0 l L f ds obs nx post := by
 subst hnt;intro k own w vs hk hl hL hsat hhdr hfresh hrep;have hsz : vs.size = ds.length := hrep.1
 let Γ : Ctx := .of own k nx w
 refine calls_of_wp hf hb (wp_mono (h Γ rfl ⟨hl, hL, hk⟩ (fun _ _ h => h) k _ w ⟨.refl _, hhdr, fun b o v e => .inl e, hfresh, rfl, rfl, rfl, Nat.le_refl _, fun _ _ => rfl⟩
  ⟨hsat, rfl, ?_, fun x d hx => ?_, hhdr⟩) ?_)
 ·simp [entry, hsz]; omega
 ·simp only [entry, zek, Nat.zero_le, if_true, Nat.sub_zero] at hx;have hlt := (List.getElem?_eq_some_iff.1 hx).1;refine ⟨by simp [entry]; omega, ?_⟩;have := hrep.2 x d hx;have e : (vs ++ Array.replicate (fn.ntmps - vs.size) undef).getD x undef = vs.getD x undef := by
   simp [Array.getElem?_append, show x < vs.size by omega]
  rw [e];exact this
 ·rintro e a' w' (⟨K', s', hin, hs, hend⟩ | hx)
  ·have hd : a'.defers = [] := hs.defers;have fin : EndW P Γ fn nx post .ret s' -> bodyPost P fn (fun e w' => ∃ v d obs' nx' k', e = .returned v /\ In (.of own k nx w) k' w' /\ Sat k' own obs' w' /\ (∀ i, nx' <= i -> k'.hdr i = none) /\ nx <= nx' /\ Rep k' d v /\ post d obs' nx') .ret a' w' := fun hend => by
    obtain ⟨v, h1, r, o, n, k', h2, h3, h4, h5, h6, h7⟩ := zdg (Γ := Γ) (post := fun r o n => match r with | .val d => post d o n | .pan _ => False) hend hin hs;cases r with
    | val d =>
     obtain ⟨v', e, hr⟩ := h2;cases e;exact ⟨hd, v, h1, v, d, o, n, k', rfl, h3, h4, h5, h6, hr, h7⟩
    | pan ch => exact h7.elim
   cases e with
   | panic ch => exact False.elim hend
   | normal => exact fin (by obtain ⟨s2, h1, _, h2⟩ := hend; exact ⟨s2, h1, .inr rfl, h2⟩)
   | ret => exact fin hend
   | exit i => obtain ⟨_, _, h1, _⟩ := hend; rcases h1 with h1 | h1 <;> cases h1
   | goto i => obtain ⟨_, _, h1, _⟩ := hend; rcases h1 with h1 | h1 <;> cases h1
   | outgrown => obtain ⟨_, _, h1, _⟩ := hend; rcases h1 with h1 | h1 <;> cases h1
  ·exact hx.2.elim
@[irreducible] def YS (P : Program) (k0 : Kr) (l : Nat) (L : Loop) (fop : Operand) (args : List Operand) (dst : Option Tmp) (s : St) (k : St -> Prop) : Prop :=
 opd s fop = yD l /\ zaq dst s /\ ∃ p, RetY P k0 l L (args.map (opd s)) s.obs s.next p /\ ∀ d o n, s.next <= n -> p d o n -> k (({ s with obs := o, next := n } : St).put dst d)
theorem YS.of {P k0 l L fop args dst s} {k : St -> Prop} {ds : List D} {obs : List (Nat × Ob)} {p : D -> List (Nat × Ob) -> Nat -> Prop} (F : List (Nat × Ob)) (h : RetY P k0 l L ds obs s.next p) (hds : args.map (opd s) = ds) (heq : ∀ i, getK s.obs i = getK (F ++ obs) i) (hF : ∀ i ob, getK F i = some ob -> getK obs i = none)
  (hf : opd s fop = yD l) (hp : zaq dst s) (hk : ∀ d o n, s.next <= n -> p d o n -> k (({ s with obs := F ++ o, next := n } : St).put dst d)) : YS P k0 l L fop args dst s k := by
 subst hds;unfold YS;exact ⟨hf, hp, _, (h.frame F hF).congr heq, fun d o n hn ⟨o1, ho, hpo⟩ => by subst ho; exact hk d o1 n hn hpo⟩
theorem zu9 {P k0 l L fop args dst s s' k z} (_ : (True /\ True) = z) (h : s = s') : YS P k0 l L fop args dst s k = YS P k0 l L fop args dst s' k := by rw [h]
attribute [congr] zu9
theorem zng {P Γ s k0 l0 L} {Q : Exit -> St -> Prop} {kt : Kt} {id : Nat} {l : List Oper} (n : Nat) {dst : Option Tmp} {fop : Operand} {args : List Operand} {ts : Array TypeId} {ty : TypeId} {pos : String} {after : Array Edge}
  (hpan : ∀ ch s, ¬ Γ.pan ch s) (hY : YCtx Γ k0 l0 L)
  (h2 : l[n]? = some { dst := dst, op := .call { callee := .value fop, args := args.toArray, argTypes := ts }, type := ty, pos := pos, after := after, guard := none })
  (hc : l.all ziw = true)
  (h : match zaW l.toArray (l.take n), zaW l.toArray (l.drop (n + 1)) with
    | some pre, some post => HR P Γ pre s fun s1 => YS P k0 l0 L fop args dst s1 fun s2 => HR P Γ post s2 (za3 P Γ Q kt .normal)
    | _, _ => False) : V P Γ (zqj (.region id l.toArray false)) s (za3 P Γ Q kt) := by
 rw [ze2];intro K a w hin hs;split at h
 case h_2 => exact h.elim
 rename_i pre post h1 h3;refine (wpIn_wide (n := 0)).1 (wpIn_region_lit ?_);have hlt := (List.getElem?_eq_some_iff.1 h2).1;have hsplit : l = l.take n ++ l[n] :: l.drop (n + 1) := by rw [<- List.drop_eq_getElem_cons hlt, List.take_append_drop]
 have hget := (List.getElem?_eq_some_iff.1 h2).2;have hc1 : (l.take n).all ziw = true := List.all_eq_true.2 fun x hx => List.all_eq_true.1 hc x (List.mem_of_mem_take hx);have hc3 : (l.drop (n + 1)).all ziw = true := List.all_eq_true.2 fun x hx => List.all_eq_true.1 hc x (List.mem_of_mem_drop hx);have main : wpListIn (FO none) 0 P l.toArray (VPost Γ (za3 P Γ Q kt)) (l.take n ++ l[n] :: l.drop (n + 1)) a w := by
  refine zvk hpan hc1 (zsl h1 h) hin hs fun K1 a1 w1 s1 hin1 hs1 hy => ?_;rw [hget];unfold YS at hy;obtain ⟨hfop, hput, p, hret, hk⟩ := hy;refine wpListIn_plain rfl fun Kont hK => ⟨fun _ _ => trivial, ?_⟩;have hv := zdU (by have := zaJ hs1 fop; rw [hfop] at this; exact this);have hrep : RepL K1 (args.map (opd s1)) (args.toArray.map a1.eval) := ⟨by simp, fun j d hj => by
   have := zfp hs1 args j d hj;simpa using this⟩
  have hl1 : w1.heap[l0]? = some (.loop L) := (hin1.block l0 hY.own).trans hY.heap;obtain ⟨fn, tmps, assign, body, hy1, hy2⟩ := hret K1 Γ.own.own w1 _ (hY.le.trans hin1.le) hY.own hl1 hs1.sat hs1.hdr (fun b hb => hin1.own_of_ge hb) hrep;have hrun : (Oper.semAt none a1.eval { dst := dst, op := .call { callee := .value fop, args := args.toArray, argTypes := ts }, type := ty, pos := pos, after := after, guard := none }).run P w1 = .ok (.round l0 fn tmps assign body) w1 := by
   rw [Oper.semAt_none];have hy3 := hy1;simp only [List.map_toArray] at hy3;simp [execOp, resolve, hv, Deferred.ofValue, invoke, hy3]
  rw [hrun];refine ⟨fun e => by simp [Fence.wide] at e, hy2.mono ?_⟩;rintro e w' ⟨v, d, obs', nx', k', rfl, hin', hsat', hhdr', hnx, hr, hpost⟩;have hle : K1.le k' := hin'.le;have hin2 : In Γ k' w' := hin1.step hle (fun b o v e => hin'.memNew b o v e) hin'.os hin'.tape hin'.output hin'.size hin'.block;have hsim : Sim k' Γ.own ({ s1 with obs := obs', next := nx' } : St) a1 w' := ⟨hsat', hs1.defers, hs1.size, fun x d hx => ⟨(hs1.env x d hx).1, (hs1.env x d hx).2.mono hle⟩, hhdr'⟩;have hg := hk d obs' nx' hnx hpost;refine hK _ _ ?_;have := zvk (ro := none) (n := 0) (Q' := VPost Γ (za3 P Γ Q kt)) (rest := []) hpan hc3 (zsl h3 hg) hin2 (hsim.put (by cases dst with | none => trivial | some x => exact hput) hr) fun K' a' w' s' q1 q2 q3 => .inl ⟨K', s', q1, q2, q3⟩
  rwa [List.append_nil] at this
 rw [<- hsplit] at main;exact main
theorem ztj {P Γ s k0 l0 L} {Q : Exit -> St -> Prop} {kt : Kt} {id : Nat} {l : List Oper} {rest : Code} (n : Nat) {dst : Option Tmp} {fop : Operand} {args : List Operand} {ts : Array TypeId} {ty : TypeId} {pos : String} {after : Array Edge}
  (hpan : ∀ ch s, ¬ Γ.pan ch s) (hY : YCtx Γ k0 l0 L)
  (h2 : l[n]? = some { dst := dst, op := .call { callee := .value fop, args := args.toArray, argTypes := ts }, type := ty, pos := pos, after := after, guard := none })
  (hc : l.all ziw = true)
  (h : match zaW l.toArray (l.take n), zaW l.toArray (l.drop (n + 1)) with
    | some pre, some post => HR P Γ pre s fun s1 => YS P k0 l0 L fop args dst s1 fun s2 => HR P Γ post s2 (V P Γ rest · (za3 P Γ Q kt))
    | _, _ => False) : V P Γ (zqj (.seq (.region id l.toArray false) rest)) s (za3 P Γ Q kt) := by
 rw [ze2];refine zp5 ?_;have := zng (kt := .seq rest kt) (id := id) n hpan hY h2 hc h
 rwa [ze2] at this
theorem zq8 (i : Nat) {a : Code} {ops : Array Oper} {b : Bool} : Code.seq a (.region i ops b) = Code.seq a (zqj (.region i ops b)) := by rw [ze2]
def zvK (P : Program) (gf : FuncId) (caps : List D) (O O' : List (Nat × Ob)) (xs : List D) : Prop :=
 ∀ (k0 : Kr) (l : Nat) (L : Loop) (A : Nat -> List (Nat × Ob)) (N : Nat -> Nat), (∀ i j ob, getK O j = some ob -> getK (A i) j = none) -> (∀ i, N i <= N (i + 1)) ->
  (∀ i x, xs[i]? = some x -> RetY P k0 l L [x] (A i) (N i) fun d o n => d = .u (.bool true) /\ o = A (i + 1) /\ n = N (i + 1)) ->
  RetI P k0 l L gf (yD l :: caps) (O ++ A 0) (N 0) fun _ o n => o = O' ++ A xs.length /\ n = N xs.length
theorem RetX.zrS {P f fn c ds obs nx post nt} (hf : P.funcs[f]? = some fn) (hnt : fn.ntmps = nt) (hb : fn.body = some c) (hn : ds.length <= nt)
  (h : ∀ Γ : Ctx, Γ.n0 = nx -> Γ.own.dfr = [] -> (∀ ch s, PanG Γ post ch s -> Γ.pan ch s) -> (∀ e a w', bodyPostM Fence.wide 0 P fn (RX Γ.base post) e a w' -> Γ.esc e a w') -> V P Γ c (entry ds nt obs nx) (za3 P Γ (EndW P Γ fn nx fun d o n => post (.val d) o n) .done)) : RetX P f ds obs nx post := by
 subst hnt;intro k own w vs hsat hhdr hfresh hrep;have hsz : vs.size = ds.length := hrep.1
 let Γ0 : Ctx := .of own k nx w
 let Γ : Ctx := ⟨⟨own, []⟩, k, nx, w, PanG Γ0 post, bodyPostM Fence.wide 0 P fn (RX Γ0 post)⟩
 have hpan : ∀ ch s, PanG Γ post ch s -> Γ.pan ch s := fun ch s ⟨s', h1, h2, h3⟩ => ⟨s', h1.conv rfl rfl rfl rfl, h2, h3⟩;have hR : ∀ e w', RX Γ post e w' -> RX Γ0 post e w' := fun e w' h => h.conv rfl rfl rfl rfl;have hesc : ∀ e a w', bodyPostM Fence.wide 0 P fn (RX Γ.base post) e a w' -> Γ.esc e a w' := fun e a w' h => h;refine (callsIn_wide (n := 0)).1 (callsIn_of_wp_marks (R := RX Γ0 post) hf hb trivial ((wpIn_wide (n := 0)).2 (wp_mono (h Γ rfl rfl hpan hesc k _ w ⟨.refl _, hhdr, fun b o v e => .inl e, hfresh, rfl, rfl, rfl, Nat.le_refl _, fun _ _ => rfl⟩
  ⟨hsat, rfl, ?_, fun x d hx => ?_, hhdr⟩) ?_)))
 ·simp [entry, hsz]; omega
 ·simp only [entry, zek, Nat.zero_le, if_true, Nat.sub_zero] at hx;have hlt := (List.getElem?_eq_some_iff.1 hx).1;refine ⟨by simp [entry]; omega, ?_⟩;have := hrep.2 x d hx;have e : (vs ++ Array.replicate (fn.ntmps - vs.size) undef).getD x undef = vs.getD x undef := by
   simp [Array.getElem?_append, show x < vs.size by omega]
  rw [e];exact this
 ·rintro e a' w' (⟨K', s', hin, hs, hend⟩ | hx)
  ·have hd : a'.defers = [] := hs.defers;cases e with
   | panic ch =>
    obtain ⟨s2, hw, hn2, hp⟩ := (hend : PanG Γ0 post ch s');obtain ⟨K2, h1, h2⟩ := hw K' a' w' (hin.conv rfl rfl rfl rfl) hs;show LeavesInM Fence.wide 0 P fn a'.tmps (RX Γ0 post) a'.defers (.panicking ch) w';rw [hd];exact ⟨.pan ch, s2.obs, s2.next, K2, rfl, h1, h2.sat, h2.hdr, hn2, hp⟩
   | normal =>
    obtain ⟨v, h1, h2⟩ := zdg (Γ := Γ) (post := post) hend hin hs;show LeavesInM Fence.wide 0 P fn a'.tmps (RX Γ0 post) a'.defers .returning w';rw [hd];exact ⟨v, h1, hR _ _ h2⟩
   | ret =>
    obtain ⟨v, h1, h2⟩ := zdg (Γ := Γ) (post := post) hend hin hs;show LeavesInM Fence.wide 0 P fn a'.tmps (RX Γ0 post) a'.defers .returning w';rw [hd];exact ⟨v, h1, hR _ _ h2⟩
   | exit i => obtain ⟨_, _, h1, _⟩ := hend; rcases h1 with h1 | h1 <;> cases h1
   | goto i => obtain ⟨_, _, h1, _⟩ := hend; rcases h1 with h1 | h1 <;> cases h1
   | outgrown => obtain ⟨_, _, h1, _⟩ := hend; rcases h1 with h1 | h1 <;> cases h1
  ·exact hx.2
def zzN (P : Program) (Γb : Ctx) (fn : Func) (post : Out -> List (Nat × Ob) -> Nat -> Prop) (e : Exit) (s : St) : Prop := e = .ret /\ EndW P Γb fn Γb.n0 (fun d o n => post (.val d) o n) .ret s
theorem RetY.zrR {P : Program} {K : Kr} {l : Nat} {L : Loop} {s : St} {p : Tmp} {x : D} {A A' : List (Nat × Ob)} {N N' : Nat} {W : World} {a : Act} {own0 : Own} {fn0 D0 assign body} (hL : L = { state := .ready, pending := none, fn := fn0, tmps := a.tmps, params := #[p], assign := assign, body := body, defers := D0 })
  (hs : Sim K own0 s a W) (hp : p < s.n) (hN : N <= N')
  (h : ∀ (Γ1 : Ctx), Γ1.n0 = N -> (∀ ch s, ¬ Γ1.pan ch s) -> VR P Γ1 l assign (({ s with obs := A, next := N } : St).put (some p) x) fun e s1 => e = .normal /\ N <= s1.next /\
    ∀ Γ2 : Ctx, Γ2.n0 = s1.next -> (∀ ch s, ¬ Γ2.pan ch s) -> VR P Γ2 l body s1 fun e s2 => e = .normal /\ ∃ s3, Wk Γ2 s2 s3 /\ s3.obs = A' /\ s3.next = N') :
  RetY P K l L [x] A N fun d o n => d = .u (.bool true) /\ o = A' /\ n = N' := by
 intro k own w vs hk hl hLw hsat hhdr hfresh hrep;obtain ⟨hvs, hvr⟩ := hrep;have hsz : vs.size = L.params.size := by rw [hvs, hL]; rfl
 refine ⟨_, _, _, _, run_yield hLw hsz, roundIn_of_wpIn trivial ?_⟩
 let Γ1 : Ctx := .of own k N w
 have hin1 : In Γ1 k w := ⟨.refl _, hhdr, fun b o v e => .inl e, hfresh, rfl, rfl, rfl, Nat.le_refl _, fun _ _ => rfl⟩;have hfold : (L.params.zip vs).foldl (fun tmps (t, a) => tmps.setIfInBounds t a) L.tmps = a.tmps.setIfInBounds p (vs.getD 0 undef) := by
  obtain ⟨v, rfl⟩ : ∃ v, vs = #[v] := by
   obtain ⟨l⟩ := vs
   match l, hvs with
   | [v], _ => exact ⟨v, rfl⟩
  rw [hL];simp
 have hsim0 : Sim k Γ1.own ({ s with obs := A, next := N } : St) { tmps := a.tmps, defers := [] } w := ⟨hsat, rfl, hs.size, fun y d hy => ⟨(hs.env y d hy).1, (hs.env y d hy).2.mono hk⟩, hhdr⟩;have hsim1 : Sim k Γ1.own (({ s with obs := A, next := N } : St).put (some p) x) { tmps := (L.params.zip vs).foldl (fun tmps (t, a) => tmps.setIfInBounds t a) L.tmps, defers := [] } w := by
  rw [hfold];exact hsim0.put (dst := some p) (by simpa [zaq] using hp) (hvr 0 x rfl)
 have hLa : L.assign = assign /\ L.body = body := by rw [hL]; exact ⟨rfl, rfl⟩
 rw [hLa.1, hLa.2];refine wpIn_mono (h Γ1 rfl (fun _ _ h => h) k _ w hin1 hsim1) ?_;rintro e a1 w1 (⟨K1, s1, hi1, hs1, hq1⟩ | hx)
 case inr => exact hx.2.elim
 have hq1' : e = .normal /\ N <= s1.next /\ ∀ Γ2 : Ctx, Γ2.n0 = s1.next -> (∀ ch s, ¬ Γ2.pan ch s) -> VR P Γ2 l body s1 fun e s2 => e = .normal /\ ∃ s3, Wk Γ2 s2 s3 /\ s3.obs = A' /\ s3.next = N' := by
  cases e with
  | panic ch => exact hq1.elim
  | _ => exact hq1
 obtain ⟨rfl, hN1, hbody⟩ := hq1';have hl1 : w1.heap[l]? = some (.loop L) := (hi1.block l hl).trans hLw;have hst : L.state = .ready := by rw [hL]
 refine ⟨_, run_beginRound hl1 hst, ?_⟩;have hlt1 := (Array.getElem?_eq_some_iff.1 hl1).1;generalize hw2 : w1.putObj l (.loop { L with state := .busy }) = w2;have hh2 : ∀ b, b ≠ l -> w2.heap[b]? = w1.heap[b]? := fun b hb => by rw [<- hw2]; exact World.putObj_heap_other hb
 have hsz2 : w2.heap.size = w1.heap.size := by rw [<- hw2]; simp
 have hl2 : w2.heap[l]? = some (.loop { L with state := .busy }) := by rw [<- hw2]; exact World.putObj_heap_same hlt1
 let Γ2 : Ctx := .of own K1 s1.next w2
 have hin2 : In Γ2 K1 w2 := ⟨.refl _, hs1.hdr, fun b o v e => .inl e, fun b hb => hi1.own_of_ge (by rw [<- hsz2]; exact hb), rfl, rfl, rfl, Nat.le_refl _, fun _ _ => rfl⟩;have hsim2 : Sim K1 Γ2.own s1 a1 w2 := ⟨Sat.zuC hs1.sat l (fun b hb _ => hh2 b hb) (hs1.sat.notBlk hl) (zhQ hl1), hs1.defers, hs1.size, hs1.env, hs1.hdr⟩;refine wpIn_mono (hbody Γ2 rfl (fun _ _ h => h) K1 a1 w2 hin2 hsim2) ?_;rintro e a2 w3 (⟨K2, s2, hi2, hs2, hq2⟩ | hx)
 case inr => exact hx.2.elim
 have hq2' : e = .normal /\ ∃ s3, Wk Γ2 s2 s3 /\ s3.obs = A' /\ s3.next = N' := by
  cases e with
  | panic ch => exact hq2.elim
  | _ => exact hq2
 obtain ⟨rfl, s3, hw, hA, hNx⟩ := hq2';obtain ⟨K3, hi3, hs3⟩ := hw K2 a2 w3 hi2 hs2;have hl3 : w3.heap[l]? = some (.loop { L with state := .busy }) := (hi3.block l hl).trans hl2;have hlt3 := (Array.getElem?_eq_some_iff.1 hl3).1;refine ⟨_, _, run_endRound none hl3, ?_⟩;have hLe : ({ ({ L with state := .busy } : Loop) with state := if (none : Option Code).isNone then .ready else .done, pending := none } : Loop) = L := by rw [hL]; rfl
 rw [hLe];generalize hw4 : w3.putObj l (.loop L) = w4;have hh4 : ∀ b, b ≠ l -> w4.heap[b]? = w3.heap[b]? := fun b hb => by rw [<- hw4]; exact World.putObj_heap_other hb
 have hsz4 : w4.heap.size = w3.heap.size := by rw [<- hw4]; simp
 have hl4 : w4.heap[l]? = some (.loop L) := by rw [<- hw4]; exact World.putObj_heap_same hlt3
 have ho2 : w2.os = w1.os /\ w2.tape = w1.tape /\ w2.output = w1.output := by rw [<- hw2]; exact ⟨rfl, rfl, rfl⟩
 have ho4 : w4.os = w3.os /\ w4.tape = w3.tape /\ w4.output = w3.output := by rw [<- hw4]; exact ⟨rfl, rfl, rfl⟩
 refine ⟨_, .u (.bool true), A', N', K3, rfl, ⟨hi1.le.trans hi3.le, hhdr, fun b o v e => ?_, hfresh, ?_, ?_, ?_, ?_, fun b hb => ?_⟩, ?_, ?_, hN, .u _ _ (.bool _), rfl, rfl, rfl⟩
 ·rcases hi3.memNew b o v e with h | h
  ·exact hi1.memNew b o v h
  ·exact .inr h
 ·exact ho4.1.trans (hi3.os.trans (ho2.1.trans hi1.os))
 ·exact ho4.2.1.trans (hi3.tape.trans (ho2.2.1.trans hi1.tape))
 ·exact ho4.2.2.trans (hi3.output.trans (ho2.2.2.trans hi1.output))
 ·have h1 := hi1.size;have h3 := hi3.size;have h1' : w.heap.size <= w1.heap.size := h1;have h3' : w2.heap.size <= w3.heap.size := h3;show w.heap.size <= w4.heap.size;omega
 ·show w4.heap[b]? = w.heap[b]?;by_cases hbl : b = l
  ·subst hbl;rw [hl4, hLw]
  ·rw [hh4 b hbl];exact (hi3.block b hb).trans ((hh2 b hbl).trans (hi1.block b hb))
 ·rw [<- hA];exact Sat.zuC hs3.sat l (fun b hb _ => hh4 b hb) (hs3.sat.notBlk hl) (zhQ hl3)
 ·rw [<- hNx];exact hs3.hdr
theorem zsJ (i : Nat) {ops : Array Oper} {b : Bool} {rest : Code} : Code.seq (.region i ops b) rest = zqj (.seq (.region i ops b) rest) := (ze2 _).symm
theorem zn0 {c1 assign body rest : Code} {id : Nat} {g : Operand} {ps : Array Tmp} : Code.seq (.seq c1 (.block id (.rangeFunc g ps assign body))) rest = zqj (.seq (.seq c1 (.block id (.rangeFunc g ps assign body))) rest) := (ze2 _).symm
@[irreducible] def RangeOK (P : Program) (Γ : Ctx) (W : Exit -> Act -> World -> Prop) (g : Operand) (p : Tmp) (assign body rest : Code) (s : St) : Prop :=
 ∀ K a w, In Γ K w -> Sim K Γ.own s a w -> (Code.rangeFunc g #[p] assign body).wp P (fun e a w => e = .normal /\ rest.wp P W a w) a w
theorem zoj {P Γ W g p assign body rest s s' z} (_ : (True /\ True) = z) (h : s = s') : RangeOK P Γ W g p assign body rest s = RangeOK P Γ W g p assign body rest s' := by rw [h]
attribute [congr] zoj
theorem RangeOK.wk {P Γ W g p assign body rest s} (s' : St) (hw : Wk Γ s s') (h : RangeOK P Γ W g p assign body rest s') : RangeOK P Γ W g p assign body rest s := by
 unfold RangeOK at h ⊢;intro K a w h1 h2;obtain ⟨K', h3, h4⟩ := hw K a w h1 h2;exact h K' a w h3 h4
theorem ztk {P Γ s} {Q : Exit -> St -> Prop} {kt : Kt} {id : Nat} {g : Operand} {p : Tmp} {c1 assign body rest : Code} (h : V P Γ c1 s (za3 P Γ (fun e s1 => e = .normal /\ RangeOK P Γ (VPost Γ (za3 P Γ Q kt)) g p assign body rest s1) .done)) :
  V P Γ (zqj (.seq (.seq c1 (.block id (.rangeFunc g #[p] assign body))) rest)) s (za3 P Γ Q kt) := by
 rw [ze2];intro K a w hin hs;refine wp_seq (wp_seq (wp_mono (h K a w hin hs) ?_));rintro e a1 w1 (⟨K1, s1, h1, h2, h3⟩ | hx)
 ·cases e with
  | normal =>
   have h4 := h3.2;unfold RangeOK at h4;refine wp_block (wp_mono (h4 K1 a1 w1 h1 h2) ?_);rintro e a2 w2 ⟨rfl, h5⟩;exact h5
  | panic ch => exact .inl ⟨K1, s1, h1, h2, h3⟩
  | ret => exact absurd h3.1 (by simp)
  | exit i => exact absurd h3.1 (by simp)
  | goto i => exact absurd h3.1 (by simp)
  | outgrown => exact absurd h3.1 (by simp)
 ·cases e with
  | normal => exact hx.1.elim
  | _ => exact .inr hx
theorem RangeOK.of {P Γ fn post s} {Q : Exit -> St -> Prop} {kt : Kt} {g : Operand} {p : Tmp} {assign body rest : Code} {gf : FuncId} {caps : List D} {O O' : List (Nat × Ob)} {xs : List D} (A : Nat -> List (Nat × Ob)) (N : Nat -> Nat)
  (hesc : ∀ e a w', bodyPostM Fence.wide 0 P fn (RX Γ.base post) e a w' -> Γ.esc e a w') (hd : Γ.own.dfr = []) (hg : opd s g = .fnc (.func gf) caps) (hc : zae P gf = true) (hit : zvK P gf caps O O' xs)
  (hdis : ∀ i j ob, getK O j = some ob -> getK (A i) j = none) (hobs : ∀ i, getK s.obs i = getK (O ++ A 0) i) (hnx : s.next = N 0) (hN : ∀ i, N i <= N (i + 1)) (hp : p < s.n)
  (hround : ∀ i x, xs[i]? = some x -> ∀ (Γ1 : Ctx) (r : Nat), Γ1.n0 = N i -> (∀ ch s, ¬ Γ1.pan ch s) -> VR P Γ1 r assign (({ s with obs := A i, next := N i } : St).put (some p) x) fun e s1 => e = .normal /\ N i <= s1.next /\
    ∀ Γ2 : Ctx, Γ2.n0 = s1.next -> (∀ ch s, ¬ Γ2.pan ch s) -> VR P Γ2 r body s1 fun e s2 => e = .normal /\ ∃ s3, Wk Γ2 s2 s3 /\ s3.obs = A (i + 1) /\ s3.next = N (i + 1))
  (hrest : ∀ Γ' : Ctx, Γ'.n0 = N xs.length -> (∀ ch s, ¬ Γ'.pan ch s) -> V P Γ' rest { s with obs := O' ++ A xs.length, next := N xs.length } (za3 P Γ' (zzN P Γ.base fn post) .done)) :
  RangeOK P Γ (VPost Γ (za3 P Γ Q kt)) g p assign body rest s := by
 unfold RangeOK;intro K a w hin hs;refine (wpIn_wide (n := 0)).1 (wpIn_rangeFunc (F := Fence.wide) fun fn' _ => ?_);obtain ⟨cv, hcl, hv, hcap⟩ := zhB (by have := zaJ hs g; rw [hg] at this; exact this);obtain ⟨L, hL⟩ : ∃ L : Loop, L = { state := .ready, pending := none, fn := fn', tmps := a.tmps, params := #[p], assign := assign, body := body, defers := w.heap.size } := ⟨_, rfl⟩;obtain ⟨W1, hW1⟩ : ∃ W1, (w.alloc (.deferred (some []))).alloc (.loop L) = W1 := ⟨_, rfl⟩;have hsW : W1.heap.size = w.heap.size + 2 := by rw [<- hW1]; simp
 have hL1 : W1.heap[w.heap.size + 1]? = some (.loop L) := by
  rw [<- hW1]; have := World.alloc_heap_new (w.alloc (.deferred (some []))) (.loop L); rwa [World.size_alloc] at this
 have hD1 : W1.heap[w.heap.size]? = some (.deferred (some [])) := by
  rw [<- hW1]; exact (zdN _ _ (by simp)).trans (World.alloc_heap_new w _)
 have hold : ∀ b, b < w.heap.size -> W1.heap[b]? = w.heap[b]? := fun b hb => by
  rw [<- hW1]; exact (zdN _ _ (by simp; omega)).trans (zdN _ _ hb)
 have hoW : W1.os = w.os /\ W1.tape = w.tape /\ W1.output = w.output := by rw [<- hW1]; exact ⟨rfl, rfl, rfl⟩
 refine ⟨w.heap.size + 1, [{ target := .collected w.heap.size, args := #[] }], W1, { target := .fn (.func gf) cv.toArray, args := #[.func (.yield (w.heap.size + 1)) #[] #[]] }, W1, gf,
  #[.func (.yield (w.heap.size + 1)) #[] #[]] ++ cv.toArray, W1, ?_, ?_, fun _ _ => trivial, ?_, fun e => by simp [Fence.wide] at e, (callsIn_wide (n := 0 - 1)).2 ?_⟩
 ·rw [<- hW1, hL]; exact run_enterLoop_outer _ _ _ _ _
 ·simp [resolve, hv, Deferred.ofValue]
  try rfl
 ·unfold zae at hc;split at hc
  ·rename_i f0 hfn;simp at hc;obtain ⟨hb, hname⟩ := hc;have hb' : f0.body.isNone = false := by cases hbb : f0.body <;> simp_all
   simp [invoke, callFunc, hfn, hb', hname];intro h0;rw [h0] at hb;simp at hb
  ·cases hc
 have hsatW : Sat K Γ.own.own s.obs W1 := hs.sat.keep (.refl K) (fun b hB => hold b (hs.sat.lt hB)) (fun b o v e => by rw [cell_of_heap (hold b (hs.sat.memLt e))]; exact hs.sat.mem b o v e)
  (fun b hB o => by
    obtain ⟨i, ob, g, h1, h2, h3⟩ := hB;obtain ⟨g', h4, h5, _⟩ := hs.sat.ob i ob h1;rw [h2] at h4;cases h4;exact (h5 b h3).2 o)
 have hsat1 : Sat K (fun b => Γ.own.own b /\ b ≠ w.heap.size + 1 /\ b ≠ w.heap.size) (O ++ A 0) W1 := by
  refine Sat.congr (Sat.owns hsatW fun b hB h => ⟨h, ?_⟩) fun i => (hobs i).symm;have := hs.sat.lt hB;omega
 have hcall := hit K (w.heap.size + 1) L A N hdis hN (fun i x hx => RetY.zrR hL hs hp (hN i) fun Γ1 h1 h2 => hround i x hx Γ1 _ h1 h2) K _ W1
  (#[.func (.yield (w.heap.size + 1)) #[] #[]] ++ cv.toArray) (.refl K) (fun h => h.2.1 rfl) hL1 hsat1 (fun i hi => hs.hdr i (by rw [hnx]; exact hi)) (fun b hb => ⟨hin.own_of_ge (by omega), by omega, by omega⟩)
  ⟨by simp [hcl], fun j d hj => by
   cases j with
   | zero =>
      cases hj;simpa using Rep.u _ _ (RepU.oth _)
   | succ j =>
      have := hcap j d (by simpa using hj);simpa [Array.getElem?_append] using this⟩
 refine hcall.mono ?_;rintro e w3 ⟨v, d, obs3, nx3, k3, rfl, hin3, hsat3, hhdr3, hnx3, _, rfl, rfl⟩;have hl3 : w3.heap[w.heap.size + 1]? = some (.loop L) := (hin3.block _ fun h => h.2.1 rfl).trans hL1;have hD3 : w3.heap[w.heap.size]? = some (.deferred (some [])) := (hin3.block _ fun h => h.2.2 rfl).trans hD1;have hlt3 := (Array.getElem?_eq_some_iff.1 hl3).1;have hpend : L.pending = none := by rw [hL]
 refine ⟨none, w3.putObj (w.heap.size + 1) (.loop { L with state := .exhausted }), (run_endLoop (P := P) hl3 (by rw [hL]; simp)).trans (by rw [hpend]), ?_⟩;generalize hw4 : w3.putObj (w.heap.size + 1) (.loop { L with state := .exhausted }) = w4;have hh4 : ∀ b, b ≠ w.heap.size + 1 -> w4.heap[b]? = w3.heap[b]? := fun b hb => by rw [<- hw4]; exact World.putObj_heap_other hb
 have hsz4 : w4.heap.size = w3.heap.size := by rw [<- hw4]; simp
 have ho4 : w4.os = w3.os /\ w4.tape = w3.tape /\ w4.output = w3.output := by rw [<- hw4]; exact ⟨rfl, rfl, rfl⟩
 have hD4 : w4.heap[w.heap.size]? = some (.deferred (some [])) := (hh4 _ (by omega)).trans hD3;have hKk : K.le k3 := hin3.le;have hin4 : In Γ k3 w4 := by
  refine hin.step hKk (fun b o v e => (hin3.memNew b o v e).imp id (·.1)) ?_ ?_ ?_ ?_ fun b hb => ?_
  ·exact ho4.1.trans (hin3.os.trans hoW.1)
  ·exact ho4.2.1.trans (hin3.tape.trans hoW.2.1)
  ·exact ho4.2.2.trans (hin3.output.trans hoW.2.2)
  ·have h3 : W1.heap.size <= w3.heap.size := hin3.size;omega
  ·have hbl : b < w.heap.size := by
    rcases Nat.lt_or_ge b w.heap.size with h | h
    ·exact h
    ·exact absurd (hin.own_of_ge h) hb
   rw [hh4 b (by omega)];exact (hin3.block b fun h => hb h.1).trans (hold b hbl)
 let Γ' : Ctx := ⟨⟨fun b => Γ.own.own b /\ b ≠ w.heap.size, [{ target := .collected w.heap.size, args := #[] }]⟩, k3, N xs.length, w4, fun _ _ => False, fun _ _ _ => False⟩
 have hDlt := (Array.getElem?_eq_some_iff.1 hD4).1;have hin5 : In Γ' k3 w4 := ⟨.refl _, hhdr3, fun b o v e => .inl e, fun b hb => ⟨hin4.own_of_ge hb, by have : w4.heap.size <= b := hb; omega⟩, rfl, rfl, rfl, Nat.le_refl _, fun _ _ => rfl⟩;have hsat4 : Sat k3 Γ'.own.own (O' ++ A xs.length) w4 := by
  refine Sat.zuC (Sat.owns hsat3 fun b hB h => ⟨h.1, h.2.2⟩) (w.heap.size + 1) (fun b hb _ => hh4 b hb) (fun hB => ?_) (zhQ hl3);exact hsat3.notBlk (fun h => h.2.1 rfl) hB
 have hs5 : Sim k3 Γ'.own ({ s with obs := O' ++ A xs.length, next := N xs.length } : St) { a with defers := [{ target := .collected w.heap.size, args := #[] }] ++ a.defers } w4 :=
  ⟨hsat4, by have h0 : a.defers = _ := hs.defers; rw [hd] at h0; show [_] ++ a.defers = _; rw [h0]; rfl, hs.size, fun x d hx => ⟨(hs.env x d hx).1, (hs.env x d hx).2.mono hKk⟩, hhdr3⟩
 refine ⟨rfl, ?_⟩;refine wp_mono (hrest Γ' rfl (fun _ _ h => h) k3 _ w4 hin5 hs5) ?_;rintro e a6 w6 (⟨K6, s6, hi6, hs6, hq6⟩ | hx)
 case inr => exact hx.2.elim
 have hD6 : w6.heap[w.heap.size]? = some (.deferred (some [])) := (hi6.block _ fun h => h.2 rfl).trans hD4;have hdf : a6.defers = [{ target := .collected w.heap.size, args := #[] }] := hs6.defers;generalize hw7 : w6.putObj w.heap.size (.deferred none) = w7;have hh7 : ∀ b, b ≠ w.heap.size -> w7.heap[b]? = w6.heap[b]? := fun b hb => by rw [<- hw7]; exact World.putObj_heap_other hb
 have hsz7 : w7.heap.size = w6.heap.size := by rw [<- hw7]; simp
 have ho7 : w7.os = w6.os /\ w7.tape = w6.tape /\ w7.output = w6.output := by rw [<- hw7]; exact ⟨rfl, rfl, rfl⟩
 have hin6 : In Γ K6 w6 := hin4.step hi6.le (fun b o v e => (hi6.memNew b o v e).imp id (·.1)) hi6.os hi6.tape hi6.output hi6.size fun b hb => hi6.block b fun h => hb h.1;have hin7 : In Γ K6 w7 := hin6.step (.refl _) (fun b o v e => .inl e) ho7.1 ho7.2.1 ho7.2.2 (by omega) fun b hb => hh7 b fun e => hb (by subst e; exact hin.own_of_ge (Nat.le_refl _))
 have hsim7 : Sim K6 Γ.base.own s6 { a6 with defers := [] } w7 :=
  ⟨Sat.zuC (Sat.owns hs6.sat fun b hB h => h.1) w.heap.size (fun b hb _ => hh7 b hb) (hs6.sat.notBlk fun h => h.2 rfl) (zqR hD6), rfl, hs6.size, hs6.env, hs6.hdr⟩
 have fin : EndW P Γ.base fn Γ.base.n0 (fun d o n => post (.val d) o n) .ret s6 -> bodyPostM Fence.wide 0 P fn (RX Γ.base post) .ret a6 w6 := fun hend => by
  obtain ⟨v', h1, h2⟩ := zdg (Γ := Γ.base) (post := post) hend (hin7.conv rfl rfl rfl rfl) hsim7;show LeavesInM Fence.wide 0 P fn a6.tmps (RX Γ.base post) a6.defers .returning w6;rw [hdf];refine ⟨by simp, .inl ⟨w.heap.size, w7, rfl, ?_, v', h1, h2⟩⟩;rw [<- hw7];exact run_takeDeferred hD6
 cases e with
 | panic ch => exact hq6.elim
 | ret => exact .inr ⟨trivial, hesc _ _ _ (fin hq6.2)⟩
 | normal => exact absurd hq6.1 (by simp)
 | exit i => exact absurd hq6.1 (by simp)
 | goto i => exact absurd hq6.1 (by simp)
 | outgrown => exact absurd hq6.1 (by simp)
end Go.VL
namespace Go.Proofs.YtkdhmbhbbciedaaGreatDoor
open Go Go.VL
abbrev zl2 : List (String × DataW Unit) := [("math/bits.deBruijn32tab", Rows.laid_math_bits_deBruijn32tab), ("math/bits.deBruijn64tab", Rows.laid_math_bits_deBruijn64tab), ("internal/strconv.uint64pow10", Rows.laid_internal_strconv_uint64pow10), ("unicode/utf8.acceptRanges", Rows.laid_unicode_utf8_acceptRanges), ("strconv.ErrRange", Rows.laid_strconv_ErrRange), ("strconv.ErrSyntax", Rows.laid_strconv_ErrSyntax), ("stokvel/lex.signs", Rows.laid_stokvel_lex_signs), ("stokvel/code.words", Rows.laid_stokvel_code_words), ("unicode/utf8.first", Rows.laid_unicode_utf8_first)]
theorem zqZ (os : Os) (args : Array Value) : laidMetH Tryz.prog zl2 ((World.laidAll Tryz.prog os zl2).forCall (fun _ _ => 0) ⟨#[], args, []⟩).memory := by
 rw [MakeChecks.laidMetH_plain _ _ _ (by kernel_rfl)];exact laidMet_laidAll _ (by kernel_rfl) (by kernel_rfl)
theorem zh2 {P : Program} {w : World} {n : String} {g : Nat} {cs : Array Value} (hg : P.globalNamed n = some g) (hv : w.var? P n = some cs) :
  (∀ j, j < cs.toList.length -> VL.look w g j = some (.val (cs.toList.getD j undef))) /\ VL.look w g cs.toList.length = some .fin := by
 unfold World.var? at hv;rw [hg, Option.bind_some] at hv;split at hv
 ·rename_i cs0 t fr hh;cases hv;refine ⟨fun j hj => zei ?_, ?_⟩
  ·have hj' : j < cs.size := by simpa using hj
   simp [World.cell?, hh, hj', List.getD]
  ·have := zqQ hh;simpa using this
 ·cases hv
theorem zoI {P : Program} {w : World} {n : String} {g : Nat} {t e : TypeId} {cs : Array Value} {L : List (List UInt8)} {fuel : Nat} {H : Type} {enc : TypeId × Value -> H} {base : Nat} {spare : Nat -> Bool} {held : Bool} {q : List MemPlace}
  (hg : P.globalNamed n = some g) (hv : w.var? P n = some cs) (ht : P.underlying t = some (.array L.length e)) (he : P.underlying e = some .string) (hc : P.cellsOf e = 1) (hct : P.cellsOf t = L.length)
  (hd : DataW.trod enc P w base spare held fuel t cs.toList = some (.agg (L.map fun b => .lit (.string b)), q)) : cs.toList = L.map fun b => .string ⟨b.toArray⟩ := by
 obtain ⟨xs, m1, rfl, hx1, hlen, hn3, hel⟩ := DataW.trod_array ht hd;have hcell := zj8 hg hv ht he hc hd;apply List.ext_getElem?;intro j;cases hb : L[j]? with
 | none =>
  have := List.getElem?_eq_none_iff.1 hb;rw [List.getElem?_eq_none (by omega), List.getElem?_map, hb]; rfl
 | some b =>
  have h := hcell j b hb;rw [World.var?_cell hg hv j] at h;rw [List.getElem?_map, hb, Array.getElem?_toList, h]; rfl
def ztQ : List (List UInt8) := [[61, 61], [59], [44], [61], [60], [43], [45], [42], [47], [40], [41]]
def ztN : List (List UInt8) := [[110, 117, 109], [110, 97, 109, 101], [97, 100, 100], [115, 117, 98], [109, 117, 108], [100, 105, 118], [115, 99, 97, 108, 101], [109, 105, 110], [109, 97, 120], [108, 101, 115, 115], [101, 113], [110, 111, 116], [106, 117, 109, 112], [102, 97, 108, 115, 101], [101, 110, 100]]
def ztV : List Int := (List.range 20).map fun i => (10 : Int) ^ i
theorem zmW {P : Program} {w : World} {t : TypeId} {ms} {cs : List Value} {fuel : Nat} {H : Type} {enc : TypeId × Value -> H} {base : Nat} {spare : Nat -> Bool} {held : Bool} {nm : String} {y : DataW H} {q : List MemPlace}
  (ht : P.underlying t = some (.interface ms)) (h : DataW.trod enc P w base spare held fuel t cs = some (.iface nm y, q)) : ∃ tp v, cs = [.iface tp v] := by
 cases fuel with
 | zero => simp [DataW.trod] at h
 | succ n =>
  rw [DataW.trod_step] at h;unfold DataW.trodStep at h;rw [ht] at h;split at h <;> simp_all
theorem zpw (W : World) (h : laidMetH Tryz.prog zl2 W) : GlobIn (zkg W) := by
 rw [MakeChecks.laidMetH_plain _ _ _ (by kernel_rfl)] at h;obtain ⟨ps, ⟨g0, t0, c0, f0, p0, q0, hg0, ht0, hv0, hd0, ⟨g1, t1, c1, f1, p1, q1, hg1, ht1, hv1, hd1, ⟨g2, t2, c2, f2, p2, q2, hg2, ht2, hv2, hd2, ⟨g3, t3, c3, f3, p3, q3, hg3, ht3, hv3, hd3, ⟨g4, t4, c4, f4, p4, q4, hg4, ht4, hv4, hd4, ⟨g5, t5, c5, f5, p5, q5, hg5, ht5, hv5, hd5, ⟨g6, t6, c6, f6, p6, q6, hg6, ht6, hv6, hd6, ⟨g7, t7, c7, f7, p7, q7, hg7, ht7, hv7, hd7, ⟨g8, t8, c8, f8, p8, q8, hg8, ht8, hv8, hd8, _⟩, _⟩, _⟩, _⟩, _⟩, _⟩, _⟩, _⟩, _⟩, _⟩ := h;obtain rfl : g2 = 9 := Option.some.inj (hg2.symm.trans (by kernel_rfl));obtain rfl : g4 = 3 := Option.some.inj (hg4.symm.trans (by kernel_rfl));obtain rfl : g5 = 2 := Option.some.inj (hg5.symm.trans (by kernel_rfl));obtain rfl : g6 = 8 := Option.some.inj (hg6.symm.trans (by kernel_rfl));obtain rfl : g7 = 0 := Option.some.inj (hg7.symm.trans (by kernel_rfl));obtain rfl : t2 = 227 := Option.some.inj (ht2.symm.trans (by kernel_rfl));obtain rfl : t6 = 226 := Option.some.inj (ht6.symm.trans (by kernel_rfl));obtain rfl : t7 = 76 := Option.some.inj (ht7.symm.trans (by kernel_rfl));obtain rfl : t4 = 78 := Option.some.inj (ht4.symm.trans (by kernel_rfl));obtain rfl : t5 = 78 := Option.some.inj (ht5.symm.trans (by kernel_rfl));have e2 := Lib.cells_of_tab (p := p2) (n := 20) (e := 191) (k := .u64) (zs := ztV) (by kernel_rfl) (by kernel_rfl) (by kernel_rfl) (by kernel_rfl) (hd2.trans (by kernel_rfl));have e6 := zoI (q := p6) (L := ztQ) hg6 hv6 (by kernel_rfl) (e := 9) (by kernel_rfl) (by kernel_rfl) (by kernel_rfl) (hd6.trans (by kernel_rfl));have e7 := zoI (q := p7) (L := ztN) hg7 hv7 (by kernel_rfl) (e := 9) (by kernel_rfl) (by kernel_rfl) (by kernel_rfl) (hd7.trans (by kernel_rfl));obtain ⟨ms4, hm4⟩ : ∃ ms, Tryz.prog.underlying 78 = some (.interface ms) := ⟨_, rfl⟩;obtain ⟨u4, v4, e4⟩ := zmW hm4 hd4;obtain ⟨u5, v5, e5⟩ := zmW hm4 hd5;have x2 := zh2 hg2 hv2;have x4 := zh2 hg4 hv4;have x5 := zh2 hg5 hv5;have x6 := zh2 hg6 hv6;have x7 := zh2 hg7 hv7;rw [e2] at x2;rw [e4] at x4;rw [e5] at x5;rw [e6] at x6;rw [e7] at x7;refine ⟨fun p hp => ?_, fun g hg => ?_⟩
 ·unfold globs at hp;simp only [List.mem_cons, List.not_mem_nil, or_false] at hp;rcases hp with rfl | rfl | rfl
  all_goals first | exact x2 | exact x6 | exact x7
 ·unfold zt3 at hg;simp only [List.mem_cons, List.not_mem_nil, or_false] at hg;rcases hg with rfl | rfl
  all_goals first | exact ⟨_, _, x4.1 0 (by simp)⟩ | exact ⟨_, _, x5.1 0 (by simp)⟩
end Go.Proofs.YtkdhmbhbbciedaaGreatDoor
namespace Go.Proofs.YtkdhmbhbbciedaaGreatDoor
open Go Go.VL Go.Shelf Go.RowKit
theorem bsz : (Tryz.prog.info? 88).map (·.size) = some 2 := by kernel_rfl
theorem zvf : liesAt Tryz.prog Tryz.prog.depth 88 (2 / Tryz.prog.cellsOf 88) 0 88 1 = true := by kernel_rfl
set_option maxHeartbeats 1000000 in
set_option maxRecDepth 100000 in
theorem zui (b : Nat) (w : World) (h0 : w.cell? ⟨b, 0, none⟩ = some (.pointer (some ⟨b, 0, none⟩))) :
  Calls Tryz.prog 83 #[.pointer (some ⟨b, 0, none⟩)] w fun e w' => e = .returned (.tuple #[]) /\ w' = w := by
 obtain ⟨j, hj, _⟩ := Option.map_eq_some_iff.1 bsz
 go_enter Tryz.func83, Tryz.ntmps83
 go_wp2
 rw [Lib.run_neq_ptr_same w _ Tryz.underlying85 hj]
 go_wp2
 go_end0
 exact ⟨rfl, rfl⟩
set_option maxHeartbeats 1000000 in
set_option maxRecDepth 100000 in
theorem ztf (b : Nat) (w : World) (h0 : w.cell? ⟨b, 0, none⟩ = some (.pointer none)) (hsh : w.shape? b = some (88, 2)) (hfz : w.frozen? ⟨b, 0, none⟩ = false) :
  Calls Tryz.prog 83 #[.pointer (some ⟨b, 0, none⟩)] w fun e w' => e = .returned (.tuple #[]) /\ w' = w.setCell ⟨b, 0, none⟩ (.pointer (some ⟨b, 0, none⟩)) := by
 obtain ⟨j, hj, hjs⟩ := Option.map_eq_some_iff.1 bsz
 go_enter Tryz.func83, Tryz.ntmps83
 go_wp2
 rw [Lib.run_to_unsafe w ⟨b, 0, none⟩ Tryz.underlying85 Tryz.underlying166 hj (by rw [hjs]; decide) hsh (Nat.zero_lt_succ 1)];simp only [Result.andThen];rw [Oper.upon_value]
 go_wp2
 rw [run_callFunc_extern Tryz.func129 (by kernel_rfl) (by kernel_rfl) (by kernel_rfl) (e := Extern.AbiNoEscape.same) (by kernel_rfl)];rw [Lib.run_noEscape];simp only [Result.andThen];rw [Oper.upon_value]
 go_wp2
 rw [Lib.run_from_unsafe w ⟨b, 0, none⟩ Tryz.underlying166 Tryz.underlying85 hj hsh zvf];simp only [Result.andThen];rw [Oper.upon_value]
 go_wp2
 go_end0
 exact ⟨rfl, rfl⟩
end Go.Proofs.YtkdhmbhbbciedaaGreatDoor
namespace Go.Proofs.YtkdhmbhbbciedaaGreatDoor
open Go Go.VL Go.Shelf Go.RowKit
abbrev bT : Nat := 88
abbrev u8T : Nat := 5
theorem zhJ {k : Kr} {d : D} {vs : Array Value} (h : RepL k [d] vs) : ∃ v, vs = #[v] /\ Rep k d v := by
 obtain ⟨h1, h2⟩ := h;have hs : vs.size = 1 := by simpa using h1
 refine ⟨vs.getD 0 undef, ?_, h2 0 d rfl⟩;apply Array.ext_getElem?;intro i
 match i with
 | 0 => have h4 : 0 < vs.size := by omega
        simp [h4]
 | i + 1 => rw [Array.getElem?_eq_none (by omega), Array.getElem?_eq_none (by simp)]
theorem zrg (i nx : Nat) (hi : i < nx) : RetX Tryz.prog 83 [.ptr i 0] [(i, .nw bT)] nx
  (fun r o n => r = .val (.tup []) /\ o = [(nx, .vec u8T 1 []), (i, .box [.ptr i 0, .vec nx 0])] /\ n = nx + 1) := by
 intro k own w vs hsat hhdr hown hrep;obtain ⟨v, rfl, hv⟩ := zhJ hrep;obtain ⟨⟨hb, c⟩, h1, h2, b, e, h3⟩ := hsat.ob i (.nw bT) (by simp [getK]);simp only at e;subst e;obtain ⟨b', c', h4, rfl⟩ := zdo hv;rw [h1] at h4;cases h4;obtain ⟨hob, hnone⟩ := h2 b rfl;have hlt : b < w.heap.size := (Array.getElem?_eq_some_iff.1 h3).1;refine (ztf b w (by simp [World.cell?, h3]) (by simp [World.shape?, h3]) (by simp [World.frozen?, h3])).mono ?_;rintro e w' ⟨rfl, rfl⟩;have hheap : ∀ x, x ≠ b -> (w.setCell ⟨b, 0, none⟩ (.pointer (some ⟨b, 0, none⟩))).heap[x]? = w.heap[x]? := fun x hx => Below.heap_setCell _ _ _ _ hx;have hbb : (w.setCell ⟨b, 0, none⟩ (.pointer (some ⟨b, 0, none⟩))).heap[b]? = some (.cells #[.pointer (some ⟨b, 0, none⟩), .slice none 0 0] bT (0, 0)) := by
  simp [World.setCell, Array.getElem?_modify, h3]
 have hnx := hhdr nx (Nat.le_refl _);have hle := Kr.zfP (k := k) (h := (none, 0)) hnx;have hki : (k.add nx (none, 0)).hdr i = some (some b, c) := by simp only [Kr.add]; rw [if_neg (by omega)]; exact h1
 refine ⟨.val (.tup []), [(nx, .vec u8T 1 []), (i, .box [.ptr i 0, .vec nx 0])], nx + 1, k.add nx (none, 0), ⟨_, rfl, .tup [] [] rfl (by simp)⟩, ⟨hle, hhdr, fun _ _ _ e => .inl e, hown, rfl, rfl, rfl, by simp [World.setCell], fun x hx => hheap x fun e => hx (e ▸ hob)⟩,
  ⟨fun x o v hm => ?_, fun j ob hj => ?_, fun x y ox oy g g' z hx hy hxy hg hg' hz => ?_⟩, fun q hq => ?_, by omega, rfl, rfl, rfl⟩
 ·have hm : k.mem x o = some v := hm;have hne : x ≠ b := fun e => by rw [e, hnone o] at hm; cases hm
  rw [zfn (hheap x hne)];exact hsat.mem x o v hm
 ·simp only [getK] at hj;split at hj
  ·rename_i hji;subst hji;cases hj;exact ⟨(none, 0), by simp [Kr.add], fun b e => (by cases e), [], ⟨rfl, .inl ⟨rfl, rfl⟩⟩, Nat.one_pos, by simp, by simp⟩
  ·split at hj
   ·rename_i hji;subst hji;cases hj;refine ⟨(some b, c), hki, h2, b, _, bT, rfl, hbb, rfl, fun q d hq => ?_⟩
    match q, hq with
    | 0, hq => cases hq; exact ⟨rfl, .ptr j 0 b c hki⟩
    | 1, hq => cases hq; exact ⟨rfl, .vec nx 0 (none, 0) (by simp [Kr.add])⟩
   ·cases hj
 ·by_cases hxn : x = nx
  ·subst hxn;have : g = (none, 0) := by simpa [Kr.add] using hg.symm
   rw [this] at hz;cases hz
  ·by_cases hyn : y = nx
   ·subst hyn;have : g' = (none, 0) := by simpa [Kr.add] using hg'.symm
    rw [this];simp
   ·simp only [getK, if_neg hxn] at hx;simp only [getK, if_neg hyn] at hy;split at hx
    ·split at hy
     ·omega
     ·cases hy
    ·cases hx
 ·simp only [Kr.add];rw [if_neg (by omega)];exact hhdr q (by omega)
theorem zpI (i nx : Nat) (hi : i < nx) (d : D) : RetX Tryz.prog 83 [.ptr i 0] [(i, .box [.ptr i 0, d])] nx
  (fun r o n => r = .val (.tup []) /\ o = [(i, .box [.ptr i 0, d])] /\ n = nx) := by
 intro k own w vs hsat hhdr hown hrep;obtain ⟨v, rfl, hv⟩ := zhJ hrep;obtain ⟨b, c, cs, t, h1, hob, h3, hsz, hcs, hnone⟩ := (hsat.ob i (.box [.ptr i 0, d]) (by simp [getK])).box;obtain ⟨b', c', h4, rfl⟩ := zdo hv;rw [h1] at h4;cases h4;have h0 := (hcs 0 _ rfl).2;obtain ⟨b', c', h4, h5⟩ := zdo h0;rw [h1] at h4;cases h4;have hc0 : cs[0]? = some (.pointer (some ⟨b, 0, none⟩)) := by
  have hlt : 0 < cs.size := by rw [hsz]; simp
  rw [Array.getElem?_eq_getElem hlt];rw [<- h5];simp [hlt]
 refine (zui b w (by simp [World.cell?, h3, hc0])).mono ?_;rintro e w' ⟨rfl, rfl⟩;exact ⟨.val (.tup []), [(i, .box [.ptr i 0, d])], nx, k, ⟨_, rfl, .tup [] [] rfl (by simp)⟩, ⟨.refl _, hhdr, fun _ _ _ e => .inl e, hown, rfl, rfl, rfl, Nat.le_refl _, fun x hx => rfl⟩, hsat, hhdr, Nat.le_refl _, rfl, rfl, rfl⟩
section
open Go.RowKit
variable {P : Program} {ρ : Ren}
set_option maxHeartbeats 1000000 in
set_option maxRecDepth 100000 in
theorem zkn (L : Go.Proofs.Lays.n169 P ρ) (X : Builder.Extra P ρ) (b g cap : Nat) (c0 : Value) (T : TypeId) (l : List UInt8) (cur : Array Value) (w : World) (h0 : l ≠ [])
  (hbk : w.heap[b]? = some (.cells #[c0, .slice (some ⟨g, 0, none⟩) l.length cap] T (0, 0))) (hg : w.heap[g]? = some (.cells cur (ρ.t 5) (0, 0))) (hnc : l.length <= cap) (hcm : cap <= maxLen) (hcs : cur.size = cap * 1)
  (hcells : ∀ (j : Nat) (x : UInt8), l[j]? = some x -> w.cell? ⟨g, j, none⟩ = some (.int .u8 x.toNat)) :
  Calls P (ρ.f 169) #[.pointer (some ⟨b, 0, none⟩)] w fun e w' => e = .returned (.string ⟨l.toArray⟩) /\ w' = w.drew.freeze ⟨g, 0, none⟩ l.length := by
 have hl0 : l.length ≠ 0 := by simpa using h0
 have c1 : w.drew.cell? ⟨b, 1, none⟩ = some (.slice (some ⟨g, 0, none⟩) l.length cap) := by
  have : w.drew.heap[b]? = some (.cells #[c0, .slice (some ⟨g, 0, none⟩) l.length cap] T (0, 0)) := hbk;rw [Lib.cell_of_heap this]; rfl
 have hSD : (Builtin.unsafeSliceData_ #[(ρ.t 37)] (ρ.t 127) #[.slice (some ⟨g, 0, none⟩) l.length cap]).run P w.drew = .ok (.pointer (some ⟨g, 0, none⟩)) w.drew :=
  Lib.run_unsafeSliceData_row _ _ _ _ _ _ (by omega)
 have hUS : (Builtin.unsafeString_ #[(ρ.t 127), (ρ.t 3)] (ρ.t 9) #[.pointer (some ⟨g, 0, none⟩), .int .i64 l.length]).run P w.drew = .ok (.string ⟨l.toArray⟩) (w.drew.freeze ⟨g, 0, none⟩ l.length) := by
  refine Lib.run_unsafeString_row w.drew (ρ.t 127) (ρ.t 3) (ρ.t 9) (ρ.t 5) L.t127 X.cellsByte g cur.size (by have hg' : w.drew.heap[g]? = some (.cells cur (ρ.t 5) (0, 0)) := hg; simp [World.shape?, hg']) l h0 (by omega) (by unfold maxLen at hcm; omega) ?_;intro j x hx;rw [zcL, Nat.zero_add];exact hcells j x hx
 have mixed := L.mixed;have t72 := L.t72; have a72 := L.a72; have z72 := L.z72; have v72 := L.v72; have u72 := run_underlying L.t72;have t70 := L.t70; have a70 := L.a70; have z70 := L.z70; have v70 := L.v70; have u70 := run_underlying L.t70;have t37 := L.t37; have a37 := L.a37; have z37 := L.z37; have v37 := L.v37; have u37 := run_underlying L.t37;have t127 := L.t127; have a127 := L.a127; have z127 := L.z127; have v127 := L.v127; have u127 := run_underlying L.t127;have t3 := L.t3; have a3 := L.a3; have z3 := L.z3; have v3 := L.v3; have u3 := run_underlying L.t3;have t9 := L.t9; have a9 := L.a9; have z9 := L.z9; have v9 := L.v9; have u9 := run_underlying L.t9;have t5 := X.t5; have a5 := X.a5; have z5 := X.z5; have v5 := X.v5; have u5 := run_underlying X.t5
 go_enter L.f169, Body.n169_ntmps ρ
 go_wp2
 go_region_o
 all_goals (go_wp2; go_ret; exact ⟨rfl, rfl⟩)
end
theorem znp (i j nx : Nat) (hi : i < nx) (hj : j < nx) (hij : i ≠ j) (l : List UInt8) (h0 : l ≠ []) : RetX Tryz.prog 51 [.ptr i 0] [(i, .box [.ptr i 0, .vec j l.length]), (j, .vec u8T 1 (zd7 l))] nx
  (fun r o n => r = .val (.u (.str l)) /\ o = [] /\ n = nx) := by
 intro k own w vs hsat hhdr hown hrep;obtain ⟨v, rfl, hv⟩ := zhJ hrep;obtain ⟨b, c, cs, t, h1, hob, h3, hsz, hcs, hnone⟩ := (hsat.ob i (.box [.ptr i 0, .vec j l.length]) (by simp [getK])).box;obtain ⟨b', c', h4, rfl⟩ := zdo hv;rw [h1] at h4;cases h4;obtain ⟨hd, xs, g1, hrow, _, _, hxs, hno⟩ := (hsat.ob j (.vec u8T 1 (zd7 l)) (by simp [getK, Ne.symm hij])).vec;obtain ⟨hd', g2, hv1⟩ := zeB (hcs 1 _ rfl).2;rw [g1] at g2;cases g2;rw [zjb] at hrow;have hl0 : l.length ≠ 0 := by simpa using h0
 rcases hrow.2 with ⟨_, hz⟩ | ⟨g, cap, cur, hhv, _, hg, hnc, hcm, hcsz, htk⟩
 ·exact absurd hz hl0
 have hd1 : hd.1 = some g /\ hd.2 = cap := by
  simp only [za9, Value.slice.injEq, Option.map_eq_some_iff] at hhv;obtain ⟨⟨b, hb, e⟩, _, e2⟩ := hhv;simp only [Addr.mk.injEq] at e;exact ⟨by rw [hb, e.1], e2⟩
 have hcell : ∀ (q : Nat) (x : UInt8), l[q]? = some x -> w.cell? ⟨g, q, none⟩ = some (.int .u8 x.toNat) := fun q x hq => by
  have h5 := (hxs q [.u (.int .u8 x.toNat)] (by rw [zgO]; simp [hq]) 0 _ rfl).2;have h6 := zb1 h5;have hlt : q < xs.length := by rw [hrow.1]; have := (List.getElem?_eq_some_iff.1 hq).1; omega
  have h7 := hrow.cells (g := g) (by rw [hhv]; rfl) q (xs.getD (q * 1 + 0) undef) (by simp [hlt]);rw [h6] at h7
  rwa [zcL, Nat.zero_add] at h7
 have hc2 : cs = #[cs.getD 0 undef, .slice (some ⟨g, 0, none⟩) l.length cap] := by
  have e1 : cs.getD 1 undef = .slice (some ⟨g, 0, none⟩) l.length cap := by rw [hv1, hhv]
  apply Array.ext_getElem?;intro q;have hs2 : cs.size = 2 := by simpa using hsz
  match q with
  | 0 => simp [show 0 < cs.size by omega]
  | 1 => rw [<- e1]; simp [show 1 < cs.size by omega]
  | q + 2 => rw [Array.getElem?_eq_none (by omega), Array.getElem?_eq_none (by simp)]
 rw [hc2] at h3;refine (zkn (P := Tryz.prog) (ρ := Tryz.zf0) Tryz.ztp Tryz.zgS b g cap _ t l cur w h0 h3 hg hnc hcm hcsz hcell).mono ?_;rintro e w' ⟨rfl, rfl⟩;have hog := hno g hd1.1;have hfz : w.drew.freeze ⟨g, 0, none⟩ l.length = { w.drew with heap := (w.drew.freeze ⟨g, 0, none⟩ l.length).heap } := by
  unfold World.freeze;rw [if_neg hl0]
 have hheap : ∀ x, x ≠ g -> (w.drew.freeze ⟨g, 0, none⟩ l.length).heap[x]? = w.heap[x]? := fun x hx => by
  unfold World.freeze;rw [if_neg hl0];simp only [Array.getElem?_modify];rw [if_neg (Ne.symm hx)];rfl
 have hsz : (w.drew.freeze ⟨g, 0, none⟩ l.length).heap.size = w.heap.size := by
  unfold World.freeze;rw [if_neg hl0];simp only [Array.size_modify];rfl
 refine ⟨.val (.u (.str l)), [], nx, k, ⟨_, rfl, .u _ _ (.str l)⟩, ⟨.refl _, hhdr, fun _ _ _ e => .inl e, hown, by rw [hfz]; rfl, by rw [hfz]; rfl, by rw [hfz]; rfl, by rw [hsz]; exact Nat.le_refl _, fun x hx => hheap x fun e => hx (e ▸ hog.1)⟩,
  ⟨fun x o v hm => ?_, fun j ob hj => by simp [getK] at hj, fun x y ox oy g g' z hx => by simp [getK] at hx⟩, hhdr, Nat.le_refl _, rfl, rfl, rfl⟩
 have hne : x ≠ g := fun e => by rw [e, hog.2 o] at hm; cases hm
 rw [zfn (hheap x hne)];exact hsat.mem x o v hm
theorem Fun.zqg {P : Program} {f : FuncId} {ds : List D} {u : U} (h : ∀ (k : Kr) (own : Nat -> Prop) (w : World) (vs : Array Value), Sat k own [] w -> RepL k ds vs -> ∃ v, RepU k.mem u v /\ Calls P f vs w fun e w' => e = .returned v /\ Below w.heap.size w w') :
  Fun P f ds (· = .u u) := by
 intro k own w vs hsat hhdr hown hrep;obtain ⟨v, hv, hc⟩ := h k own w vs hsat hrep;refine hc.mono ?_;rintro e w' ⟨rfl, hb⟩;refine ⟨v, .u u, [], 0, k, rfl, ⟨.refl _, fun i hi => hhdr i hi, fun _ _ _ e => .inl e, hown, hb.os, hb.tape, hb.output, hb.size, fun x hx => hb.block x ?_⟩, ⟨fun x o v hm => ?_, fun j ob hj => by simp [getK] at hj, fun x y ox oy g g' z hx => by simp [getK] at hx⟩, hhdr, Nat.le_refl _, .u _ _ hv, by simp [za7], rfl⟩
 ·rcases Nat.lt_or_ge x w.heap.size with h | h
  ·exact h
  ·exact absurd (hown x h) hx
 ·rw [zfn (hb.block x (hsat.memLt hm))];exact hsat.mem x o v hm
end Go.Proofs.YtkdhmbhbbciedaaGreatDoor
namespace Go.Proofs.YtkdhmbhbbciedaaGreatDoor
open Go Go.VL
attribute [local simp] za2 zcH zbP evPure opd uOf zaq St.put St.at getK binD binI binS binB nilD aggD ze4 zfg lookD lookR zbM rangeS Go.VL.nextD Go.VL.nextS zbR zfi zfh zeD zb0 mkV zaX zaE zaD zaC zcG zaA zaP za5 mapEff zdm zeo Key.kk shiftI arith unD convD zda loadD cellsAt fieldAddrD fieldD indexAddrD indexSlD arrAddr indexD sliceD cutD lenD minmaxD nilCheckD buildD fillD zbv zcI zec setAll zcA zd1 zbK zeT zbJ St.add zak zbd rowsOf zcU zcb zad zac zaa zaW zcy zaH entry zah zaj valD zbW zcu zeU zcN zcO zbC zbu zag zaM za4 delAll effD St.effS zb6 zaF zat zb7 zaG zav zbq zau zam zbr zb5 za1 zbm zaO zbl zai mkD zbi zbb zbf zag zbT D.ids Op.operands Call.operands zbc makeIfD makeFuncD typeAssertD zff zcX zcY zfb zbN IntKind.bits zcx List.take_of_length_le List.range_succ zcm zbF zcn zch zba zbw zby zci zbA zaU zbz zbx zfO zbE zck zaK zaw zcl zaL zay zbD zax zap zcq zcr zfN zab frzN frz1 zaR zaQ St.frz St.frzS frzS fv zbQ zb2 zb3 zaS zaz zan frz zcd zbU zbY zbZ za6 St.norm St.lp St.only zaY wkE wkO wkU Ob.under D.under zal zar zco zbG zcp h4s zdT zas za7 List.zipIdx_cons List.zipIdx_nil List.map_cons List.map_nil Nat.zero_add
attribute [local irreducible] V G H HD HD2 za3 Eff CallP CallV EndOK Fun Ret FinOK LoopI LoopW EndW HR vs2 RN Cnd H4
inductive Exp where
 | mk (op n unit : Int) (s : List UInt8) (args : List Exp)
 deriving Inhabited
def Exp.row : Exp -> List U
 | .mk op n u s args => [.int .i64 op, .int .i64 n, .int .i64 u, .str s, .sl (args.map fun e => e.row)]
def Exp.op : Exp -> Int | .mk op _ _ _ _ => op
def Exp.n : Exp -> Int | .mk _ n _ _ _ => n
def Exp.unit : Exp -> Int | .mk _ _ u _ _ => u
def Exp.s : Exp -> List UInt8 | .mk _ _ _ s _ => s
def Exp.args : Exp -> List Exp | .mk _ _ _ _ args => args
theorem Exp.row_eq (e : Exp) : e.row = [.int .i64 e.op, .int .i64 e.n, .int .i64 e.unit, .str e.s, .sl (e.args.map Exp.row)] := by
 cases e with
 | mk op n u s args => rw [Exp.row]; rfl
structure Var where
 name : List UInt8
 unit : Int
 n : Int
 deriving DecidableEq, Inhabited
structure Let where
 name : List UInt8
 body : Exp
 deriving Inhabited
def Var.row (v : Var) : List U := [.str v.name, .int .i64 v.unit, .int .i64 v.n]
def Let.row (l : Let) : List U := .str l.name :: l.body.row
def vars (l : List Var) : U := .sl (l.map Var.row)
def lets (l : List Let) : U := .sl (l.map Let.row)
def zdM (c : UInt8) : Bool := decide (97 <= c.toNat) && decide (c.toNat <= 122)
def zbg (c : UInt8) : Bool := decide (48 <= c.toNat) && decide (c.toNat <= 57)
theorem zeM (c : UInt8) : Fun Tryz.prog 154 [.u (.int .u8 c.toNat)] (· = .u (.bool (zdM c))) := by
 unfold zdM;refine Fun.run Tryz.func154 Tryz.ntmps154 Tryz.results154 rfl (by simp) fun Γ hn => ?_
 repeat' (first
  | (refine Cnd.of (fun hc => ?_) (fun hc => ?_) <;> (try (exfalso; omega)) <;> (try simp))
  | (refine zaf rfl ?_; simp)
  | fail)
 all_goals
  (refine Pst.of ?_; simp)
 all_goals first | omega | (simp; omega) | (rw [Bool.eq_iff_iff]; simp; omega)
theorem zfw (c : UInt8) : Fun Tryz.prog 157 [.u (.int .u8 c.toNat)] (· = .u (.bool (zbg c))) := by
 unfold zbg;refine Fun.run Tryz.func157 Tryz.ntmps157 Tryz.results157 rfl (by simp) fun Γ hn => ?_
 repeat' (first
  | (refine Cnd.of (fun hc => ?_) (fun hc => ?_) <;> (try (exfalso; omega)) <;> (try simp))
  | (refine zaf rfl ?_; simp)
  | fail)
 all_goals
  (refine Pst.of ?_; simp)
 all_goals first | omega | (simp; omega) | (rw [Bool.eq_iff_iff]; simp; omega)
theorem zox (c : UInt8) : Fun Tryz.prog 156 [.u (.int .u8 c.toNat)] (· = .u (.bool (zdM c || zbg c))) := by
 refine Fun.run Tryz.func156 Tryz.ntmps156 Tryz.results156 rfl (by simp) fun Γ hn => ?_
 repeat' (first
  | (refine Cnd.of (fun hc => ?_) (fun hc => ?_) <;> (try (exfalso; omega)) <;> (try simp))
  | (refine zaf rfl ?_; simp)
  | ((first | refine CallP.f2 rfl (zeM c) (by first | simp <;> rfl | fail) ?_ | refine CallP.f2 rfl (zfw c) (by first | simp <;> rfl | fail) ?_ | fail); simp)
  | fail)
 all_goals
  (refine Pst.of ?_; simp)
 all_goals simp_all
def zdn (p : UInt8 -> Bool) (l : List UInt8) : Nat := (l.takeWhile p).length
theorem zmG {p : UInt8 -> Bool} {l : List UInt8} {i : Nat} (h : ∀ c ∈ l.take i, p c = true) (hi : i <= l.length) (he : i = l.length \/ ∃ c, l[i]? = some c /\ p c = false) : zdn p l = i := by
 unfold zdn
 induction l generalizing i with
 | nil => simp at hi; simp [hi]
 | cons a l ih =>
  cases i with
  | zero =>
   rcases he with he | ⟨c, h1, h2⟩
   ·simp at he
   ·simp at h1; subst h1; simp [h2]
  | succ i =>
   have ha : p a = true := h a (by simp);rw [List.takeWhile_cons, if_pos ha, List.length_cons];rw [ih (i := i) (fun c hc => h c (by simp [hc])) (by simpa using hi) (by simpa using he)]
def zi3 {α : Type} (p : α -> Bool) : List α -> Int -> Int
 | [], _ => -1
 | x :: l, i => if p x = true then i else zi3 p l (i + 1)
theorem zjK {α : Type} {p : α -> Bool} {l : List α} {i : Nat} {x : α} {k : Int} (h : ∀ c ∈ l.take i, p c = false) (hx : l[i]? = some x) (hp : p x = true) : zi3 p l k = k + i := by
 induction l generalizing i k with
 | nil => simp at hx
 | cons s l ih =>
  cases i with
  | zero => simp at hx; simp [zi3, hx, hp]
  | succ i =>
   rw [zi3, if_neg (by rw [h s (by simp)]; simp), ih (i := i) (fun c hc => h c (by simp [hc])) (by simpa using hx)];omega
theorem zgc {α : Type} {p : α -> Bool} {l : List α} {k : Int} (h : ∀ c ∈ l, p c = false) : zi3 p l k = -1 := by
 induction l generalizing k with
 | nil => rfl
 | cons s l ih => rw [zi3, if_neg (by rw [h s (by simp)]; simp), ih fun c hc => h c (by simp [hc])]
theorem zjL {α : Type} (p : α -> Bool) (l : List α) : ∀ k : Int, 0 <= k -> (0 <= zi3 p l k ↔ l.any p = true) := by
 induction l with
 | nil => intro k hk; simp [zi3]
 | cons s l ih =>
  intro k hk;by_cases h : p s = true
  ·simp [zi3, h, hk]
  ·rw [zi3, if_neg h, ih (k + 1) (by omega)];simp [h]
theorem zca {α : Type} {p : α -> Prop} {l : List α} {i : Nat} {x : α} (hx : l[i]? = some x) (h : ∀ c ∈ l.take i, p c) (hp : p x) : ∀ c ∈ l.take (i + 1), p c := by
 obtain ⟨hi, rfl⟩ := List.getElem?_eq_some_iff.1 hx;rw [List.take_succ_eq_append_getElem hi];intro c hc;rcases List.mem_append.1 hc with hc | hc
 ·exact h c hc
 ·simp at hc; subst hc; exact hp
theorem zf5 (l : List UInt8) (hl : l.length <= 1000000) (f : FuncId) (p : UInt8 -> Bool) (hf : ∀ c ∈ l, Fun Tryz.prog f [.u (.int .u8 c.toNat)] (· = .u (.bool (p c)))) (hcl : zae Tryz.prog f = true) :
  Fun Tryz.prog 155 [.u (.str l), .fnc (.func f) []] (· = .u (.int .i64 (zdn p l))) := by
 refine Fun.run Tryz.func155 Tryz.ntmps155 Tryz.results155 rfl (by simp) fun Γ hn => ?_
 repeat' (first
  | (refine zaf rfl ?_; simp)
  | fail)
 refine zdh (α := { i : Nat // i <= l.length /\ ∀ c ∈ l.take i, p c = true }) [0, 1] (fun i => [(5, .u (.int .i64 i.1))]) (fun i => l.length - i.1) ⟨0, by omega, by simp⟩ ?_ ?_
 ·exact (Wk.env rfl rfl rfl (by simp [wkE, St.lp, zaY, zaa, getK] <;> (try (intros; simp_all; done)) <;> (try (intros; omega)) <;> (try grind)))
 rintro ⟨i, hi, hb⟩;simp;rcases hx : l[i]? with _ | c
 ·have hge : l.length <= i := by simpa using hx
  repeat' (first
  | (refine Cnd.of (fun hc => ?_) (fun hc => ?_) <;> (try (exfalso; omega)) <;> (try simp [hx]))
  | (refine zaf rfl ?_; simp [hx])
  | fail)
  (refine Pst.of ?_; simp)
  rw [zmG hb hi (.inl (by omega))]
 ·have hlt := (List.getElem?_eq_some_iff.1 hx).1;have h1 := hf c (List.mem_of_getElem? hx)
  repeat' (first
  | (refine Cnd.of (fun hc => ?_) (fun hc => ?_) <;> (try (exfalso; omega)) <;> (try simp [hx]))
  | (refine zaf rfl ?_; simp [hx])
  | (refine And.intro (by omega) ?_)
  | (refine CallP.f2 rfl (h1) (by first | simp [hx] <;> rfl | fail) ?_; simp [hx])
  | fail)
  ·refine LoopW.next ⟨i + 1, by omega, zca hx hb (by assumption)⟩ (by simp; omega) ?_
   exact (Wk.env rfl rfl rfl (by simp [wkE, St.lp, zaY, zaa, getK] <;> (try (intros; simp_all; done)) <;> (try (intros; omega)) <;> (try grind)))
  ·(refine Pst.of ?_; simp)
   rw [zmG hb hi (.inr ⟨c, hx, by assumption⟩)]
def zii (s : List UInt8) : Bool := match s with
 | [] => false
 | c :: _ => zdM c && decide (s.length <= 20) && decide (zdn (fun c => zdM c || zbg c) s = s.length)
theorem zmx (s : List UInt8) : Fun Tryz.prog 126 [.u (.str s)] (· = .u (.bool (zii s))) := by
 cases s with
 | nil =>
  refine Fun.run Tryz.func126 Tryz.ntmps126 Tryz.results126 rfl (by simp) fun Γ hn => ?_
  repeat' (first
  | (refine zaf rfl ?_; simp)
  | fail)
  all_goals
   (refine Pst.of ?_; simp)
  all_goals simp [zii]
 | cons c s =>
  by_cases hl : s.length + 1 <= 20
  ·have hs := zf5 (c :: s) (by simp; omega) 156 _ (fun c _ => zox c) (by simp);refine Fun.run Tryz.func126 Tryz.ntmps126 Tryz.results126 rfl (by simp) fun Γ hn => ?_
   repeat' (first
  | (refine Cnd.of (fun hc => ?_) (fun hc => ?_) <;> (try (exfalso; omega)) <;> (try simp))
  | (refine zaf rfl ?_; simp)
  | ((first | refine CallP.f2 rfl (zeM c) (by first | simp <;> rfl | fail) ?_ | refine CallP.f2 rfl (hs) (by first | simp <;> rfl | fail) ?_ | fail); simp)
  | fail)
   all_goals
    (refine Pst.of ?_; simp)
   all_goals
    simp [zii, *]
    try omega
  ·refine Fun.run Tryz.func126 Tryz.ntmps126 Tryz.results126 rfl (by simp) fun Γ hn => ?_
   repeat' (first
  | (refine Cnd.of (fun hc => ?_) (fun hc => ?_) <;> (try (exfalso; omega)) <;> (try simp))
  | (refine zaf rfl ?_; simp)
  | (refine CallP.f2 rfl (zeM c) (by first | simp <;> rfl | fail) ?_; simp)
  | fail)
   all_goals
    (refine Pst.of ?_; simp)
   all_goals
    simp [zii, *]
    try omega
def zos (l : List (List UInt8)) : U := .sl (l.map fun s => [.str s])
def zjJ : List (List UInt8) -> List UInt8 -> Int -> Int
 | [], _, _ => -1
 | s :: l, x, i => if x = s then i else zjJ l x (i + 1)
theorem zsI {l : List (List UInt8)} {x : List UInt8} {i : Nat} {k : Int} (h : ∀ c ∈ l.take i, ¬ x = c) (hx : l[i]? = some x) : zjJ l x k = k + i := by
 induction l generalizing i k with
 | nil => simp at hx
 | cons s l ih =>
  cases i with
  | zero => simp at hx; simp [zjJ, hx]
  | succ i =>
   rw [zjJ, if_neg (h s (by simp)), ih (i := i) (fun c hc => h c (by simp [hc])) (by simpa using hx)];omega
theorem zpv {l : List (List UInt8)} {x : List UInt8} {k : Int} (h : ∀ c ∈ l, ¬ x = c) : zjJ l x k = -1 := by
 induction l generalizing k with
 | nil => rfl
 | cons s l ih => rw [zjJ, if_neg (h s (by simp)), ih fun c hc => h c (by simp [hc])]
theorem zi1 (l : List (List UInt8)) (x : List UInt8) : Fun Tryz.prog 44 [.u (zos l), .u (.str x)] (· = .u (.int .i64 (zjJ l x 0))) := by
 refine Fun.run Tryz.func44 Tryz.ntmps44 Tryz.results44 rfl (by simp) fun Γ hn => ?_; simp only [entry, List.zipIdx_cons, List.zipIdx_nil, List.map_cons, List.map_nil, Nat.zero_add];simp only [zos];refine zie (x := 0) rfl fun hl => ?_;simp at hl
 repeat' (first
  | (refine zaf rfl ?_; simp)
  | fail)
 refine zdh (α := { i : Nat // i <= l.length /\ ∀ c ∈ l.take i, ¬ x = c }) [0, 1, 7] (fun i => [(8, .u (.int .i64 i.1))]) (fun i => l.length - i.1) ⟨0, by omega, by simp⟩ ?_ ?_
 ·exact (Wk.env rfl rfl rfl (by simp [wkE, St.lp, zaY, zaa, getK] <;> (try (intros; simp_all; done)) <;> (try (intros; omega)) <;> (try grind)))
 rintro ⟨i, hi, hb⟩;simp;rcases hx : l[i]? with _ | c
 ·have hge : l.length <= i := by simpa using hx
  repeat' (first
  | (refine Cnd.of (fun hc => ?_) (fun hc => ?_) <;> (try (exfalso; omega)) <;> (try simp [hx]))
  | (refine zaf rfl ?_; simp [hx])
  | fail)
  (refine Pst.of ?_; simp)
  rw [List.take_of_length_le hge] at hb;exact (zpv hb).symm
 ·have hlt := (List.getElem?_eq_some_iff.1 hx).1;by_cases hxc : x = c
  ·subst hxc
   repeat' (first
  | (refine Cnd.of (fun hc => ?_) (fun hc => ?_) <;> (try (exfalso; omega)) <;> (try simp [hx]))
  | (refine zaf rfl ?_; simp [hx])
  | fail)
   (refine Pst.of ?_; simp)
   rw [zsI hb hx];omega
  ·repeat' (first
  | (refine Cnd.of (fun hc => ?_) (fun hc => ?_) <;> (try (exfalso; omega)) <;> (try simp [hx, hxc]))
  | (refine zaf rfl ?_; simp [hx, hxc])
  | (refine And.intro (by omega) ?_)
  | fail)
   refine LoopW.next ⟨i + 1, by omega, zca hx hb hxc⟩ (by simp; omega) ?_
   exact (Wk.env rfl rfl rfl (by simp [wkE, St.lp, zaY, zaa, getK] <;> (try (intros; simp_all; done)) <;> (try (intros; omega)) <;> (try grind)))
theorem zq7 (l : List (List UInt8)) (x : List UInt8) : ∀ k : Int, 0 <= k -> decide (0 <= zjJ l x k) = l.contains x := by
 induction l with
 | nil => intro k hk; simp [zjJ]
 | cons s l ih =>
  intro k hk;by_cases h : x = s
  ·subst h; simp [zjJ, hk]
  ·rw [zjJ, if_neg h, ih (k + 1) (by omega)];simp [h]
theorem zj2 (l : List (List UInt8)) (x : List UInt8) : Fun Tryz.prog 127 [.u (zos l), .u (.str x)] (· = .u (.bool (l.contains x))) := by
 have h1 := zi1 l x;refine Fun.run Tryz.func127 Tryz.ntmps127 Tryz.results127 rfl (by simp) fun Γ hn => ?_; simp only [entry, List.zipIdx_cons, List.zipIdx_nil, List.map_cons, List.map_nil, Nat.zero_add];simp only [zos] at h1 ⊢
 repeat' (first
  | (refine zaf rfl ?_; simp)
  | (refine CallP.f2 rfl (h1) (by first | simp <;> rfl | fail) ?_; simp)
  | fail)
 (refine Pst.of ?_; simp)
 have h2 := zq7 l x 0 (by omega);simpa using h2
def words : List (List UInt8) := [[97, 110, 100], [98, 97, 99, 107, 115], [98, 105, 100, 100, 105, 110, 103], [99, 105, 114, 99, 108, 101], [99, 111, 105, 110, 115], [99, 111, 118, 101, 114], [100, 97, 121, 115], [100, 114, 97, 119], [100, 117, 101], [101, 108, 115, 101], [102, 97, 108, 115, 101], [102, 105, 110, 101], [102, 117, 110, 100], [103, 114, 97, 99, 101], [104, 111, 108, 100], [105, 102], [106, 111, 105, 110], [106, 117, 114, 121], [108, 101, 116], [109, 97, 120], [109, 105, 108, 108, 101], [109, 105, 110], [110, 101, 101, 100], [110, 111, 116], [111, 114], [111, 114, 100, 101, 114], [112, 97, 121], [112, 101, 114], [114, 111, 116, 97, 116, 105, 110, 103], [115, 97, 118, 105, 110, 103], [115, 101, 97, 108, 101, 100], [116, 104, 101, 110], [116, 114, 117, 101], [118, 111, 105, 99, 101, 115], [119, 97, 105, 116]]
set_option maxHeartbeats 4000000 in
set_option maxRecDepth 100000 in
theorem zkz : Fun Tryz.prog 128 [] (· = .u (zos words)) := by
 refine Fun.runW Tryz.func128 Tryz.ntmps128 rfl (by simp) fun Γ hn => ?_; simp only [entry, List.zipIdx_cons, List.zipIdx_nil, List.map_cons, List.map_nil, Nat.zero_add];simp only [zos, words, List.map_cons, List.map_nil]
 repeat' (first
  | (refine zaf rfl ?_; simp [zaj, zah])
  | fail)
 (refine EndW.frzN 1 ?_; simp [del])
 refine EndW.here ?_
 (refine EndOK.val (.inr rfl) ?_; simp [Tryz.results128])
def zsF (l : Let) : D := .u (.agg [.str l.name, .int .i64 l.body.op, .int .i64 l.body.n, .int .i64 l.body.unit, .str l.body.s, .sl (l.body.args.map Exp.row)])
def zaB (l : List Let) : U := .sl (l.map fun l => [.str l.name, .int .i64 l.body.op, .int .i64 l.body.n, .int .i64 l.body.unit, .str l.body.s, .sl (l.body.args.map Exp.row)])
theorem znW (l : List (Let)) (f : FuncId) (caps : List U) (p : Let -> Bool) (hf : ∀ n ∈ l, Fun Tryz.prog f (zsF n :: caps.map .u) (· = .u (.bool (p n)))) (hcl : zae Tryz.prog f = true)
  (hca : ∀ o, zcu o (caps.map .u) = some (caps.map .u, [])) : Fun Tryz.prog 65 [.u (zaB l), .fnc (.func f) (caps.map .u)] (· = .u (.int .i64 (zi3 p l 0))) := by
 refine Fun.run Tryz.func65 Tryz.ntmps65 Tryz.results65 rfl (by simp) fun Γ hn => ?_; simp only [entry, List.zipIdx_cons, List.zipIdx_nil, List.map_cons, List.map_nil, Nat.zero_add];simp only [zaB];refine zie (x := 0) rfl fun hl => ?_;simp at hl
 repeat' (first
  | (refine Cnd.of (fun hc => ?_) (fun hc => ?_) <;> (try (exfalso; omega)) <;> (try simp))
  | (refine zaf rfl ?_; simp)
  | (refine And.intro (by omega) ?_)
  | (refine ⟨hC _ (by kernel_rfl), hk _ (zdb 8 _ _ _ ?_)⟩; clear hC hk C k; simp)
  | (refine zcP rfl (by kernel_rfl) (by kernel_rfl) (by simp [hn]) fun C k hC hk => ?_; simp)
  | (refine zcQ rfl ?_; simp)
  | (refine zcR ?_; simp)
  | (refine zcT rfl rfl ?_; simp)
  | (refine zcS (hC _ _ (by kernel_rfl) (by kernel_rfl)) (hk _ (zdb 8 _ _ _ ?_)); clear hC hk C k; simp [St.ins, zgv, zih, zad, zaa])
  | (refine zdX rfl (by kernel_rfl) (by first | (simp [hn]; done) | (simp [hn]; omega) | fail) fun C k hC hk => ?_; simp)
  | (refine zb9 rfl ?_; simp)
  | (refine zcg rfl ?_; simp)
  | (refine zbs rfl ?_; simp)
  | (refine And.intro ?_ (by omega))
  | (refine And.intro (fun hc => ?_) (fun hc => ?_) <;> (try (exfalso; omega)))
  | (intro hc <;> (try (exfalso; omega))))
 refine zdh (α := { i : Nat // i <= l.length /\ ∀ c ∈ l.take i, p c = false }) [0, 1, 7] (fun i => [(8, .u (.int .i64 i.1))]) (fun i => l.length - i.1) ⟨0, by omega, by simp⟩ ?_ ?_
 ·exact (Wk.env rfl rfl rfl (by simp [wkE, St.lp, zaY, zaa, getK] <;> (try (intros; simp_all; done)) <;> (try (intros; omega)) <;> (try grind)))
 rintro ⟨i, hi, hb⟩;simp;rcases hx : l[i]? with _ | n
 ·have hge : l.length <= i := by simpa using hx
  repeat' (first
  | (refine Cnd.of (fun hc => ?_) (fun hc => ?_) <;> (try (exfalso; omega)) <;> (try simp [hx]))
  | (refine zaf rfl ?_; simp [hx])
  | (refine And.intro (by omega) ?_)
  | (refine ⟨hC _ (by kernel_rfl), hk _ (zdb 8 _ _ _ ?_)⟩; clear hC hk C k; simp [hx])
  | (refine zcP rfl (by kernel_rfl) (by kernel_rfl) (by simp [hn]) fun C k hC hk => ?_; simp [hx])
  | (refine zcQ rfl ?_; simp [hx])
  | (refine zcR ?_; simp [hx])
  | (refine zcT rfl rfl ?_; simp [hx])
  | (refine zcS (hC _ _ (by kernel_rfl) (by kernel_rfl)) (hk _ (zdb 8 _ _ _ ?_)); clear hC hk C k; simp [St.ins, zgv, zih, zad, zaa])
  | (refine zdX rfl (by kernel_rfl) (by first | (simp [hn]; done) | (simp [hn]; omega) | fail) fun C k hC hk => ?_; simp [hx])
  | (refine zb9 rfl ?_; simp [hx])
  | (refine zcg rfl ?_; simp [hx])
  | (refine zbs rfl ?_; simp [hx])
  | (refine And.intro ?_ (by omega))
  | (refine And.intro (fun hc => ?_) (fun hc => ?_) <;> (try (exfalso; omega)))
  | (intro hc <;> (try (exfalso; omega))))
  (refine Pst.of ?_; simp)
  rw [List.take_of_length_le hge] at hb;exact (zgc hb).symm
 ·have hlt : i < l.length := (List.getElem?_eq_some_iff.1 hx).1;have h1 := hf n (List.mem_of_getElem? hx);simp only [zsF] at h1;cases hp : p n
  ·rw [hp] at h1
   repeat' (first
  | (refine Cnd.of (fun hc => ?_) (fun hc => ?_) <;> (try (exfalso; omega)) <;> (try simp [hx, hca]))
  | (refine zaf rfl ?_; simp [hx, hca])
  | (refine And.intro (by omega) ?_)
  | (refine ⟨hC _ (by kernel_rfl), hk _ (zdb 8 _ _ _ ?_)⟩; clear hC hk C k; simp [hx, hca])
  | (refine zcP rfl (by kernel_rfl) (by kernel_rfl) (by simp [hn]) fun C k hC hk => ?_; simp [hx, hca])
  | (refine zcQ rfl ?_; simp [hx, hca])
  | (refine zcR ?_; simp [hx, hca])
  | (refine zcT rfl rfl ?_; simp [hx, hca])
  | (refine zcS (hC _ _ (by kernel_rfl) (by kernel_rfl)) (hk _ (zdb 8 _ _ _ ?_)); clear hC hk C k; simp [St.ins, zgv, zih, zad, zaa])
  | (refine zdX rfl (by kernel_rfl) (by first | (simp [hn]; done) | (simp [hn]; omega) | fail) fun C k hC hk => ?_; simp [hx, hca])
  | (refine zb9 rfl ?_; simp [hx, hca])
  | (refine zcg rfl ?_; simp [hx, hca])
  | (refine zbs rfl ?_; simp [hx, hca])
  | (refine And.intro ?_ (by omega))
  | (refine And.intro (fun hc => ?_) (fun hc => ?_) <;> (try (exfalso; omega)))
  | (intro hc <;> (try (exfalso; omega)))
  | (refine CallP.f2 rfl (h1) (by first | simp [hx, hca] <;> rfl | fail) ?_; simp [hx, hca])
  | (refine CallV.f2 rfl (h1) (by first | simp [hx, hca] <;> rfl | fail) ?_; simp [hx, hca]))
   refine LoopW.next ⟨i + 1, by omega, zca hx hb hp⟩ (by simp; omega) ?_
   exact (Wk.env rfl rfl rfl (by simp [wkE, St.lp, zaY, zaa, getK] <;> (try (intros; simp_all; done)) <;> (try (intros; omega)) <;> (try grind)))
  ·rw [hp] at h1
   repeat' (first
  | (refine Cnd.of (fun hc => ?_) (fun hc => ?_) <;> (try (exfalso; omega)) <;> (try simp [hx, hca]))
  | (refine zaf rfl ?_; simp [hx, hca])
  | (refine And.intro (by omega) ?_)
  | (refine ⟨hC _ (by kernel_rfl), hk _ (zdb 8 _ _ _ ?_)⟩; clear hC hk C k; simp [hx, hca])
  | (refine zcP rfl (by kernel_rfl) (by kernel_rfl) (by simp [hn]) fun C k hC hk => ?_; simp [hx, hca])
  | (refine zcQ rfl ?_; simp [hx, hca])
  | (refine zcR ?_; simp [hx, hca])
  | (refine zcT rfl rfl ?_; simp [hx, hca])
  | (refine zcS (hC _ _ (by kernel_rfl) (by kernel_rfl)) (hk _ (zdb 8 _ _ _ ?_)); clear hC hk C k; simp [St.ins, zgv, zih, zad, zaa])
  | (refine zdX rfl (by kernel_rfl) (by first | (simp [hn]; done) | (simp [hn]; omega) | fail) fun C k hC hk => ?_; simp [hx, hca])
  | (refine zb9 rfl ?_; simp [hx, hca])
  | (refine zcg rfl ?_; simp [hx, hca])
  | (refine zbs rfl ?_; simp [hx, hca])
  | (refine And.intro ?_ (by omega))
  | (refine And.intro (fun hc => ?_) (fun hc => ?_) <;> (try (exfalso; omega)))
  | (intro hc <;> (try (exfalso; omega)))
  | (refine CallP.f2 rfl (h1) (by first | simp [hx, hca] <;> rfl | fail) ?_; simp [hx, hca])
  | (refine CallV.f2 rfl (h1) (by first | simp [hx, hca] <;> rfl | fail) ?_; simp [hx, hca]))
   (refine Pst.of ?_; simp)
   rw [zjK hb hx hp];omega
theorem zgl (l : List (Let)) (f : FuncId) (caps : List U) (p : Let -> Bool) (hf : ∀ n ∈ l, Fun Tryz.prog f (zsF n :: caps.map .u) (· = .u (.bool (p n)))) (hcl : zae Tryz.prog f = true)
  (hca : ∀ o, zcu o (caps.map .u) = some (caps.map .u, [])) (hcb : ∀ o, zbu o (caps.map .u) = some (caps, [])) : Fun Tryz.prog 34 [.u (zaB l), .fnc (.func f) (caps.map .u)] (· = .u (.bool (l.any p))) := by
 have h1 := znW l f caps p hf hcl hca;refine Fun.run Tryz.func34 Tryz.ntmps34 Tryz.results34 rfl (by simp) fun Γ hn => ?_; simp only [entry, List.zipIdx_cons, List.zipIdx_nil, List.map_cons, List.map_nil, Nat.zero_add];simp only [zaB] at h1 ⊢
 repeat' (first
  | (refine Cnd.of (fun hc => ?_) (fun hc => ?_) <;> (try (exfalso; omega)) <;> (try simp [hcb]))
  | (refine zaf rfl ?_; simp [hcb])
  | (refine And.intro (by omega) ?_)
  | (refine ⟨hC _ (by kernel_rfl), hk _ (zdb 8 _ _ _ ?_)⟩; clear hC hk C k; simp [hcb])
  | (refine zcP rfl (by kernel_rfl) (by kernel_rfl) (by simp [hn]) fun C k hC hk => ?_; simp [hcb])
  | (refine zcQ rfl ?_; simp [hcb])
  | (refine zcR ?_; simp [hcb])
  | (refine zcT rfl rfl ?_; simp [hcb])
  | (refine zcS (hC _ _ (by kernel_rfl) (by kernel_rfl)) (hk _ (zdb 8 _ _ _ ?_)); clear hC hk C k; simp [St.ins, zgv, zih, zad, zaa])
  | (refine zdX rfl (by kernel_rfl) (by first | (simp [hn]; done) | (simp [hn]; omega) | fail) fun C k hC hk => ?_; simp [hcb])
  | (refine zb9 rfl ?_; simp [hcb])
  | (refine zcg rfl ?_; simp [hcb])
  | (refine zbs rfl ?_; simp [hcb])
  | (refine And.intro ?_ (by omega))
  | (refine And.intro (fun hc => ?_) (fun hc => ?_) <;> (try (exfalso; omega)))
  | (intro hc <;> (try (exfalso; omega)))
  | (refine CallP.f2 rfl (h1) (by first | simp [hcb] <;> rfl | fail) ?_; simp [hcb])
  | (refine CallV.f2 rfl (h1) (by first | simp [hcb] <;> rfl | fail) ?_; simp [hcb]))
 (refine Pst.of ?_; simp)
 have h2 := zjL p l 0 (by omega);rw [Bool.eq_iff_iff];simpa using h2
def zt4 (n : Int) : D := .u (.int .i64 n)
def zou (l : List Int) : U := .sl (l.map fun n => [.int .i64 n])
theorem znX (l : List (Int)) (f : FuncId) (caps : List U) (p : Int -> Bool) (hf : ∀ n ∈ l, Fun Tryz.prog f (zt4 n :: caps.map .u) (· = .u (.bool (p n)))) (hcl : zae Tryz.prog f = true)
  (hca : ∀ o, zcu o (caps.map .u) = some (caps.map .u, [])) : Fun Tryz.prog 135 [.u (zou l), .fnc (.func f) (caps.map .u)] (· = .u (.int .i64 (zi3 p l 0))) := by
 refine Fun.run Tryz.func135 Tryz.ntmps135 Tryz.results135 rfl (by simp) fun Γ hn => ?_; simp only [entry, List.zipIdx_cons, List.zipIdx_nil, List.map_cons, List.map_nil, Nat.zero_add];simp only [zou];refine zie (x := 0) rfl fun hl => ?_;simp at hl
 repeat' (first
  | (refine Cnd.of (fun hc => ?_) (fun hc => ?_) <;> (try (exfalso; omega)) <;> (try simp))
  | (refine zaf rfl ?_; simp)
  | (refine And.intro (by omega) ?_)
  | (refine ⟨hC _ (by kernel_rfl), hk _ (zdb 8 _ _ _ ?_)⟩; clear hC hk C k; simp)
  | (refine zcP rfl (by kernel_rfl) (by kernel_rfl) (by simp [hn]) fun C k hC hk => ?_; simp)
  | (refine zcQ rfl ?_; simp)
  | (refine zcR ?_; simp)
  | (refine zcT rfl rfl ?_; simp)
  | (refine zcS (hC _ _ (by kernel_rfl) (by kernel_rfl)) (hk _ (zdb 8 _ _ _ ?_)); clear hC hk C k; simp [St.ins, zgv, zih, zad, zaa])
  | (refine zdX rfl (by kernel_rfl) (by first | (simp [hn]; done) | (simp [hn]; omega) | fail) fun C k hC hk => ?_; simp)
  | (refine zb9 rfl ?_; simp)
  | (refine zcg rfl ?_; simp)
  | (refine zbs rfl ?_; simp)
  | (refine And.intro ?_ (by omega))
  | (refine And.intro (fun hc => ?_) (fun hc => ?_) <;> (try (exfalso; omega)))
  | (intro hc <;> (try (exfalso; omega))))
 refine zdh (α := { i : Nat // i <= l.length /\ ∀ c ∈ l.take i, p c = false }) [0, 1, 7] (fun i => [(8, .u (.int .i64 i.1))]) (fun i => l.length - i.1) ⟨0, by omega, by simp⟩ ?_ ?_
 ·exact (Wk.env rfl rfl rfl (by simp [wkE, St.lp, zaY, zaa, getK] <;> (try (intros; simp_all; done)) <;> (try (intros; omega)) <;> (try grind)))
 rintro ⟨i, hi, hb⟩;simp;rcases hx : l[i]? with _ | n
 ·have hge : l.length <= i := by simpa using hx
  repeat' (first
  | (refine Cnd.of (fun hc => ?_) (fun hc => ?_) <;> (try (exfalso; omega)) <;> (try simp [hx]))
  | (refine zaf rfl ?_; simp [hx])
  | (refine And.intro (by omega) ?_)
  | (refine ⟨hC _ (by kernel_rfl), hk _ (zdb 8 _ _ _ ?_)⟩; clear hC hk C k; simp [hx])
  | (refine zcP rfl (by kernel_rfl) (by kernel_rfl) (by simp [hn]) fun C k hC hk => ?_; simp [hx])
  | (refine zcQ rfl ?_; simp [hx])
  | (refine zcR ?_; simp [hx])
  | (refine zcT rfl rfl ?_; simp [hx])
  | (refine zcS (hC _ _ (by kernel_rfl) (by kernel_rfl)) (hk _ (zdb 8 _ _ _ ?_)); clear hC hk C k; simp [St.ins, zgv, zih, zad, zaa])
  | (refine zdX rfl (by kernel_rfl) (by first | (simp [hn]; done) | (simp [hn]; omega) | fail) fun C k hC hk => ?_; simp [hx])
  | (refine zb9 rfl ?_; simp [hx])
  | (refine zcg rfl ?_; simp [hx])
  | (refine zbs rfl ?_; simp [hx])
  | (refine And.intro ?_ (by omega))
  | (refine And.intro (fun hc => ?_) (fun hc => ?_) <;> (try (exfalso; omega)))
  | (intro hc <;> (try (exfalso; omega))))
  (refine Pst.of ?_; simp)
  rw [List.take_of_length_le hge] at hb;exact (zgc hb).symm
 ·have hlt : i < l.length := (List.getElem?_eq_some_iff.1 hx).1;have h1 := hf n (List.mem_of_getElem? hx);simp only [zt4] at h1;cases hp : p n
  ·rw [hp] at h1
   repeat' (first
  | (refine Cnd.of (fun hc => ?_) (fun hc => ?_) <;> (try (exfalso; omega)) <;> (try simp [hx, hca]))
  | (refine zaf rfl ?_; simp [hx, hca])
  | (refine And.intro (by omega) ?_)
  | (refine ⟨hC _ (by kernel_rfl), hk _ (zdb 8 _ _ _ ?_)⟩; clear hC hk C k; simp [hx, hca])
  | (refine zcP rfl (by kernel_rfl) (by kernel_rfl) (by simp [hn]) fun C k hC hk => ?_; simp [hx, hca])
  | (refine zcQ rfl ?_; simp [hx, hca])
  | (refine zcR ?_; simp [hx, hca])
  | (refine zcT rfl rfl ?_; simp [hx, hca])
  | (refine zcS (hC _ _ (by kernel_rfl) (by kernel_rfl)) (hk _ (zdb 8 _ _ _ ?_)); clear hC hk C k; simp [St.ins, zgv, zih, zad, zaa])
  | (refine zdX rfl (by kernel_rfl) (by first | (simp [hn]; done) | (simp [hn]; omega) | fail) fun C k hC hk => ?_; simp [hx, hca])
  | (refine zb9 rfl ?_; simp [hx, hca])
  | (refine zcg rfl ?_; simp [hx, hca])
  | (refine zbs rfl ?_; simp [hx, hca])
  | (refine And.intro ?_ (by omega))
  | (refine And.intro (fun hc => ?_) (fun hc => ?_) <;> (try (exfalso; omega)))
  | (intro hc <;> (try (exfalso; omega)))
  | (refine CallP.f2 rfl (h1) (by first | simp [hx, hca] <;> rfl | fail) ?_; simp [hx, hca])
  | (refine CallV.f2 rfl (h1) (by first | simp [hx, hca] <;> rfl | fail) ?_; simp [hx, hca]))
   refine LoopW.next ⟨i + 1, by omega, zca hx hb hp⟩ (by simp; omega) ?_
   exact (Wk.env rfl rfl rfl (by simp [wkE, St.lp, zaY, zaa, getK] <;> (try (intros; simp_all; done)) <;> (try (intros; omega)) <;> (try grind)))
  ·rw [hp] at h1
   repeat' (first
  | (refine Cnd.of (fun hc => ?_) (fun hc => ?_) <;> (try (exfalso; omega)) <;> (try simp [hx, hca]))
  | (refine zaf rfl ?_; simp [hx, hca])
  | (refine And.intro (by omega) ?_)
  | (refine ⟨hC _ (by kernel_rfl), hk _ (zdb 8 _ _ _ ?_)⟩; clear hC hk C k; simp [hx, hca])
  | (refine zcP rfl (by kernel_rfl) (by kernel_rfl) (by simp [hn]) fun C k hC hk => ?_; simp [hx, hca])
  | (refine zcQ rfl ?_; simp [hx, hca])
  | (refine zcR ?_; simp [hx, hca])
  | (refine zcT rfl rfl ?_; simp [hx, hca])
  | (refine zcS (hC _ _ (by kernel_rfl) (by kernel_rfl)) (hk _ (zdb 8 _ _ _ ?_)); clear hC hk C k; simp [St.ins, zgv, zih, zad, zaa])
  | (refine zdX rfl (by kernel_rfl) (by first | (simp [hn]; done) | (simp [hn]; omega) | fail) fun C k hC hk => ?_; simp [hx, hca])
  | (refine zb9 rfl ?_; simp [hx, hca])
  | (refine zcg rfl ?_; simp [hx, hca])
  | (refine zbs rfl ?_; simp [hx, hca])
  | (refine And.intro ?_ (by omega))
  | (refine And.intro (fun hc => ?_) (fun hc => ?_) <;> (try (exfalso; omega)))
  | (intro hc <;> (try (exfalso; omega)))
  | (refine CallP.f2 rfl (h1) (by first | simp [hx, hca] <;> rfl | fail) ?_; simp [hx, hca])
  | (refine CallV.f2 rfl (h1) (by first | simp [hx, hca] <;> rfl | fail) ?_; simp [hx, hca]))
   (refine Pst.of ?_; simp)
   rw [zjK hb hx hp];omega
theorem zj3 (l : List (Int)) (f : FuncId) (caps : List U) (p : Int -> Bool) (hf : ∀ n ∈ l, Fun Tryz.prog f (zt4 n :: caps.map .u) (· = .u (.bool (p n)))) (hcl : zae Tryz.prog f = true)
  (hca : ∀ o, zcu o (caps.map .u) = some (caps.map .u, [])) (hcb : ∀ o, zbu o (caps.map .u) = some (caps, [])) : Fun Tryz.prog 94 [.u (zou l), .fnc (.func f) (caps.map .u)] (· = .u (.bool (l.any p))) := by
 have h1 := znX l f caps p hf hcl hca;refine Fun.run Tryz.func94 Tryz.ntmps94 Tryz.results94 rfl (by simp) fun Γ hn => ?_; simp only [entry, List.zipIdx_cons, List.zipIdx_nil, List.map_cons, List.map_nil, Nat.zero_add];simp only [zou] at h1 ⊢
 repeat' (first
  | (refine Cnd.of (fun hc => ?_) (fun hc => ?_) <;> (try (exfalso; omega)) <;> (try simp [hcb]))
  | (refine zaf rfl ?_; simp [hcb])
  | (refine And.intro (by omega) ?_)
  | (refine ⟨hC _ (by kernel_rfl), hk _ (zdb 8 _ _ _ ?_)⟩; clear hC hk C k; simp [hcb])
  | (refine zcP rfl (by kernel_rfl) (by kernel_rfl) (by simp [hn]) fun C k hC hk => ?_; simp [hcb])
  | (refine zcQ rfl ?_; simp [hcb])
  | (refine zcR ?_; simp [hcb])
  | (refine zcT rfl rfl ?_; simp [hcb])
  | (refine zcS (hC _ _ (by kernel_rfl) (by kernel_rfl)) (hk _ (zdb 8 _ _ _ ?_)); clear hC hk C k; simp [St.ins, zgv, zih, zad, zaa])
  | (refine zdX rfl (by kernel_rfl) (by first | (simp [hn]; done) | (simp [hn]; omega) | fail) fun C k hC hk => ?_; simp [hcb])
  | (refine zb9 rfl ?_; simp [hcb])
  | (refine zcg rfl ?_; simp [hcb])
  | (refine zbs rfl ?_; simp [hcb])
  | (refine And.intro ?_ (by omega))
  | (refine And.intro (fun hc => ?_) (fun hc => ?_) <;> (try (exfalso; omega)))
  | (intro hc <;> (try (exfalso; omega)))
  | (refine CallP.f2 rfl (h1) (by first | simp [hcb] <;> rfl | fail) ?_; simp [hcb])
  | (refine CallV.f2 rfl (h1) (by first | simp [hcb] <;> rfl | fail) ?_; simp [hcb]))
 (refine Pst.of ?_; simp)
 have h2 := zjL p l 0 (by omega);rw [Bool.eq_iff_iff];simpa using h2
end Go.Proofs.YtkdhmbhbbciedaaGreatDoor
namespace Go.Proofs.YtkdhmbhbbciedaaGreatDoor.Vm
open Go Go.VL
attribute [local simp] za2 zcH zbP evPure opd uOf zaq St.put St.at getK binD binI binS binB nilD aggD ze4 zfg lookD lookR zbM rangeS Go.VL.nextD Go.VL.nextS zbR zfi zfh zeD zb0 mkV zaX zaE zaD zaC zcG zaA zaP za5 mapEff zdm zeo Key.kk shiftI arith unD convD zda loadD cellsAt fieldAddrD fieldD indexAddrD indexSlD arrAddr indexD sliceD cutD lenD minmaxD nilCheckD buildD fillD zbv zcI zec setAll zcA zd1 zbK zeT zbJ St.add zak zbd rowsOf zcU zcb zad zac zaa zaW zcy zaH entry zah zaj valD zbW zcu zeU zcN zcO zbC zbu zag zaM za4 delAll effD St.effS zb6 zaF zat zb7 zaG zav zbq zau zam zbr zb5 za1 zbm zaO zbl zai mkD zbi zbb zbf zag zbT D.ids Op.operands Call.operands zbc makeIfD makeFuncD typeAssertD zff zcX zcY zfb zbN IntKind.bits zcx List.take_of_length_le List.range_succ zcm zbF zcn zch zba zbw zby zci zbA zaU zbz zbx zfO zbE zck zaK zaw zcl zaL zay zbD zax zap zcq zcr zfN zab frzN frz1 zaR zaQ St.frz St.frzS frzS fv zbQ zb2 zb3 zaS zaz zan frz zcd zbU zbY zbZ za6 St.norm St.lp St.only zaY wkE wkO wkU Ob.under D.under zal zar zco zbG zcp h4s zdT zas za7 List.zipIdx_cons List.zipIdx_nil List.map_cons List.map_nil Nat.zero_add
attribute [local irreducible] V G H HD HD2 za3 Eff CallP CallV EndOK Fun Ret FinOK LoopI LoopW EndW HR vs2 RN Cnd H4
def needs (n : Int) : Int := if n = 0 \/ n = 1 \/ n = 12 then 0 else if n = 11 \/ n = 13 \/ n = 14 then 1 else 2
end Go.Proofs.YtkdhmbhbbciedaaGreatDoor.Vm
namespace Go.Pm
def over (x y c : Int) : Int := if 1099511627776 < (x.natAbs * y.natAbs : Int) / c then 1099511627777 else x * y / c
end Go.Pm
namespace Go.Proofs.YtkdhmbhbbciedaaGreatDoor.Vm
open Go Go.VL
attribute [local simp] za2 zcH zbP evPure opd uOf zaq St.put St.at getK binD binI binS binB nilD aggD ze4 zfg lookD lookR zbM rangeS Go.VL.nextD Go.VL.nextS zbR zfi zfh zeD zb0 mkV zaX zaE zaD zaC zcG zaA zaP za5 mapEff zdm zeo Key.kk shiftI arith unD convD zda loadD cellsAt fieldAddrD fieldD indexAddrD indexSlD arrAddr indexD sliceD cutD lenD minmaxD nilCheckD buildD fillD zbv zcI zec setAll zcA zd1 zbK zeT zbJ St.add zak zbd rowsOf zcU zcb zad zac zaa zaW zcy zaH entry zah zaj valD zbW zcu zeU zcN zcO zbC zbu zag zaM za4 delAll effD St.effS zb6 zaF zat zb7 zaG zav zbq zau zam zbr zb5 za1 zbm zaO zbl zai mkD zbi zbb zbf zag zbT D.ids Op.operands Call.operands zbc makeIfD makeFuncD typeAssertD zff zcX zcY zfb zbN IntKind.bits zcx List.take_of_length_le List.range_succ zcm zbF zcn zch zba zbw zby zci zbA zaU zbz zbx zfO zbE zck zaK zaw zcl zaL zay zbD zax zap zcq zcr zfN zab frzN frz1 zaR zaQ St.frz St.frzS frzS fv zbQ zb2 zb3 zaS zaz zan frz zcd zbU zbY zbZ za6 St.norm St.lp St.only zaY wkE wkO wkU Ob.under D.under zal zar zco zbG zcp h4s zdT zas za7 List.zipIdx_cons List.zipIdx_nil List.map_cons List.map_nil Nat.zero_add
attribute [local irreducible] V G H HD HD2 za3 Eff CallP CallV EndOK Fun Ret FinOK LoopI LoopW EndW HR vs2 RN Cnd H4
end Go.Proofs.YtkdhmbhbbciedaaGreatDoor.Vm
namespace Go.Pm
def truth (b : Bool) : Int := if b then 1 else 0
def two (op a b : Int) : Int :=
 if op = 2 then a + b else if op = 3 then a - b else if op = 4 then over a b 1 else if op = 6 then over a b 1000 else if op = 5 then a.fdiv b
 else if op = 7 then min a b else if op = 8 then max a b else if op = 9 then truth (decide (a < b)) else truth (decide (a = b))
end Go.Pm
namespace Go.Proofs.YtkdhmbhbbciedaaGreatDoor.Vm
open Go Go.VL
attribute [local simp] za2 zcH zbP evPure opd uOf zaq St.put St.at getK binD binI binS binB nilD aggD ze4 zfg lookD lookR zbM rangeS Go.VL.nextD Go.VL.nextS zbR zfi zfh zeD zb0 mkV zaX zaE zaD zaC zcG zaA zaP za5 mapEff zdm zeo Key.kk shiftI arith unD convD zda loadD cellsAt fieldAddrD fieldD indexAddrD indexSlD arrAddr indexD sliceD cutD lenD minmaxD nilCheckD buildD fillD zbv zcI zec setAll zcA zd1 zbK zeT zbJ St.add zak zbd rowsOf zcU zcb zad zac zaa zaW zcy zaH entry zah zaj valD zbW zcu zeU zcN zcO zbC zbu zag zaM za4 delAll effD St.effS zb6 zaF zat zb7 zaG zav zbq zau zam zbr zb5 za1 zbm zaO zbl zai mkD zbi zbb zbf zag zbT D.ids Op.operands Call.operands zbc makeIfD makeFuncD typeAssertD zff zcX zcY zfb zbN IntKind.bits zcx List.take_of_length_le List.range_succ zcm zbF zcn zch zba zbw zby zci zbA zaU zbz zbx zfO zbE zck zaK zaw zcl zaL zay zbD zax zap zcq zcr zfN zab frzN frz1 zaR zaQ St.frz St.frzS frzS fv zbQ zb2 zb3 zaS zaz zan frz zcd zbU zbY zbZ za6 St.norm St.lp St.only zaY wkE wkO wkU Ob.under D.under zal zar zco zbG zcp h4s zdT zas za7 List.zipIdx_cons List.zipIdx_nil List.map_cons List.map_nil Nat.zero_add
attribute [local irreducible] V G H HD HD2 za3 Eff CallP CallV EndOK Fun Ret FinOK LoopI LoopW EndW HR vs2 RN Cnd H4
end Go.Proofs.YtkdhmbhbbciedaaGreatDoor.Vm
namespace Go.Pm
def idx {α : Type} (p : α -> Bool) (l : List α) : Int := match l.findIdx? p with | some i => i | none => -1
end Go.Pm
namespace Go.Proofs.YtkdhmbhbbciedaaGreatDoor.Vm
open Go Go.VL
attribute [local simp] za2 zcH zbP evPure opd uOf zaq St.put St.at getK binD binI binS binB nilD aggD ze4 zfg lookD lookR zbM rangeS Go.VL.nextD Go.VL.nextS zbR zfi zfh zeD zb0 mkV zaX zaE zaD zaC zcG zaA zaP za5 mapEff zdm zeo Key.kk shiftI arith unD convD zda loadD cellsAt fieldAddrD fieldD indexAddrD indexSlD arrAddr indexD sliceD cutD lenD minmaxD nilCheckD buildD fillD zbv zcI zec setAll zcA zd1 zbK zeT zbJ St.add zak zbd rowsOf zcU zcb zad zac zaa zaW zcy zaH entry zah zaj valD zbW zcu zeU zcN zcO zbC zbu zag zaM za4 delAll effD St.effS zb6 zaF zat zb7 zaG zav zbq zau zam zbr zb5 za1 zbm zaO zbl zai mkD zbi zbb zbf zag zbT D.ids Op.operands Call.operands zbc makeIfD makeFuncD typeAssertD zff zcX zcY zfb zbN IntKind.bits zcx List.take_of_length_le List.range_succ zcm zbF zcn zch zba zbw zby zci zbA zaU zbz zbx zfO zbE zck zaK zaw zcl zaL zay zbD zax zap zcq zcr zfN zab frzN frz1 zaR zaQ St.frz St.frzS frzS fv zbQ zb2 zb3 zaS zaz zan frz zcd zbU zbY zbZ za6 St.norm St.lp St.only zaY wkE wkO wkU Ob.under D.under zal zar zco zbG zcp h4s zdT zas za7 List.zipIdx_cons List.zipIdx_nil List.map_cons List.map_nil Nat.zero_add
attribute [local irreducible] V G H HD HD2 za3 Eff CallP CallV EndOK Fun Ret FinOK LoopI LoopW EndW HR vs2 RN Cnd H4
def zou (l : List Int) : U := .sl (l.map fun n => [.int .i64 n])
end Go.Proofs.YtkdhmbhbbciedaaGreatDoor.Vm
namespace Go.Proofs.YtkdhmbhbbciedaaGreatDoor.Vm
open Go Go.VL
attribute [local simp] za2 zcH zbP evPure opd uOf zaq St.put St.at getK binD binI binS binB nilD aggD ze4 zfg lookD lookR zbM rangeS Go.VL.nextD Go.VL.nextS zbR zfi zfh zeD zb0 mkV zaX zaE zaD zaC zcG zaA zaP za5 mapEff zdm zeo Key.kk shiftI arith unD convD zda loadD cellsAt fieldAddrD fieldD indexAddrD indexSlD arrAddr indexD sliceD cutD lenD minmaxD nilCheckD buildD fillD zbv zcI zec setAll zcA zd1 zbK zeT zbJ St.add zak zbd rowsOf zcU zcb zad zac zaa zaW zcy zaH entry zah zaj valD zbW zcu zeU zcN zcO zbC zbu zag zaM za4 delAll effD St.effS zb6 zaF zat zb7 zaG zav zbq zau zam zbr zb5 za1 zbm zaO zbl zai mkD zbi zbb zbf zag zbT D.ids Op.operands Call.operands zbc makeIfD makeFuncD typeAssertD zff zcX zcY zfb zbN IntKind.bits zcx List.take_of_length_le List.range_succ zcm zbF zcn zch zba zbw zby zci zbA zaU zbz zbx zfO zbE zck zaK zaw zcl zaL zay zbD zax zap zcq zcr zfN zab frzN frz1 zaR zaQ St.frz St.frzS frzS fv zbQ zb2 zb3 zaS zaz zan frz zcd zbU zbY zbZ za6 St.norm St.lp St.only zaY wkE wkO wkU Ob.under D.under zal zar zco zbG zcp h4s zdT zas za7 List.zipIdx_cons List.zipIdx_nil List.map_cons List.map_nil Nat.zero_add
attribute [local irreducible] V G H HD HD2 za3 Eff CallP CallV EndOK Fun Ret FinOK LoopI LoopW EndW HR vs2 RN Cnd H4
structure Var where
 name : List UInt8
 unit : Int
 n : Int
 deriving DecidableEq
structure Ins where
 op : Int
 a : Int
 s : List UInt8
 deriving DecidableEq
def Var.row (v : Var) : List U := [.str v.name, .int .i64 v.unit, .int .i64 v.n]
def Ins.row (c : Ins) : List U := [.int .i64 c.op, .int .i64 c.a, .str c.s]
def vars (l : List Var) : U := .sl (l.map fun v => [.str v.name, .int .i64 v.unit, .int .i64 v.n])
def inss (l : List Ins) : U := .sl (l.map fun c => [.int .i64 c.op, .int .i64 c.a, .str c.s])
def stk (l : List Int) : List (List D) := l.map fun n => [.u (.int .i64 n)]
def zvo (pc : Int) (sd : D) (en : Bool) (va er : Int) : Ob := .box [.u (.int .i64 pc), sd, .u (.bool en), .u (.int .i64 va), .u (.int .i64 er)]
end Go.Proofs.YtkdhmbhbbciedaaGreatDoor.Vm
namespace Go.Proofs.YtkdhmbhbbciedaaGreatDoor.Vm
open Go Go.VL
structure Mach where
 pc : Int
 stack : List Int
 en : Bool
 va : Int
 er : Int
 deriving DecidableEq
def okv (n : Int) : Bool := decide (-1099511627776 <= n /\ n <= 1099511627776)
def Mach.fin (m : Mach) (v e : Int) : Mach := { m with stack := [], en := true, va := v, er := e }
def Mach.push (m : Mach) (x : Int) : Mach := if okv x then { m with pc := m.pc + 1, stack := m.stack ++ [x] } else m.fin 0 3
def Mach.drop (m : Mach) (k : Nat) : Mach := { m with stack := m.stack.take (m.stack.length - k) }
def Mach.top (m : Mach) (k : Nat) : Int := m.stack.getD (m.stack.length - 1 - k) 0
def stepI (vs : List Var) (m : Mach) (c : Ins) : Mach :=
 if c.op = 0 then m.push c.a
 else if c.op = 1 then match vs.find? fun v => decide (v.name = c.s) with | none => m.fin 0 13 | some v => m.push v.n
 else if c.op = 12 then { m with pc := c.a }
 else if c.op = 13 then { m.drop 1 with pc := if m.top 0 = 0 then c.a else m.pc + 1 }
 else if c.op = 14 then m.fin (m.top 0) 0
 else if c.op = 11 then (m.drop 1).push (Pm.truth (decide (m.top 0 = 0)))
 else if c.op = 5 /\ m.top 0 = 0 then m.fin 0 15
 else (m.drop 2).push (Pm.two c.op (m.top 1) (m.top 0))
def stepM (code : List Ins) (vs : List Var) (m : Mach) : Mach :=
 if m.pc < 0 then m.fin 0 2 else match code[m.pc.toNat]? with
 | none => m.fin 0 2
 | some c => if c.op < 0 \/ 15 <= c.op \/ (m.stack.length : Int) < needs c.op \/ (m.stack.any fun n => !okv n) = true then m.fin 0 2 else stepI vs m c
theorem stepM_eq {code : List Ins} {vs : List Var} {m : Mach} {c : Ins} (h : 0 <= m.pc) (hc : code[m.pc.toNat]? = some c) :
  stepM code vs m = if c.op < 0 \/ 15 <= c.op \/ (m.stack.length : Int) < needs c.op \/ (m.stack.any fun n => !okv n) = true then m.fin 0 2 else stepI vs m c := by
 unfold stepM;rw [if_neg (by omega), hc]
end Go.Proofs.YtkdhmbhbbciedaaGreatDoor.Vm
namespace Go.Proofs.YtkdhmbhbbciedaaGreatDoor.Vm
open Go Go.VL
def runK (code : List Ins) (vs : List Var) (fuel : Int) : Nat -> Int -> Mach -> Int × Int × Int
 | 0, _, _ => (0, fuel, 16)
 | k + 1, n, m => let m' := stepM code vs m
  if m'.en then (m'.va, n + 1, m'.er) else runK code vs fuel k (n + 1) m'
def run0 : Mach := ⟨0, [], false, 0, 0⟩
def runM (code : List Ins) (vs : List Var) (fuel : Int) : Int × Int × Int :=
 if fuel < 0 \/ 100000 < fuel then (0, 0, 1) else runK code vs fuel fuel.toNat 0 run0
structure RunAt (code : List Ins) (vs : List Var) (fuel : Int) where
 n : Nat
 m : Mach
 rows : Option (List Int)
 hn : (n : Int) <= fuel
 hlen : m.stack.length <= n
 hrun : runK code vs fuel (fuel.toNat - n) n m = runK code vs fuel fuel.toNat 0 run0
 hrows : match rows with | none => m.stack = [] | some r => r.take m.stack.length = m.stack
def RunAt.obs {code vs fuel} (x : RunAt code vs fuel) : List (Nat × Ob) :=
 match x.rows with
 | none => [(0, zvo x.m.pc (.u .nil) x.m.en x.m.va x.m.er)]
 | some r => [(0, zvo x.m.pc (.vec 1 x.m.stack.length) x.m.en x.m.va x.m.er), (1, .vec 3 1 (stk r))]
end Go.Proofs.YtkdhmbhbbciedaaGreatDoor.Vm
namespace Go.Proofs.YtkdhmbhbbciedaaGreatDoor
open Go Go.VL Go.ChangeShapes Go.WideShapes Go.ChangeAt Go.RowKit
theorem Tryz.own : ownKnob Tryz.prog.godebug = none := by kernel_rfl
theorem Tryz.ztq : laidOutB Tryz.prog = true := by kernel_rfl
theorem Tryz.zzL : ziH Tryz.prog = true := by kernel_rfl
theorem zsc : ∀ (m : Nat) (r : List U), SizeOf.sizeOf r <= m -> HasRow Tryz.prog 25 r -> ∃ e : Exp, r = e.row
 | 0, r, hm, _ => by cases r <;> simp at hm
 | m + 1, r, hm, h => by
  obtain ⟨rs, hr, h⟩ := h.of_struct zuH
  match rs, h with
  | [a, b, c, d, f], h =>
   obtain ⟨h1, h2, h3, h4, h5, _⟩ := h;obtain ⟨x, rfl, _⟩ := h1.of_int io3;obtain ⟨y, rfl, _⟩ := h2.of_int io3;obtain ⟨z, rfl, _⟩ := h3.of_int io3;obtain ⟨s, rfl, _⟩ := h4.of_str (by simp);obtain ⟨rows, rfl, _, h6⟩ := h5.of_slice zyN;have hsz : ∀ q ∈ rows, SizeOf.sizeOf q <= m := fun q hq => by
    have := List.sizeOf_lt_of_mem hq;rw [hr] at hm;simp at hm;omega
   obtain ⟨l, rfl, _⟩ := rows_list Exp.row (fun _ => True) (rows := rows) fun q hq => by
    obtain ⟨e, he⟩ := zsc m q (hsz q hq) (h6 q hq);exact ⟨e, he, trivial⟩
   exact ⟨.mk x y z s l, by rw [hr, Exp.row_eq]; rfl⟩
theorem zma {r : List U} (h : HasRow Tryz.prog 25 r) : ∃ e : Exp, r = [.int .i64 e.op, .int .i64 e.n, .int .i64 e.unit, .str e.s, .sl (e.args.map Exp.row)] := by
 obtain ⟨e, rfl⟩ := zsc _ r (Nat.le_refl _) h;exact ⟨e, e.row_eq⟩
theorem zt0 {r : List U} (h : HasRow Tryz.prog 39 r) : ∃ l : Let, r = [.str l.name, .int .i64 l.body.op, .int .i64 l.body.n, .int .i64 l.body.unit, .str l.body.s, .sl (l.body.args.map Exp.row)] /\ True := by
 obtain ⟨rs, hr, h⟩ := h.of_struct zxt
 match rs, h with
 | [a, b], h =>
  obtain ⟨h1, h2, _⟩ := h;obtain ⟨x, rfl, _⟩ := h1.of_str (by simp);obtain ⟨e, rfl⟩ := zma h2;exact ⟨⟨x, e⟩, by rw [hr]; rfl, trivial⟩
theorem zsE {u : U} (h : ArgU Tryz.prog 22 u) : ∃ l, u = zaB l := by
 obtain ⟨rows, h1, _, h2⟩ := (h.one (by simp) (by simp)).of_slice zyO;obtain ⟨l, rfl, _⟩ := rows_list (fun l : Let => [.str l.name, .int .i64 l.body.op, .int .i64 l.body.n, .int .i64 l.body.unit, .str l.body.s, .sl (l.body.args.map Exp.row)]) (fun _ => True) fun r hr => zt0 (h2 r hr);exact ⟨l, by simp at h1; exact h1⟩
end Go.Proofs.YtkdhmbhbbciedaaGreatDoor
namespace Go.Proofs.YtkdhmbhbbciedaaGreatDoor
open Go Go.VL
structure Tok where
 kind : Int
 text : List UInt8
 n : Int
 pos : Int
 deriving DecidableEq, Inhabited
def Tok.row (t : Tok) : List U := [.int .i64 t.kind, .str t.text, .int .i64 t.n, .int .i64 t.pos]
def zcW (c : UInt8) : Bool := decide (c.toNat = 32) || decide (c.toNat = 9) || decide (c.toNat = 10)
def zdV (c : UInt8) : Bool := zdM c || zbg c
def zbS (s : List UInt8) : Int := s.foldl (fun n c => 10 * n + ((c.toNat : Int) - 48)) 0
def zgC (s : List UInt8) : Option Int :=
 if s = [] \/ zdn zbg s ≠ s.length \/ (s.head? = some 48 /\ s ≠ [48]) \/ 13 < s.length then none else if 1099511627776 < zbS s then none else some (zbS s)
theorem zex (s : List UInt8) (c : UInt8) : zbS (s ++ [c]) = 10 * zbS s + ((c.toNat : Int) - 48) := by simp [zbS]
theorem zgk : ∀ (n : Nat) (s : List UInt8), s.length = n -> (∀ c ∈ s, zbg c = true) -> 0 <= zbS s /\ zbS s < 10 ^ n
 | 0, s, h, _ => by have := List.eq_nil_of_length_eq_zero h; subst this; simp [zbS]
 | n + 1, s, h, hd => by
  have hne : s ≠ [] := fun e => by rw [e] at h; simp at h
  obtain ⟨t, c, rfl⟩ : ∃ t c, s = t ++ [c] := ⟨s.dropLast, s.getLast hne, (List.dropLast_concat_getLast hne).symm⟩;have h1 := zgk n t (by simpa using h) (fun x hx => hd x (by simp [hx]));have h2 := hd c (by simp);simp only [zbg, Bool.and_eq_true, decide_eq_true_eq] at h2;rw [zex];have : (10 : Int) ^ (n + 1) = 10 * 10 ^ n := by rw [Int.pow_succ]; omega
  omega
end Go.Proofs.YtkdhmbhbbciedaaGreatDoor
namespace Go.Proofs.YtkdhmbhbbciedaaGreatDoor
open Go Go.VL
def signsL : List (List UInt8) := [[61, 61], [59], [44], [61], [60], [43], [45], [42], [47], [40], [41]]
def zil (s : List UInt8) : Except Int Tok := match s with
 | [] => .error 0
 | c :: r => if zdM c = true then
   if zii ((c :: r).take (zdn zdV (c :: r))) = true then .ok ⟨1, (c :: r).take (zdn zdV (c :: r)), 0, 0⟩ else .error 13
  else if zbg c = true then
   match zgC ((c :: r).take (zdn zbg (c :: r))) with | some n => .ok ⟨2, (c :: r).take (zdn zbg (c :: r)), n, 0⟩ | none => .error 3
  else match signsL.find? fun x => x.isPrefixOf (c :: r) with | some x => .ok ⟨3, x, 0, 0⟩ | none => .error 11
def nextD (s : List UInt8) : D := match zil s with | .ok t => .tup [.u (.agg [.int .i64 t.kind, .str t.text, .int .i64 t.n, .int .i64 t.pos]), .u (.int .i64 0)] | .error e => .tup [.u (.agg [.int .i64 0, .str [], .int .i64 0, .int .i64 0]), .u (.int .i64 e)]
end Go.Proofs.YtkdhmbhbbciedaaGreatDoor
namespace Go.Proofs.YtkdhmbhbbciedaaGreatDoor
open Go Go.VL
theorem zbe (l : List Int) : (zi0 l).length = l.length := by simp [zi0]
theorem zbp (l : List Int) (i : Nat) : (zi0 l)[i]? = (l[i]?).map fun z => [D.u (.int .i64 z)] := by simp [zi0]
theorem zhV (l : List Int) (i : Nat) (h : i < (zi0 l).length) : (zi0 l)[i] = [D.u (.int .i64 (l[i]'(by simpa [zi0] using h)))] := by simp [zi0]
theorem zga (l : List Int) (i : Nat) (z : Int) : (zi0 l).set i [D.u (.int .i64 z)] = zi0 (l.set i z) := by simp [zi0, List.map_set]
theorem zq5 (n : Nat) (z : Int) : List.replicate n [D.u (.int .i64 z)] = zi0 (List.replicate n z) := by simp [zi0]
theorem zdR (n : Nat) (l : List Int) : (∀ x ∈ zi0 l, ∀ y ∈ x, D.under n y = true) ↔ True := by simp [zi0, D.under]
end Go.Proofs.YtkdhmbhbbciedaaGreatDoor
namespace Go.Proofs.YtkdhmbhbbciedaaGreatDoor
open Go Go.VL
attribute [local simp] HS za2 zcH zbP evPure opd uOf zaq St.put St.at getK binD binI binS binB nilD aggD ze4 zfg lookD lookR zbM rangeS Go.VL.nextD Go.VL.nextS zbR zfi zfh zeD zb0 mkV zaX zaE zaD zaC zcG zaA zaP za5 mapEff zdm zeo Key.kk shiftI arith unD convD zda loadD cellsAt fieldAddrD fieldD indexAddrD indexSlD arrAddr indexD sliceD cutD lenD minmaxD nilCheckD buildD fillD zbv zcI zec setAll zcA zd1 zbK zeT zbJ St.add zak zbd rowsOf zcU zcb zad zac zaa zaW zcy zaH entry zah zaj valD zbW zcu zeU zcN zcO zbC zbu zag zaM za4 delAll effD St.effS zb6 zaF zat zb7 zaG zav zbq zau zam zbr zb5 za1 zbm zaO zbl zai mkD zbi zbb zbf zag zbT D.ids Op.operands Call.operands zbc makeIfD makeFuncD typeAssertD zff zcX zcY zfb zbN IntKind.bits zcx List.take_of_length_le List.range_succ zcm zbF zcn zch zba zbw zby zci zbA zaU zbz zbx zfO zbE zck zaK zaw zcl zaL zay zbD zax zap zcq zcr zfN zab frzN frz1 zaR zaQ St.frz St.frzS frzS fv zbQ zb2 zb3 zaS zaz zan frz zcd zbU zbY zbZ za6 St.norm St.lp St.only zaY wkE wkO wkU Ob.under D.under zal zar zco zbG zcp h4s zdT zas za7 List.zipIdx_cons List.zipIdx_nil List.map_cons List.map_nil Nat.zero_add
attribute [local irreducible] V G H HD HD2 HD4 zgw RetX za3 Eff CallP CallV EndOK Fun Ret FinOK LoopI LoopW EndW HR vs2 RN Cnd H4
def zf8 (s : List UInt8) : Bool := zii s && !words.contains s
set_option maxRecDepth 100000 in
theorem zjD (s : List UInt8) : Fun Tryz.prog 82 [.u (.str s)] (· = .u (.bool (zf8 s))) := by
 have h1 := zj2 words s;have h2 := zmx s;have h3 := zkz;generalize hw : words.contains s = w at h1;simp only [zos] at h1 h3;generalize (words.map fun s => [U.str s]) = W at h1 h3;unfold zf8;rw [hw];clear hw;generalize zii s = b at h2 ⊢;cases b
 all_goals
  refine Fun.run Tryz.func82 Tryz.ntmps82 Tryz.results82 rfl (by simp) fun Γ hn => ?_
  repeat' (first
  | (refine zaf rfl ?_; simp)
  | ((first | refine CallP.f2 rfl (h1) (by first | simp <;> rfl | fail) ?_ | refine CallP.f2 rfl (h2) (by first | simp <;> rfl | fail) ?_ | refine CallP.f2 rfl (h3) (by first | simp <;> rfl | fail) ?_ | fail); simp)
  | fail)
  (refine Pst.of ?_; simp)
def zbt (op : Int) : Int := if op = 0 \/ op = 1 then 0 else if op = 12 then 1 else if op = 13 then 3 else if op < 0 \/ 14 <= op then -1 else 2
theorem zkP (op : Int) : Fun Tryz.prog 86 [.u (.int .i64 op)] (· = .u (.int .i64 (zbt op))) := by
 unfold zbt;refine Fun.run Tryz.func86 Tryz.ntmps86 Tryz.results86 rfl (by simp) fun Γ hn => ?_
 repeat' (first
  | (refine Cnd.of (fun hc => ?_) (fun hc => ?_) <;> (try (exfalso; omega)) <;> (try simp))
  | (refine zaf rfl ?_; simp)
  | fail)
 all_goals
  (refine Pst.of ?_; simp)
 all_goals (repeat' split) <;> first | rfl | omega | simp_all
theorem zsR : Exp.row = fun e => [.int .i64 e.op, .int .i64 e.n, .int .i64 e.unit, .str e.s, .sl (e.args.map Exp.row)] := funext fun e => e.row_eq
def zcC (e : Exp) : D := .u (.agg [.int .i64 e.op, .int .i64 e.n, .int .i64 e.unit, .str e.s, .sl (e.args.map Exp.row)])
def ztL (l : List Exp) : U := .sl (l.map fun e => [.int .i64 e.op, .int .i64 e.n, .int .i64 e.unit, .str e.s, .sl (e.args.map Exp.row)])
theorem zsO (l : List Exp) : ztL l = .sl (l.map Exp.row) := by rw [ztL, <- zsR]
theorem znY (l : List (Exp)) (f : FuncId) (caps : List U) (p : Exp -> Bool) (hf : ∀ n ∈ l, Fun Tryz.prog f (zcC n :: caps.map .u) (· = .u (.bool (p n)))) (hcl : zae Tryz.prog f = true)
  (hca : ∀ o, zcu o (caps.map .u) = some (caps.map .u, [])) : Fun Tryz.prog 131 [.u (ztL l), .fnc (.func f) (caps.map .u)] (· = .u (.int .i64 (zi3 p l 0))) := by
 refine Fun.run Tryz.func131 Tryz.ntmps131 Tryz.results131 rfl (by simp) fun Γ hn => ?_; simp only [entry, List.zipIdx_cons, List.zipIdx_nil, List.map_cons, List.map_nil, Nat.zero_add];simp only [ztL];refine zie (x := 0) rfl fun hl => ?_;simp at hl
 repeat' (first
  | (refine zaf rfl ?_; simp)
  | fail)
 refine zdh (α := { i : Nat // i <= l.length /\ ∀ c ∈ l.take i, p c = false }) [0, 1, 7] (fun i => [(8, .u (.int .i64 i.1))]) (fun i => l.length - i.1) ⟨0, by omega, by simp⟩ ?_ ?_
 ·exact (Wk.env rfl rfl rfl (by simp [wkE, St.lp, zaY, zaa, getK] <;> (try (intros; simp_all; done)) <;> (try (intros; omega)) <;> (try grind)))
 rintro ⟨i, hi, hb⟩;simp;rcases hx : l[i]? with _ | n
 ·have hge : l.length <= i := by simpa using hx
  repeat' (first
  | (refine Cnd.of (fun hc => ?_) (fun hc => ?_) <;> (try (exfalso; omega)) <;> (try simp [hx]))
  | (refine zaf rfl ?_; simp [hx])
  | fail)
  (refine Pst.of ?_; simp)
  rw [List.take_of_length_le hge] at hb;exact (zgc hb).symm
 ·have hlt : i < l.length := (List.getElem?_eq_some_iff.1 hx).1;have h1 := hf n (List.mem_of_getElem? hx);simp only [zcC] at h1;cases hp : p n
  ·rw [hp] at h1
   repeat' (first
  | (refine Cnd.of (fun hc => ?_) (fun hc => ?_) <;> (try (exfalso; omega)) <;> (try simp [hx, hca]))
  | (refine zaf rfl ?_; simp [hx, hca])
  | (refine And.intro (by omega) ?_)
  | (refine CallP.f2 rfl (h1) (by first | simp [hx, hca] <;> rfl | fail) ?_; simp [hx, hca])
  | fail)
   refine LoopW.next ⟨i + 1, by omega, zca hx hb hp⟩ (by simp; omega) ?_
   exact (Wk.env rfl rfl rfl (by simp [wkE, St.lp, zaY, zaa, getK] <;> (try (intros; simp_all; done)) <;> (try (intros; omega)) <;> (try grind)))
  ·rw [hp] at h1
   repeat' (first
  | (refine Cnd.of (fun hc => ?_) (fun hc => ?_) <;> (try (exfalso; omega)) <;> (try simp [hx, hca]))
  | (refine zaf rfl ?_; simp [hx, hca])
  | (refine And.intro (by omega) ?_)
  | (refine CallP.f2 rfl (h1) (by first | simp [hx, hca] <;> rfl | fail) ?_; simp [hx, hca])
  | fail)
   (refine Pst.of ?_; simp)
   rw [zjK hb hx hp];omega
theorem zj4 (l : List (Exp)) (f : FuncId) (caps : List U) (p : Exp -> Bool) (hf : ∀ n ∈ l, Fun Tryz.prog f (zcC n :: caps.map .u) (· = .u (.bool (p n)))) (hcl : zae Tryz.prog f = true)
  (hca : ∀ o, zcu o (caps.map .u) = some (caps.map .u, [])) (hcb : ∀ o, zbu o (caps.map .u) = some (caps, [])) : Fun Tryz.prog 87 [.u (ztL l), .fnc (.func f) (caps.map .u)] (· = .u (.bool (l.any p))) := by
 have h1 := znY l f caps p hf hcl hca;refine Fun.run Tryz.func87 Tryz.ntmps87 Tryz.results87 rfl (by simp) fun Γ hn => ?_; simp only [entry, List.zipIdx_cons, List.zipIdx_nil, List.map_cons, List.map_nil, Nat.zero_add];simp only [ztL] at h1 ⊢
 repeat' (first
  | (refine zaf rfl ?_; simp [hcb])
  | (refine CallP.f2 rfl (h1) (by first | simp [hcb] <;> rfl | fail) ?_; simp [hcb])
  | fail)
 (refine Pst.of ?_; simp)
 have h2 := zjL p l 0 (by omega);rw [Bool.eq_iff_iff];simpa using h2
def zuL (e : Exp) : Bool := decide (e.s = []) && decide (0 <= e.unit) && decide (e.unit < 5) && decide (0 <= e.n) && decide (e.n <= if e.unit = 0 then 1 else 1099511627776)
def za0 : Nat -> Exp -> Bool
 | 0, _ => false
 | d + 1, e => decide ((e.args.length : Int) = zbt e.op) && (if e.op = 0 then zuL e else if e.n ≠ 0 \/ e.unit ≠ 0 then false else if e.op = 1 then zf8 e.s else decide (e.s = []) && !e.args.any (fun x => !za0 d x))
set_option maxRecDepth 100000 in
set_option maxHeartbeats 4000000 in
theorem zkv : ∀ (d : Nat) (e : Exp), (d : Int) <= 100 -> Fun Tryz.prog 55 [zcC e, .u (.int .i64 d)] (· = .u (.bool (za0 d e)))
 | 0, e, _ => by
  refine Fun.run Tryz.func55 Tryz.ntmps55 Tryz.results55 rfl (by simp) fun Γ hn => ?_; simp only [entry, List.zipIdx_cons, List.zipIdx_nil, List.map_cons, List.map_nil, Nat.zero_add];simp only [zcC]
  repeat' (first
  | (refine zaf rfl ?_; simp)
  | (refine ⟨hC _ (by kernel_rfl), hk _ (zdb 8 _ _ _ ?_)⟩; clear hC hk C k; simp)
  | (refine zdX rfl (by kernel_rfl) (by first | (simp [hn]; done) | (simp [hn]; omega) | fail) fun C k hC hk => ?_; simp)
  | fail)
  (refine Pst.of ?_; simp)
  rfl
 | d + 1, e, hd => by
  have hr : ∀ x : Exp, Fun Tryz.prog 88 (zcC x :: [U.row [.int .i64 ((d + 1 : Nat) : Int)] 0].map .u) (· = .u (.bool (!za0 d x))) := fun x => by
   have h1 := zkv d x (by omega);refine Fun.run Tryz.func88 Tryz.ntmps88 Tryz.results88 rfl (by simp) fun Γ hn => ?_; simp only [entry, List.zipIdx_cons, List.zipIdx_nil, List.map_cons, List.map_nil, Nat.zero_add];simp only [zcC] at h1 ⊢
   repeat' (first
  | (refine zaf rfl ?_; simp)
  | (refine And.intro (by omega) ?_)
  | (refine CallP.f2 rfl (h1) (by first | simp <;> rfl | fail) ?_; simp)
  | fail)
   (refine Pst.of ?_; simp)
  have hcon := zj4 e.args 88 [U.row [.int .i64 ((d + 1 : Nat) : Int)] 0] (fun x => !za0 d x) (fun x _ => hr x) (by simp) (fun _ => rfl) (fun _ => rfl);have hnam := zjD e.s;have hopr := zkP e.op;simp only [List.map_cons, List.map_nil] at hcon;rw [za0];unfold zuL;generalize (e.args.any fun x => !za0 d x) = z at hcon ⊢;generalize zf8 e.s = nm at hnam ⊢;generalize hop : zbt e.op = oi at hopr ⊢;refine Fun.run Tryz.func55 Tryz.ntmps55 Tryz.results55 rfl (by simp) fun Γ hn => ?_; simp only [entry, List.zipIdx_cons, List.zipIdx_nil, List.map_cons, List.map_nil, Nat.zero_add];rw [zsO] at hcon;simp only [zcC];by_cases hlen : (e.args.length : Int) = oi
  case neg =>
   repeat' (first
  | (refine Cnd.of (fun hc => ?_) (fun hc => ?_) <;> (try (exfalso; omega)) <;> (try simp [hlen]))
  | (refine zaf rfl ?_; simp [hlen])
  | (refine ⟨hC _ (by kernel_rfl), hk _ (zdb 8 _ _ _ ?_)⟩; clear hC hk C k; simp [hlen])
  | (refine zdX rfl (by kernel_rfl) (by first | (simp [hn]; done) | (simp [hn]; omega) | fail) fun C k hC hk => ?_; simp [hlen])
  | (refine zb9 rfl ?_; simp [hlen])
  | (refine zbs rfl ?_; simp [hlen])
  | (refine CallV.f2 rfl (hopr) (by first | simp [hlen] <;> rfl | fail) ?_; simp [hlen])
  | fail)
   (refine Pst.of ?_; simp)
   try (simp_all; done)
  by_cases h0 : e.op = 0
  case pos =>
   by_cases hu : e.unit = 0
   all_goals
    repeat' (first
  | (refine Cnd.of (fun hc => ?_) (fun hc => ?_) <;> (try (exfalso; omega)) <;> (try simp [hlen, h0, hu]))
  | (refine zaf rfl ?_; simp [hlen, h0, hu])
  | (refine ⟨hC _ (by kernel_rfl), hk _ (zdb 8 _ _ _ ?_)⟩; clear hC hk C k; simp [hlen, h0, hu])
  | (refine zdX rfl (by kernel_rfl) (by first | (simp [hn]; done) | (simp [hn]; omega) | fail) fun C k hC hk => ?_; simp [hlen, h0, hu])
  | (refine zb9 rfl ?_; simp [hlen, h0, hu])
  | (refine zbs rfl ?_; simp [hlen, h0, hu])
  | (refine CallV.f2 rfl (hopr) (by first | simp [hlen, h0, hu] <;> rfl | fail) ?_; simp [hlen, h0, hu])
  | fail)
    all_goals
     (refine Pst.of ?_; simp)
   all_goals clear hr hopr hcon hnam
   all_goals grind
  by_cases hnu : e.n ≠ 0 \/ e.unit ≠ 0
  case pos =>
   repeat' (first
  | (refine Cnd.of (fun hc => ?_) (fun hc => ?_) <;> (try (exfalso; omega)) <;> (try simp [hlen, h0]))
  | (refine zaf rfl ?_; simp [hlen, h0])
  | (refine ⟨hC _ (by kernel_rfl), hk _ (zdb 8 _ _ _ ?_)⟩; clear hC hk C k; simp [hlen, h0])
  | (refine zdX rfl (by kernel_rfl) (by first | (simp [hn]; done) | (simp [hn]; omega) | fail) fun C k hC hk => ?_; simp [hlen, h0])
  | (refine zb9 rfl ?_; simp [hlen, h0])
  | (refine zbs rfl ?_; simp [hlen, h0])
  | (refine CallV.f2 rfl (hopr) (by first | simp [hlen, h0] <;> rfl | fail) ?_; simp [hlen, h0])
  | fail)
   all_goals
    (refine Pst.of ?_; simp)
   all_goals clear hr hopr hcon hnam
   all_goals grind
  by_cases h1 : e.op = 1
  case pos =>
   repeat' (first
  | (refine Cnd.of (fun hc => ?_) (fun hc => ?_) <;> (try (exfalso; omega)) <;> (try simp [hlen, h0, h1]))
  | (refine zaf rfl ?_; simp [hlen, h0, h1])
  | (refine ⟨hC _ (by kernel_rfl), hk _ (zdb 8 _ _ _ ?_)⟩; clear hC hk C k; simp [hlen, h0, h1])
  | (refine zdX rfl (by kernel_rfl) (by first | (simp [hn]; done) | (simp [hn]; omega) | fail) fun C k hC hk => ?_; simp [hlen, h0, h1])
  | (refine zb9 rfl ?_; simp [hlen, h0, h1])
  | (refine zbs rfl ?_; simp [hlen, h0, h1])
  | ((first | refine CallP.f2 rfl (hopr) (by first | simp [hlen, h0, h1] <;> rfl | fail) ?_ | refine CallP.f2 rfl (hnam) (by first | simp [hlen, h0, h1] <;> rfl | fail) ?_ | fail); simp [hlen, h0, h1])
  | ((first | refine CallV.f2 rfl (hopr) (by first | simp [hlen, h0, h1] <;> rfl | fail) ?_ | refine CallV.f2 rfl (hnam) (by first | simp [hlen, h0, h1] <;> rfl | fail) ?_ | fail); simp [hlen, h0, h1])
  | fail)
   all_goals
    (refine Pst.of ?_; simp)
   all_goals clear hr hopr hcon hnam
   all_goals grind
  by_cases hs : e.s = []
  all_goals
   repeat' (first
  | (refine Cnd.of (fun hc => ?_) (fun hc => ?_) <;> (try (exfalso; omega)) <;> (try simp [hlen, h0, h1, hs]))
  | (refine zaf rfl ?_; simp [hlen, h0, h1, hs])
  | (refine ⟨hC _ (by kernel_rfl), hk _ (zdb 8 _ _ _ ?_)⟩; clear hC hk C k; simp [hlen, h0, h1, hs])
  | (refine zdX rfl (by kernel_rfl) (by first | (simp [hn]; done) | (simp [hn]; omega) | fail) fun C k hC hk => ?_; simp [hlen, h0, h1, hs])
  | (refine zb9 rfl ?_; simp [hlen, h0, h1, hs])
  | (refine zbs rfl ?_; simp [hlen, h0, h1, hs])
  | ((first | refine CallP.f2 rfl (hopr) (by first | simp [hlen, h0, h1, hs] <;> rfl | fail) ?_ | refine CallP.f2 rfl (hnam) (by first | simp [hlen, h0, h1, hs] <;> rfl | fail) ?_ | refine CallP.f2 rfl (hcon) (by first | simp [hlen, h0, h1, hs] <;> rfl | fail) ?_ | fail); simp [hlen, h0, h1, hs])
  | ((first | refine CallV.f2 rfl (hopr) (by first | simp [hlen, h0, h1, hs] <;> rfl | fail) ?_ | refine CallV.f2 rfl (hnam) (by first | simp [hlen, h0, h1, hs] <;> rfl | fail) ?_ | refine CallV.f2 rfl (hcon) (by first | simp [hlen, h0, h1, hs] <;> rfl | fail) ?_ | fail); simp [hlen, h0, h1, hs])
  | fail)
   all_goals
    (refine Pst.of ?_; simp)
  all_goals clear hr hopr hcon hnam
  all_goals grind
theorem zeq (e : Exp) : Fun Tryz.prog 22 [zcC e] (· = .u (.bool (za0 12 e))) := by
 have h1 := zkv 12 e (by omega);refine Fun.run Tryz.func22 Tryz.ntmps22 Tryz.results22 rfl (by simp) fun Γ hn => ?_; simp only [entry, List.zipIdx_cons, List.zipIdx_nil, List.map_cons, List.map_nil, Nat.zero_add];simp only [zcC] at h1 ⊢
 repeat' (first
  | (refine zaf rfl ?_; simp)
  | (refine CallP.f2 rfl (h1) (by first | simp <;> rfl | fail) ?_; simp)
  | fail)
 (refine Pst.of ?_; simp)
end Go.Proofs.YtkdhmbhbbciedaaGreatDoor
namespace Go.Proofs.YtkdhmbhbbciedaaGreatDoor
open Go Go.VL
attribute [local simp] za2 zcH zbP evPure opd uOf zaq St.put St.at getK binD binI binS binB nilD aggD ze4 zfg lookD lookR zbM rangeS Go.VL.nextD Go.VL.nextS zbR zfi zfh zeD zb0 mkV zaX zaE zaD zaC zcG zaA zaP za5 mapEff zdm zeo Key.kk shiftI arith unD convD zda loadD cellsAt fieldAddrD fieldD indexAddrD indexSlD arrAddr indexD sliceD cutD lenD minmaxD nilCheckD buildD fillD zbv zcI zec setAll zcA zd1 zbK zeT zbJ St.add zak zbd rowsOf zcU zcb zad zac zaa zaW zcy zaH entry zah zaj valD zbW zcu zeU zcN zcO zbC zbu zag zaM za4 delAll effD St.effS zb6 zaF zat zb7 zaG zav zbq zau zam zbr zb5 za1 zbm zaO zbl zai mkD zbi zbb zbf zag zbT D.ids Op.operands Call.operands zbc makeIfD makeFuncD typeAssertD zff zcX zcY zfb zbN IntKind.bits zcx List.take_of_length_le List.range_succ zcm zbF zcn zch zba zbw zby zci zbA zaU zbz zbx zfO zbE zck zaK zaw zcl zaL zay zbD zax zap zcq zcr zfN zab frzN frz1 zaR zaQ St.frz St.frzS frzS fv zbQ zb2 zb3 zaS zaz zan frz zcd zbU zbY zbZ za6 St.norm St.lp St.only zaY wkE wkO wkU Ob.under D.under zal zar zco zbG zcp h4s zdT zas za7 List.zipIdx_cons List.zipIdx_nil List.map_cons List.map_nil Nat.zero_add
attribute [local irreducible] V G H HD HD2 za3 Eff CallP CallV EndOK Fun Ret FinOK LoopI LoopW EndW HR vs2 RN Cnd H4
theorem zoa (u n : Int) : Fun Tryz.prog 162 (zt4 u :: [U.row [.int .i64 n] 0].map .u) (· = .u (.bool (decide (u ≠ n)))) := by
 simp only [zt4, List.map_cons, List.map_nil];refine Fun.run Tryz.func162 Tryz.ntmps162 Tryz.results162 rfl (by simp) fun Γ hn => ?_
 repeat' (first
  | (refine zaf rfl ?_; simp)
  | fail)
 (refine Pst.of ?_; simp)
def zik (u : Int) (l : List Int) : Bool := !l.any fun n => decide (n ≠ u)
theorem zh8 (u : Int) (l : List Int) : Fun Tryz.prog 161 [.u (.int .i64 u), .u (.row [zou l] 0)] (· = .u (.bool (zik u l))) := by
 have h1 := zj3 l 162 [U.row [.int .i64 u] 0] _ (fun n _ => zoa n u) (by simp) (fun _ => rfl) (fun _ => rfl);simp only [List.map_cons, List.map_nil] at h1;unfold zik;refine Fun.run Tryz.func161 Tryz.ntmps161 Tryz.results161 rfl (by simp) fun Γ hn => ?_; simp only [entry, List.zipIdx_cons, List.zipIdx_nil, List.map_cons, List.map_nil, Nat.zero_add];simp only [zou] at h1 ⊢
 repeat' (first
  | (refine zaf rfl ?_; simp)
  | (refine CallP.f2 rfl (h1) (by first | simp <;> rfl | fail) ?_; simp)
  | fail)
 (refine Pst.of ?_; simp)
def zoR (a b : Int) : Int × Bool := if a = 0 \/ b = 0 then (0, false) else if a = 4 then (b, true) else if b = 4 then (a, true) else if a = 1 then (b, true) else if b = 1 then (a, true) else (0, false)
theorem zqE (a b : Int) : Fun Tryz.prog 163 [.u (.int .i64 a), .u (.int .i64 b)] (· = .tup [.u (.int .i64 (zoR a b).1), .u (.bool (zoR a b).2)]) := by
 refine Fun.run Tryz.func163 Tryz.ntmps163 Tryz.results163 rfl (by simp) fun Γ hn => ?_; simp only [entry, List.zipIdx_cons, List.zipIdx_nil, List.map_cons, List.map_nil, Nat.zero_add];unfold zoR
 repeat' (first
  | (refine Cnd.of (fun hc => ?_) (fun hc => ?_) <;> (try (exfalso; omega)) <;> (try simp [zaj, zah]))
  | (refine zaf rfl ?_; simp [zaj, zah])
  | fail)
 all_goals try ((refine Pst.of ?_; simp); simp_all; done)
 all_goals
  refine zdh (α := { i : Nat // i <= 2 /\ (1 <= i -> a ≠ 4 /\ b ≠ 4) /\ (2 <= i -> a ≠ 1 /\ b ≠ 1) }) [0, 1, 14, 15] (fun i => [(16, .u (.int .i64 i.1))]) (fun i => 2 - i.1) ⟨0, by omega, by omega, by omega⟩ ?_ ?_
  ·exact (Wk.zem (by simp [hn] <;> grind))
  rintro ⟨i, hi, h1, h2⟩;simp;have : i = 0 \/ i = 1 \/ i = 2 := by omega
  rcases this with rfl | rfl | rfl
  ·repeat' (first
  | (refine Cnd.of (fun hc => ?_) (fun hc => ?_) <;> (try (exfalso; omega)) <;> (try simp))
  | (refine zaf rfl ?_; simp)
  | fail)
   ·(refine Pst.of ?_; simp)
    simp_all
   ·(refine Pst.of ?_; simp)
    simp_all
   ·refine LoopW.next ⟨1, by omega, by omega, by omega⟩ (by simp) ?_
    exact (Wk.zem (by simp [hn] <;> grind))
  ·repeat' (first
  | (refine Cnd.of (fun hc => ?_) (fun hc => ?_) <;> (try (exfalso; omega)) <;> (try simp))
  | (refine zaf rfl ?_; simp)
  | fail)
   ·(refine Pst.of ?_; simp)
    simp_all
   ·(refine Pst.of ?_; simp)
    simp_all
   ·refine LoopW.next ⟨2, by omega, by omega, by omega⟩ (by simp) ?_
    exact (Wk.zem (by simp [hn] <;> grind))
  ·repeat' (first
  | (refine zaf rfl ?_; simp)
  | fail)
   (refine Pst.of ?_; simp)
   simp_all
def l0 (l : List Int) (i : Nat) : Int := l.getD i 0
def zit (op : Int) (l : List Int) : Int × Bool :=
 if op = 2 \/ op = 3 \/ op = 6 \/ op = 7 then (l0 l 0, zik (l0 l 0) l && decide (l0 l 0 ≠ 0))
 else if op = 4 then zoR (l0 l 0) (l0 l 1)
 else if op = 5 then (if l0 l 1 = 1 then (l0 l 0, decide (l0 l 0 ≠ 0) && decide (l0 l 0 ≠ 4)) else (1, zik (l0 l 0) l && (decide (l0 l 0 = 3) || decide (l0 l 0 = 2))))
 else if op = 8 then (0, zik (l0 l 0) l && decide (l0 l 0 ≠ 0))
 else if op = 9 then (0, zik (l0 l 0) l)
 else if op = 13 then (l0 l 1, decide (l0 l 0 = 0) && decide (l0 l 1 = l0 l 2))
 else (0, zik 0 l)
theorem zyp {l : List Int} (h : (l.length : Int) = 1) : ∃ a, l = [a] := List.length_eq_one_iff.1 (by omega)
theorem zyo {l : List Int} (h : (l.length : Int) = 2) : ∃ a b, l = [a, b] := by
 match l, h with
 | [], h => simp at h
 | [a], h => simp at h
 | [a, b], _ => exact ⟨a, b, rfl⟩
 | a :: b :: c :: l, h => simp at h; omega
theorem zyn {l : List Int} (h : (l.length : Int) = 3) : ∃ a b c, l = [a, b, c] := by
 match l, h with
 | [], h => simp at h
 | [a], h => simp at h
 | [a, b], h => simp at h
 | [a, b, c], _ => exact ⟨a, b, c, rfl⟩
 | a :: b :: c :: d :: l, h => simp at h; omega
theorem zrj (op : Int) (l : List Int) (hop : 2 <= op /\ op < 14) (hl : (l.length : Int) = zbt op) : Fun Tryz.prog 134 [.u (.int .i64 op), .u (zou l)] (· = .tup [.u (.int .i64 (zit op l).1), .u (.bool (zit op l).2)]) := by
 have h12 : op = 12 \/ op = 13 \/ op = 2 \/ op = 3 \/ op = 4 \/ op = 5 \/ op = 6 \/ op = 7 \/ op = 8 \/ op = 9 \/ op = 10 \/ op = 11 := by omega
 rcases h12 with rfl | rfl | h12
 ·obtain ⟨a, rfl⟩ := zyp (hl.trans rfl);have h1 := zh8 0 [a];simp only [zit, l0];generalize zik 0 [a] = o1 at h1 ⊢;refine Fun.run Tryz.func134 Tryz.ntmps134 Tryz.results134 rfl (by simp) fun Γ hn => ?_; simp only [entry, List.zipIdx_cons, List.zipIdx_nil, List.map_cons, List.map_nil, Nat.zero_add];simp only [zou, List.map_cons, List.map_nil] at h1 ⊢
  repeat' (first
  | (refine zaf rfl ?_; simp)
  | (refine CallP.f2 rfl (h1) (by first | simp <;> rfl | fail) ?_; simp)
  | fail)
  all_goals
   (refine Pst.of ?_; simp)
 ·obtain ⟨a, b, c, rfl⟩ := zyn (hl.trans rfl);simp only [zit, l0];refine Fun.run Tryz.func134 Tryz.ntmps134 Tryz.results134 rfl (by simp) fun Γ hn => ?_; simp only [entry, List.zipIdx_cons, List.zipIdx_nil, List.map_cons, List.map_nil, Nat.zero_add];simp only [zou, List.map_cons, List.map_nil]
  repeat' (first
  | (refine Cnd.of (fun hc => ?_) (fun hc => ?_) <;> (try (exfalso; omega)) <;> (try simp))
  | (refine zaf rfl ?_; simp)
  | (refine ⟨hC _ (by kernel_rfl), hk _ (zdb 8 _ _ _ ?_)⟩; clear hC hk C k; simp)
  | (refine zdX rfl (by kernel_rfl) (by first | (simp [hn]; done) | (simp [hn]; omega) | fail) fun C k hC hk => ?_; simp)
  | fail)
  all_goals
   (refine Pst.of ?_; simp)
  all_goals (simp_all; done)
 ·obtain ⟨a, b, rfl⟩ := zyo (l := l) (by rw [hl]; rcases h12 with rfl | rfl | rfl | rfl | rfl | rfl | rfl | rfl | rfl | rfl <;> rfl);clear hl hop;have h1 := zh8 a [a, b];have h2 := zh8 0 [a, b];have h3 := zqE a b;have e0 : l0 [a, b] 0 = a := rfl;have e1 : l0 [a, b] 1 = b := rfl;unfold zit;rw [e0, e1];clear e0 e1;generalize zik a [a, b] = o1 at h1 ⊢;generalize zik 0 [a, b] = o2 at h2 ⊢;generalize zoR a b = p at h3 ⊢;simp only [zou, List.map_cons, List.map_nil] at h1 h2 ⊢;rcases h12 with rfl | rfl | rfl | rfl | rfl | rfl | rfl | rfl | rfl | rfl
  all_goals
   refine Fun.run Tryz.func134 Tryz.ntmps134 Tryz.results134 rfl (by simp) fun Γ hn => ?_
   repeat' (first
  | (refine Cnd.of (fun hc => ?_) (fun hc => ?_) <;> (try (exfalso; omega)) <;> (try simp))
  | (refine zaf rfl ?_; simp)
  | (refine ⟨hC _ (by kernel_rfl), hk _ (zdb 8 _ _ _ ?_)⟩; clear hC hk C k; simp)
  | (refine zdX rfl (by kernel_rfl) (by first | (simp [hn]; done) | (simp [hn]; omega) | fail) fun C k hC hk => ?_; simp)
  | (refine zb9 rfl ?_; simp)
  | (refine zcg rfl ?_; simp)
  | ((first | refine CallP.f2 rfl (h1) (by first | simp <;> rfl | fail) ?_ | refine CallP.f2 rfl (h2) (by first | simp <;> rfl | fail) ?_ | refine CallP.f2 rfl (h3) (by first | simp <;> rfl | fail) ?_ | fail); simp)
  | ((first | refine CallV.f2 rfl (h1) (by first | simp <;> rfl | fail) ?_ | refine CallV.f2 rfl (h2) (by first | simp <;> rfl | fail) ?_ | refine CallV.f2 rfl (h3) (by first | simp <;> rfl | fail) ?_ | fail); simp)
  | fail)
   all_goals
    (refine Pst.of ?_; simp)
   all_goals (clear h1 h2 h3; first | (simp_all; done) | (grind) | skip)
end Go.Proofs.YtkdhmbhbbciedaaGreatDoor
