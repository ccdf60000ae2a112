/- Closed facts on the types and functions of this translation, printed by a program. -/
import Derived.Test.YtdkadmchdocjbaaRows
import Derived.Test.YtdkadmchdocjbaaVLz
set_option linter.all false
namespace Go.Proofs.Ytdkadmchdocjbaa
open Go Go.VL
@[simp] theorem ld1 : ldSz Try.prog 1 = some none := by kernel_rfl
@[simp] theorem ts1 : tsz Try.prog 1 = some 1 := by kernel_rfl
@[simp] theorem un1 : (Try.prog.underlying 1).isSome = true := by kernel_rfl
@[simp] theorem na1 : notArr Try.prog 1 = true := by kernel_rfl
@[simp] theorem sf1 : stT Try.prog 1 = none := by kernel_rfl
@[simp] theorem st1 : isStr Try.prog 1 = false := by kernel_rfl
@[simp] theorem zc1 : zeroC Try.prog 1 = some [.nilFunc] := by kernel_rfl
@[simp] theorem sl1 : isSl Try.prog 1 = false := by kernel_rfl
@[simp] theorem ld2 : ldSz Try.prog 2 = some none := by kernel_rfl
@[simp] theorem ts2 : tsz Try.prog 2 = some 1 := by kernel_rfl
@[simp] theorem un2 : (Try.prog.underlying 2).isSome = true := by kernel_rfl
@[simp] theorem na2 : notArr Try.prog 2 = true := by kernel_rfl
@[simp] theorem sf2 : stT Try.prog 2 = none := by kernel_rfl
@[simp] theorem st2 : isStr Try.prog 2 = false := by kernel_rfl
@[simp] theorem io2 : intOfT Try.prog 2 = some .i64 := by kernel_rfl
@[simp] theorem zc2 : zeroC Try.prog 2 = some [.int .i64 0] := by kernel_rfl
@[simp] theorem sl2 : isSl Try.prog 2 = false := by kernel_rfl
@[simp] theorem ld3 : ldSz Try.prog 3 = some none := by kernel_rfl
@[simp] theorem ts3 : tsz Try.prog 3 = some 1 := by kernel_rfl
@[simp] theorem un3 : (Try.prog.underlying 3).isSome = true := by kernel_rfl
@[simp] theorem na3 : notArr Try.prog 3 = true := by kernel_rfl
@[simp] theorem sf3 : stT Try.prog 3 = none := by kernel_rfl
@[simp] theorem st3 : isStr Try.prog 3 = false := by kernel_rfl
@[simp] theorem io3 : intOfT Try.prog 3 = some .i64 := by kernel_rfl
@[simp] theorem zc3 : zeroC Try.prog 3 = some [.int .i64 0] := by kernel_rfl
@[simp] theorem sl3 : isSl Try.prog 3 = false := by kernel_rfl
@[simp] theorem ld4 : ldSz Try.prog 4 = some none := by kernel_rfl
@[simp] theorem ts4 : tsz Try.prog 4 = some 1 := by kernel_rfl
@[simp] theorem un4 : (Try.prog.underlying 4).isSome = true := by kernel_rfl
@[simp] theorem na4 : notArr Try.prog 4 = true := by kernel_rfl
@[simp] theorem sf4 : stT Try.prog 4 = none := by kernel_rfl
@[simp] theorem st4 : isStr Try.prog 4 = false := by kernel_rfl
@[simp] theorem ub4 : Try.prog.underlying 4 = some .bool := by kernel_rfl
@[simp] theorem zc4 : zeroC Try.prog 4 = some [.bool false] := by kernel_rfl
@[simp] theorem sl4 : isSl Try.prog 4 = false := by kernel_rfl
@[simp] theorem ld5 : ldSz Try.prog 5 = some none := by kernel_rfl
@[simp] theorem ts5 : tsz Try.prog 5 = some 1 := by kernel_rfl
@[simp] theorem un5 : (Try.prog.underlying 5).isSome = true := by kernel_rfl
@[simp] theorem na5 : notArr Try.prog 5 = true := by kernel_rfl
@[simp] theorem sf5 : stT Try.prog 5 = none := by kernel_rfl
@[simp] theorem st5 : isStr Try.prog 5 = false := by kernel_rfl
@[simp] theorem io5 : intOfT Try.prog 5 = some .u8 := by kernel_rfl
@[simp] theorem zc5 : zeroC Try.prog 5 = some [.int .u8 0] := by kernel_rfl
@[simp] theorem sl5 : isSl Try.prog 5 = false := by kernel_rfl
@[simp] theorem ld6 : ldSz Try.prog 6 = some none := by kernel_rfl
@[simp] theorem ts6 : tsz Try.prog 6 = some 1 := by kernel_rfl
@[simp] theorem un6 : (Try.prog.underlying 6).isSome = true := by kernel_rfl
@[simp] theorem na6 : notArr Try.prog 6 = true := by kernel_rfl
@[simp] theorem sf6 : stT Try.prog 6 = none := by kernel_rfl
@[simp] theorem st6 : isStr Try.prog 6 = false := by kernel_rfl
@[simp] theorem io6 : intOfT Try.prog 6 = some .u8 := by kernel_rfl
@[simp] theorem zc6 : zeroC Try.prog 6 = some [.int .u8 0] := by kernel_rfl
@[simp] theorem sl6 : isSl Try.prog 6 = false := by kernel_rfl
@[simp] theorem ld7 : ldSz Try.prog 7 = some (some 4) := by kernel_rfl
@[simp] theorem ts7 : tsz Try.prog 7 = some 4 := by kernel_rfl
@[simp] theorem un7 : (Try.prog.underlying 7).isSome = true := by kernel_rfl
@[simp] theorem na7 : notArr Try.prog 7 = true := by kernel_rfl
@[simp] theorem sf7 : stT Try.prog 7 = some [2, 3, 4, 6] := by kernel_rfl
@[simp] theorem st7 : isStr Try.prog 7 = false := by kernel_rfl
@[simp] theorem ni7 : notIf Try.prog 7 = true := by kernel_rfl
@[simp] theorem zc7 : zeroC Try.prog 7 = some [.int .i64 0, .int .i64 0, .bool false, .int .u8 0] := by kernel_rfl
@[simp] theorem sl7 : isSl Try.prog 7 = false := by kernel_rfl
@[simp] theorem fl7_0 : fldAt Try.prog 7 0 = some (0, 1, none) := by kernel_rfl
@[simp] theorem fl7_1 : fldAt Try.prog 7 1 = some (1, 1, none) := by kernel_rfl
@[simp] theorem fl7_2 : fldAt Try.prog 7 2 = some (2, 1, none) := by kernel_rfl
@[simp] theorem fl7_3 : fldAt Try.prog 7 3 = some (3, 1, none) := by kernel_rfl
@[simp] theorem zp7 : zp Try.prog 7 = some ([.int .i64 0, .int .i64 0, .bool false, .int .u8 0], [(0, 1), (1, 1), (2, 1), (3, 1)]) := by kernel_rfl
@[simp] theorem ld8 : ldSz Try.prog 8 = some (some 4) := by kernel_rfl
@[simp] theorem ts8 : tsz Try.prog 8 = some 4 := by kernel_rfl
@[simp] theorem un8 : (Try.prog.underlying 8).isSome = true := by kernel_rfl
@[simp] theorem na8 : notArr Try.prog 8 = true := by kernel_rfl
@[simp] theorem sf8 : stT Try.prog 8 = some [2, 3, 4, 6] := by kernel_rfl
@[simp] theorem st8 : isStr Try.prog 8 = false := by kernel_rfl
@[simp] theorem ni8 : notIf Try.prog 8 = true := by kernel_rfl
@[simp] theorem zc8 : zeroC Try.prog 8 = some [.int .i64 0, .int .i64 0, .bool false, .int .u8 0] := by kernel_rfl
@[simp] theorem sl8 : isSl Try.prog 8 = false := by kernel_rfl
@[simp] theorem fl8_0 : fldAt Try.prog 8 0 = some (0, 1, none) := by kernel_rfl
@[simp] theorem fl8_1 : fldAt Try.prog 8 1 = some (1, 1, none) := by kernel_rfl
@[simp] theorem fl8_2 : fldAt Try.prog 8 2 = some (2, 1, none) := by kernel_rfl
@[simp] theorem fl8_3 : fldAt Try.prog 8 3 = some (3, 1, none) := by kernel_rfl
@[simp] theorem zp8 : zp Try.prog 8 = some ([.int .i64 0, .int .i64 0, .bool false, .int .u8 0], [(0, 1), (1, 1), (2, 1), (3, 1)]) := by kernel_rfl
@[simp] theorem ld9 : ldSz Try.prog 9 = some none := by kernel_rfl
@[simp] theorem ts9 : tsz Try.prog 9 = some 1 := by kernel_rfl
@[simp] theorem un9 : (Try.prog.underlying 9).isSome = true := by kernel_rfl
@[simp] theorem na9 : notArr Try.prog 9 = true := by kernel_rfl
@[simp] theorem sf9 : stT Try.prog 9 = none := by kernel_rfl
@[simp] theorem st9 : isStr Try.prog 9 = true := by kernel_rfl
@[simp] theorem zc9 : zeroC Try.prog 9 = some [.string ⟨#[]⟩] := by kernel_rfl
@[simp] theorem sl9 : isSl Try.prog 9 = false := by kernel_rfl
@[simp] theorem ld10 : ldSz Try.prog 10 = some none := by kernel_rfl
@[simp] theorem ts10 : tsz Try.prog 10 = some 1 := by kernel_rfl
@[simp] theorem un10 : (Try.prog.underlying 10).isSome = true := by kernel_rfl
@[simp] theorem na10 : notArr Try.prog 10 = true := by kernel_rfl
@[simp] theorem sf10 : stT Try.prog 10 = none := by kernel_rfl
@[simp] theorem st10 : isStr Try.prog 10 = true := by kernel_rfl
@[simp] theorem zc10 : zeroC Try.prog 10 = some [.string ⟨#[]⟩] := by kernel_rfl
@[simp] theorem sl10 : isSl Try.prog 10 = false := by kernel_rfl
@[simp] theorem ld11 : ldSz Try.prog 11 = some none := by kernel_rfl
@[simp] theorem ts11 : tsz Try.prog 11 = some 1 := by kernel_rfl
@[simp] theorem un11 : (Try.prog.underlying 11).isSome = true := by kernel_rfl
@[simp] theorem na11 : notArr Try.prog 11 = true := by kernel_rfl
@[simp] theorem sf11 : stT Try.prog 11 = none := by kernel_rfl
@[simp] theorem st11 : isStr Try.prog 11 = true := by kernel_rfl
@[simp] theorem zc11 : zeroC Try.prog 11 = some [.string ⟨#[]⟩] := by kernel_rfl
@[simp] theorem sl11 : isSl Try.prog 11 = false := by kernel_rfl
@[simp] theorem ld12 : ldSz Try.prog 12 = some none := by kernel_rfl
@[simp] theorem ts12 : tsz Try.prog 12 = some 1 := by kernel_rfl
@[simp] theorem un12 : (Try.prog.underlying 12).isSome = true := by kernel_rfl
@[simp] theorem na12 : notArr Try.prog 12 = true := by kernel_rfl
@[simp] theorem sf12 : stT Try.prog 12 = none := by kernel_rfl
@[simp] theorem st12 : isStr Try.prog 12 = false := by kernel_rfl
@[simp] theorem io12 : intOfT Try.prog 12 = some .u64 := by kernel_rfl
@[simp] theorem zc12 : zeroC Try.prog 12 = some [.int .u64 0] := by kernel_rfl
@[simp] theorem sl12 : isSl Try.prog 12 = false := by kernel_rfl
@[simp] theorem ld13 : ldSz Try.prog 13 = some (some 2) := by kernel_rfl
@[simp] theorem ts13 : tsz Try.prog 13 = some 2 := by kernel_rfl
@[simp] theorem un13 : (Try.prog.underlying 13).isSome = true := by kernel_rfl
@[simp] theorem na13 : notArr Try.prog 13 = true := by kernel_rfl
@[simp] theorem sf13 : stT Try.prog 13 = some [9, 12] := by kernel_rfl
@[simp] theorem st13 : isStr Try.prog 13 = false := by kernel_rfl
@[simp] theorem ni13 : notIf Try.prog 13 = true := by kernel_rfl
@[simp] theorem zc13 : zeroC Try.prog 13 = some [.string ⟨#[]⟩, .int .u64 0] := by kernel_rfl
@[simp] theorem sl13 : isSl Try.prog 13 = false := by kernel_rfl
@[simp] theorem fl13_0 : fldAt Try.prog 13 0 = some (0, 1, none) := by kernel_rfl
@[simp] theorem fl13_1 : fldAt Try.prog 13 1 = some (1, 1, none) := by kernel_rfl
@[simp] theorem zp13 : zp Try.prog 13 = some ([.string ⟨#[]⟩, .int .u64 0], [(0, 1), (1, 1)]) := by kernel_rfl
@[simp] theorem ld14 : ldSz Try.prog 14 = some (some 2) := by kernel_rfl
@[simp] theorem ts14 : tsz Try.prog 14 = some 2 := by kernel_rfl
@[simp] theorem un14 : (Try.prog.underlying 14).isSome = true := by kernel_rfl
@[simp] theorem na14 : notArr Try.prog 14 = true := by kernel_rfl
@[simp] theorem sf14 : stT Try.prog 14 = some [9, 12] := by kernel_rfl
@[simp] theorem st14 : isStr Try.prog 14 = false := by kernel_rfl
@[simp] theorem ni14 : notIf Try.prog 14 = true := by kernel_rfl
@[simp] theorem zc14 : zeroC Try.prog 14 = some [.string ⟨#[]⟩, .int .u64 0] := by kernel_rfl
@[simp] theorem sl14 : isSl Try.prog 14 = false := by kernel_rfl
@[simp] theorem fl14_0 : fldAt Try.prog 14 0 = some (0, 1, none) := by kernel_rfl
@[simp] theorem fl14_1 : fldAt Try.prog 14 1 = some (1, 1, none) := by kernel_rfl
@[simp] theorem zp14 : zp Try.prog 14 = some ([.string ⟨#[]⟩, .int .u64 0], [(0, 1), (1, 1)]) := by kernel_rfl
@[simp] theorem ld15 : ldSz Try.prog 15 = some none := by kernel_rfl
@[simp] theorem ts15 : tsz Try.prog 15 = some 1 := by kernel_rfl
@[simp] theorem un15 : (Try.prog.underlying 15).isSome = true := by kernel_rfl
@[simp] theorem na15 : notArr Try.prog 15 = true := by kernel_rfl
@[simp] theorem sf15 : stT Try.prog 15 = none := by kernel_rfl
@[simp] theorem st15 : isStr Try.prog 15 = false := by kernel_rfl
@[simp] theorem zc15 : zeroC Try.prog 15 = some [.pointer none] := by kernel_rfl
@[simp] theorem sl15 : isSl Try.prog 15 = false := by kernel_rfl
@[simp] theorem ld16 : ldSz Try.prog 16 = some none := by kernel_rfl
@[simp] theorem ts16 : tsz Try.prog 16 = some 1 := by kernel_rfl
@[simp] theorem un16 : (Try.prog.underlying 16).isSome = true := by kernel_rfl
@[simp] theorem na16 : notArr Try.prog 16 = true := by kernel_rfl
@[simp] theorem sf16 : stT Try.prog 16 = none := by kernel_rfl
@[simp] theorem st16 : isStr Try.prog 16 = false := by kernel_rfl
@[simp] theorem zc16 : zeroC Try.prog 16 = some [.pointer none] := by kernel_rfl
@[simp] theorem sl16 : isSl Try.prog 16 = false := by kernel_rfl
@[simp] theorem ld17 : ldSz Try.prog 17 = some none := by kernel_rfl
@[simp] theorem ts17 : tsz Try.prog 17 = some 1 := by kernel_rfl
@[simp] theorem un17 : (Try.prog.underlying 17).isSome = true := by kernel_rfl
@[simp] theorem na17 : notArr Try.prog 17 = true := by kernel_rfl
@[simp] theorem sf17 : stT Try.prog 17 = none := by kernel_rfl
@[simp] theorem st17 : isStr Try.prog 17 = false := by kernel_rfl
@[simp] theorem zc17 : zeroC Try.prog 17 = some [.pointer none] := by kernel_rfl
@[simp] theorem sl17 : isSl Try.prog 17 = false := by kernel_rfl
@[simp] theorem ld18 : ldSz Try.prog 18 = some (some 1) := by kernel_rfl
@[simp] theorem ts18 : tsz Try.prog 18 = some 1 := by kernel_rfl
@[simp] theorem un18 : (Try.prog.underlying 18).isSome = true := by kernel_rfl
@[simp] theorem na18 : notArr Try.prog 18 = true := by kernel_rfl
@[simp] theorem sf18 : stT Try.prog 18 = some [17] := by kernel_rfl
@[simp] theorem st18 : isStr Try.prog 18 = false := by kernel_rfl
@[simp] theorem ni18 : notIf Try.prog 18 = true := by kernel_rfl
@[simp] theorem zc18 : zeroC Try.prog 18 = some [.pointer none] := by kernel_rfl
@[simp] theorem sl18 : isSl Try.prog 18 = false := by kernel_rfl
@[simp] theorem fl18_0 : fldAt Try.prog 18 0 = some (0, 1, none) := by kernel_rfl
@[simp] theorem zp18 : zp Try.prog 18 = some ([.pointer none], [(0, 1)]) := by kernel_rfl
@[simp] theorem ld19 : ldSz Try.prog 19 = some (some 1) := by kernel_rfl
@[simp] theorem ts19 : tsz Try.prog 19 = some 1 := by kernel_rfl
@[simp] theorem un19 : (Try.prog.underlying 19).isSome = true := by kernel_rfl
@[simp] theorem na19 : notArr Try.prog 19 = true := by kernel_rfl
@[simp] theorem sf19 : stT Try.prog 19 = some [17] := by kernel_rfl
@[simp] theorem st19 : isStr Try.prog 19 = false := by kernel_rfl
@[simp] theorem ni19 : notIf Try.prog 19 = true := by kernel_rfl
@[simp] theorem zc19 : zeroC Try.prog 19 = some [.pointer none] := by kernel_rfl
@[simp] theorem sl19 : isSl Try.prog 19 = false := by kernel_rfl
@[simp] theorem fl19_0 : fldAt Try.prog 19 0 = some (0, 1, none) := by kernel_rfl
@[simp] theorem zp19 : zp Try.prog 19 = some ([.pointer none], [(0, 1)]) := by kernel_rfl
@[simp] theorem ld20 : ldSz Try.prog 20 = some none := by kernel_rfl
@[simp] theorem ts20 : tsz Try.prog 20 = some 1 := by kernel_rfl
@[simp] theorem un20 : (Try.prog.underlying 20).isSome = true := by kernel_rfl
@[simp] theorem na20 : notArr Try.prog 20 = true := by kernel_rfl
@[simp] theorem sf20 : stT Try.prog 20 = none := by kernel_rfl
@[simp] theorem st20 : isStr Try.prog 20 = false := by kernel_rfl
@[simp] theorem an20 : isAny Try.prog 20 = true := by kernel_rfl
@[simp] theorem zc20 : zeroC Try.prog 20 = some [.nilIface] := by kernel_rfl
@[simp] theorem sl20 : isSl Try.prog 20 = false := by kernel_rfl
@[simp] theorem ld21 : ldSz Try.prog 21 = some none := by kernel_rfl
@[simp] theorem ts21 : tsz Try.prog 21 = some 1 := by kernel_rfl
@[simp] theorem un21 : (Try.prog.underlying 21).isSome = true := by kernel_rfl
@[simp] theorem na21 : notArr Try.prog 21 = true := by kernel_rfl
@[simp] theorem sf21 : stT Try.prog 21 = none := by kernel_rfl
@[simp] theorem st21 : isStr Try.prog 21 = false := by kernel_rfl
@[simp] theorem io21 : intOfT Try.prog 21 = some .i32 := by kernel_rfl
@[simp] theorem zc21 : zeroC Try.prog 21 = some [.int .i32 0] := by kernel_rfl
@[simp] theorem sl21 : isSl Try.prog 21 = false := by kernel_rfl
@[simp] theorem ld22 : ldSz Try.prog 22 = some none := by kernel_rfl
@[simp] theorem ts22 : tsz Try.prog 22 = some 1 := by kernel_rfl
@[simp] theorem un22 : (Try.prog.underlying 22).isSome = true := by kernel_rfl
@[simp] theorem na22 : notArr Try.prog 22 = true := by kernel_rfl
@[simp] theorem sf22 : stT Try.prog 22 = none := by kernel_rfl
@[simp] theorem st22 : isStr Try.prog 22 = false := by kernel_rfl
@[simp] theorem zc22 : zeroC Try.prog 22 = some [.slice none 0 0] := by kernel_rfl
@[simp] theorem sl22 : isSl Try.prog 22 = true := by kernel_rfl
@[simp] theorem es22 : elSz Try.prog 22 = some (35, 3) := by kernel_rfl
@[simp] theorem ei22 : elInf Try.prog 22 = some (35, 3, 24, [.int .i64 0, .int .i64 0, .int .i64 0]) := by kernel_rfl
@[simp] theorem ld23 : ldSz Try.prog 23 = some none := by kernel_rfl
@[simp] theorem ts23 : tsz Try.prog 23 = some 1 := by kernel_rfl
@[simp] theorem un23 : (Try.prog.underlying 23).isSome = true := by kernel_rfl
@[simp] theorem na23 : notArr Try.prog 23 = true := by kernel_rfl
@[simp] theorem sf23 : stT Try.prog 23 = none := by kernel_rfl
@[simp] theorem st23 : isStr Try.prog 23 = false := by kernel_rfl
@[simp] theorem zc23 : zeroC Try.prog 23 = some [.slice none 0 0] := by kernel_rfl
@[simp] theorem sl23 : isSl Try.prog 23 = true := by kernel_rfl
@[simp] theorem es23 : elSz Try.prog 23 = some (3, 1) := by kernel_rfl
@[simp] theorem ei23 : elInf Try.prog 23 = some (3, 1, 8, [.int .i64 0]) := by kernel_rfl
@[simp] theorem ld24 : ldSz Try.prog 24 = some none := by kernel_rfl
@[simp] theorem ts24 : tsz Try.prog 24 = some 1 := by kernel_rfl
@[simp] theorem un24 : (Try.prog.underlying 24).isSome = true := by kernel_rfl
@[simp] theorem na24 : notArr Try.prog 24 = true := by kernel_rfl
@[simp] theorem sf24 : stT Try.prog 24 = none := by kernel_rfl
@[simp] theorem st24 : isStr Try.prog 24 = false := by kernel_rfl
@[simp] theorem zc24 : zeroC Try.prog 24 = some [.nilFunc] := by kernel_rfl
@[simp] theorem sl24 : isSl Try.prog 24 = false := by kernel_rfl
@[simp] theorem ld25 : ldSz Try.prog 25 = some none := by kernel_rfl
@[simp] theorem ts25 : tsz Try.prog 25 = some 1 := by kernel_rfl
@[simp] theorem un25 : (Try.prog.underlying 25).isSome = true := by kernel_rfl
@[simp] theorem na25 : notArr Try.prog 25 = true := by kernel_rfl
@[simp] theorem sf25 : stT Try.prog 25 = none := by kernel_rfl
@[simp] theorem st25 : isStr Try.prog 25 = false := by kernel_rfl
@[simp] theorem zc25 : zeroC Try.prog 25 = some [.nilFunc] := by kernel_rfl
@[simp] theorem sl25 : isSl Try.prog 25 = false := by kernel_rfl
@[simp] theorem ld26 : ldSz Try.prog 26 = some none := by kernel_rfl
@[simp] theorem ts26 : tsz Try.prog 26 = some 1 := by kernel_rfl
@[simp] theorem un26 : (Try.prog.underlying 26).isSome = true := by kernel_rfl
@[simp] theorem na26 : notArr Try.prog 26 = true := by kernel_rfl
@[simp] theorem sf26 : stT Try.prog 26 = none := by kernel_rfl
@[simp] theorem st26 : isStr Try.prog 26 = false := by kernel_rfl
@[simp] theorem io26 : intOfT Try.prog 26 = some .i64 := by kernel_rfl
@[simp] theorem zc26 : zeroC Try.prog 26 = some [.int .i64 0] := by kernel_rfl
@[simp] theorem sl26 : isSl Try.prog 26 = false := by kernel_rfl
@[simp] theorem ld28 : ldSz Try.prog 28 = some none := by kernel_rfl
@[simp] theorem ts28 : tsz Try.prog 28 = some 1 := by kernel_rfl
@[simp] theorem un28 : (Try.prog.underlying 28).isSome = true := by kernel_rfl
@[simp] theorem na28 : notArr Try.prog 28 = true := by kernel_rfl
@[simp] theorem sf28 : stT Try.prog 28 = none := by kernel_rfl
@[simp] theorem st28 : isStr Try.prog 28 = false := by kernel_rfl
@[simp] theorem zc28 : zeroC Try.prog 28 = some [.nilFunc] := by kernel_rfl
@[simp] theorem sl28 : isSl Try.prog 28 = false := by kernel_rfl
@[simp] theorem ld30 : ldSz Try.prog 30 = some none := by kernel_rfl
@[simp] theorem ts30 : tsz Try.prog 30 = some 1 := by kernel_rfl
@[simp] theorem un30 : (Try.prog.underlying 30).isSome = true := by kernel_rfl
@[simp] theorem na30 : notArr Try.prog 30 = true := by kernel_rfl
@[simp] theorem sf30 : stT Try.prog 30 = none := by kernel_rfl
@[simp] theorem st30 : isStr Try.prog 30 = false := by kernel_rfl
@[simp] theorem zc30 : zeroC Try.prog 30 = some [.nilFunc] := by kernel_rfl
@[simp] theorem sl30 : isSl Try.prog 30 = false := by kernel_rfl
@[simp] theorem ld31 : ldSz Try.prog 31 = some none := by kernel_rfl
@[simp] theorem ts31 : tsz Try.prog 31 = some 1 := by kernel_rfl
@[simp] theorem un31 : (Try.prog.underlying 31).isSome = true := by kernel_rfl
@[simp] theorem na31 : notArr Try.prog 31 = true := by kernel_rfl
@[simp] theorem sf31 : stT Try.prog 31 = none := by kernel_rfl
@[simp] theorem st31 : isStr Try.prog 31 = false := by kernel_rfl
@[simp] theorem zc31 : zeroC Try.prog 31 = some [.nilFunc] := by kernel_rfl
@[simp] theorem sl31 : isSl Try.prog 31 = false := by kernel_rfl
@[simp] theorem ld32 : ldSz Try.prog 32 = some none := by kernel_rfl
@[simp] theorem ts32 : tsz Try.prog 32 = some 1 := by kernel_rfl
@[simp] theorem un32 : (Try.prog.underlying 32).isSome = true := by kernel_rfl
@[simp] theorem na32 : notArr Try.prog 32 = true := by kernel_rfl
@[simp] theorem sf32 : stT Try.prog 32 = none := by kernel_rfl
@[simp] theorem st32 : isStr Try.prog 32 = false := by kernel_rfl
@[simp] theorem zc32 : zeroC Try.prog 32 = some [.nilFunc] := by kernel_rfl
@[simp] theorem sl32 : isSl Try.prog 32 = false := by kernel_rfl
@[simp] theorem ld33 : ldSz Try.prog 33 = some none := by kernel_rfl
@[simp] theorem ts33 : tsz Try.prog 33 = some 1 := by kernel_rfl
@[simp] theorem un33 : (Try.prog.underlying 33).isSome = true := by kernel_rfl
@[simp] theorem na33 : notArr Try.prog 33 = true := by kernel_rfl
@[simp] theorem sf33 : stT Try.prog 33 = none := by kernel_rfl
@[simp] theorem st33 : isStr Try.prog 33 = false := by kernel_rfl
@[simp] theorem zc33 : zeroC Try.prog 33 = some [.nilFunc] := by kernel_rfl
@[simp] theorem sl33 : isSl Try.prog 33 = false := by kernel_rfl
@[simp] theorem ld34 : ldSz Try.prog 34 = some (some 3) := by kernel_rfl
@[simp] theorem ts34 : tsz Try.prog 34 = some 3 := by kernel_rfl
@[simp] theorem un34 : (Try.prog.underlying 34).isSome = true := by kernel_rfl
@[simp] theorem na34 : notArr Try.prog 34 = true := by kernel_rfl
@[simp] theorem sf34 : stT Try.prog 34 = some [3, 3, 3] := by kernel_rfl
@[simp] theorem st34 : isStr Try.prog 34 = false := by kernel_rfl
@[simp] theorem ni34 : notIf Try.prog 34 = true := by kernel_rfl
@[simp] theorem zc34 : zeroC Try.prog 34 = some [.int .i64 0, .int .i64 0, .int .i64 0] := by kernel_rfl
@[simp] theorem sl34 : isSl Try.prog 34 = false := by kernel_rfl
@[simp] theorem fl34_0 : fldAt Try.prog 34 0 = some (0, 1, none) := by kernel_rfl
@[simp] theorem fl34_1 : fldAt Try.prog 34 1 = some (1, 1, none) := by kernel_rfl
@[simp] theorem fl34_2 : fldAt Try.prog 34 2 = some (2, 1, none) := by kernel_rfl
@[simp] theorem zp34 : zp Try.prog 34 = some ([.int .i64 0, .int .i64 0, .int .i64 0], [(0, 1), (1, 1), (2, 1)]) := by kernel_rfl
@[simp] theorem ld35 : ldSz Try.prog 35 = some (some 3) := by kernel_rfl
@[simp] theorem ts35 : tsz Try.prog 35 = some 3 := by kernel_rfl
@[simp] theorem un35 : (Try.prog.underlying 35).isSome = true := by kernel_rfl
@[simp] theorem na35 : notArr Try.prog 35 = true := by kernel_rfl
@[simp] theorem sf35 : stT Try.prog 35 = some [3, 3, 3] := by kernel_rfl
@[simp] theorem st35 : isStr Try.prog 35 = false := by kernel_rfl
@[simp] theorem ni35 : notIf Try.prog 35 = true := by kernel_rfl
@[simp] theorem zc35 : zeroC Try.prog 35 = some [.int .i64 0, .int .i64 0, .int .i64 0] := by kernel_rfl
@[simp] theorem sl35 : isSl Try.prog 35 = false := by kernel_rfl
@[simp] theorem se35 : stEq Try.prog 35 = some [.int, .int, .int] := by kernel_rfl
@[simp] theorem fl35_0 : fldAt Try.prog 35 0 = some (0, 1, none) := by kernel_rfl
@[simp] theorem fl35_1 : fldAt Try.prog 35 1 = some (1, 1, none) := by kernel_rfl
@[simp] theorem fl35_2 : fldAt Try.prog 35 2 = some (2, 1, none) := by kernel_rfl
@[simp] theorem zp35 : zp Try.prog 35 = some ([.int .i64 0, .int .i64 0, .int .i64 0], [(0, 1), (1, 1), (2, 1)]) := by kernel_rfl
@[simp] theorem ld37 : ldSz Try.prog 37 = some none := by kernel_rfl
@[simp] theorem ts37 : tsz Try.prog 37 = some 1 := by kernel_rfl
@[simp] theorem un37 : (Try.prog.underlying 37).isSome = true := by kernel_rfl
@[simp] theorem na37 : notArr Try.prog 37 = true := by kernel_rfl
@[simp] theorem sf37 : stT Try.prog 37 = none := by kernel_rfl
@[simp] theorem st37 : isStr Try.prog 37 = false := by kernel_rfl
@[simp] theorem zc37 : zeroC Try.prog 37 = some [.nilFunc] := by kernel_rfl
@[simp] theorem sl37 : isSl Try.prog 37 = false := by kernel_rfl
@[simp] theorem ld38 : ldSz Try.prog 38 = some none := by kernel_rfl
@[simp] theorem ts38 : tsz Try.prog 38 = some 1 := by kernel_rfl
@[simp] theorem un38 : (Try.prog.underlying 38).isSome = true := by kernel_rfl
@[simp] theorem na38 : notArr Try.prog 38 = true := by kernel_rfl
@[simp] theorem sf38 : stT Try.prog 38 = none := by kernel_rfl
@[simp] theorem st38 : isStr Try.prog 38 = false := by kernel_rfl
@[simp] theorem zc38 : zeroC Try.prog 38 = some [.nilFunc] := by kernel_rfl
@[simp] theorem sl38 : isSl Try.prog 38 = false := by kernel_rfl
@[simp] theorem ld39 : ldSz Try.prog 39 = some none := by kernel_rfl
@[simp] theorem ts39 : tsz Try.prog 39 = some 1 := by kernel_rfl
@[simp] theorem un39 : (Try.prog.underlying 39).isSome = true := by kernel_rfl
@[simp] theorem na39 : notArr Try.prog 39 = true := by kernel_rfl
@[simp] theorem sf39 : stT Try.prog 39 = none := by kernel_rfl
@[simp] theorem st39 : isStr Try.prog 39 = false := by kernel_rfl
@[simp] theorem zc39 : zeroC Try.prog 39 = some [.nilFunc] := by kernel_rfl
@[simp] theorem sl39 : isSl Try.prog 39 = false := by kernel_rfl
@[simp] theorem ld40 : ldSz Try.prog 40 = some none := by kernel_rfl
@[simp] theorem ts40 : tsz Try.prog 40 = some 1 := by kernel_rfl
@[simp] theorem un40 : (Try.prog.underlying 40).isSome = true := by kernel_rfl
@[simp] theorem na40 : notArr Try.prog 40 = true := by kernel_rfl
@[simp] theorem sf40 : stT Try.prog 40 = none := by kernel_rfl
@[simp] theorem st40 : isStr Try.prog 40 = false := by kernel_rfl
@[simp] theorem zc40 : zeroC Try.prog 40 = some [.nilFunc] := by kernel_rfl
@[simp] theorem sl40 : isSl Try.prog 40 = false := by kernel_rfl
@[simp] theorem ld41 : ldSz Try.prog 41 = some none := by kernel_rfl
@[simp] theorem ts41 : tsz Try.prog 41 = some 1 := by kernel_rfl
@[simp] theorem un41 : (Try.prog.underlying 41).isSome = true := by kernel_rfl
@[simp] theorem na41 : notArr Try.prog 41 = true := by kernel_rfl
@[simp] theorem sf41 : stT Try.prog 41 = none := by kernel_rfl
@[simp] theorem st41 : isStr Try.prog 41 = false := by kernel_rfl
@[simp] theorem zc41 : zeroC Try.prog 41 = some [.pointer none] := by kernel_rfl
@[simp] theorem sl41 : isSl Try.prog 41 = false := by kernel_rfl
@[simp] theorem ld42 : ldSz Try.prog 42 = some none := by kernel_rfl
@[simp] theorem ts42 : tsz Try.prog 42 = some 1 := by kernel_rfl
@[simp] theorem un42 : (Try.prog.underlying 42).isSome = true := by kernel_rfl
@[simp] theorem na42 : notArr Try.prog 42 = true := by kernel_rfl
@[simp] theorem sf42 : stT Try.prog 42 = none := by kernel_rfl
@[simp] theorem st42 : isStr Try.prog 42 = false := by kernel_rfl
@[simp] theorem zc42 : zeroC Try.prog 42 = some [.nilFunc] := by kernel_rfl
@[simp] theorem sl42 : isSl Try.prog 42 = false := by kernel_rfl
@[simp] theorem ld43 : ldSz Try.prog 43 = some none := by kernel_rfl
@[simp] theorem ts43 : tsz Try.prog 43 = some 1 := by kernel_rfl
@[simp] theorem un43 : (Try.prog.underlying 43).isSome = true := by kernel_rfl
@[simp] theorem na43 : notArr Try.prog 43 = true := by kernel_rfl
@[simp] theorem sf43 : stT Try.prog 43 = none := by kernel_rfl
@[simp] theorem st43 : isStr Try.prog 43 = false := by kernel_rfl
@[simp] theorem zc43 : zeroC Try.prog 43 = some [.nilFunc] := by kernel_rfl
@[simp] theorem sl43 : isSl Try.prog 43 = false := by kernel_rfl
@[simp] theorem ld44 : ldSz Try.prog 44 = some none := by kernel_rfl
@[simp] theorem ts44 : tsz Try.prog 44 = some 1 := by kernel_rfl
@[simp] theorem un44 : (Try.prog.underlying 44).isSome = true := by kernel_rfl
@[simp] theorem na44 : notArr Try.prog 44 = true := by kernel_rfl
@[simp] theorem sf44 : stT Try.prog 44 = none := by kernel_rfl
@[simp] theorem st44 : isStr Try.prog 44 = false := by kernel_rfl
@[simp] theorem zc44 : zeroC Try.prog 44 = some [.slice none 0 0] := by kernel_rfl
@[simp] theorem sl44 : isSl Try.prog 44 = true := by kernel_rfl
@[simp] theorem es44 : elSz Try.prog 44 = some (23, 1) := by kernel_rfl
@[simp] theorem ei44 : elInf Try.prog 44 = some (23, 1, 24, [.slice none 0 0]) := by kernel_rfl
@[simp] theorem ld45 : ldSz Try.prog 45 = some none := by kernel_rfl
@[simp] theorem ts45 : tsz Try.prog 45 = some 1 := by kernel_rfl
@[simp] theorem un45 : (Try.prog.underlying 45).isSome = true := by kernel_rfl
@[simp] theorem na45 : notArr Try.prog 45 = true := by kernel_rfl
@[simp] theorem sf45 : stT Try.prog 45 = none := by kernel_rfl
@[simp] theorem st45 : isStr Try.prog 45 = false := by kernel_rfl
@[simp] theorem zc45 : zeroC Try.prog 45 = some [.slice none 0 0] := by kernel_rfl
@[simp] theorem sl45 : isSl Try.prog 45 = true := by kernel_rfl
@[simp] theorem es45 : elSz Try.prog 45 = some (4, 1) := by kernel_rfl
@[simp] theorem ei45 : elInf Try.prog 45 = some (4, 1, 1, [.bool false]) := by kernel_rfl
@[simp] theorem ld46 : ldSz Try.prog 46 = some (some 5) := by kernel_rfl
@[simp] theorem ts46 : tsz Try.prog 46 = some 5 := by kernel_rfl
@[simp] theorem un46 : (Try.prog.underlying 46).isSome = true := by kernel_rfl
@[simp] theorem na46 : notArr Try.prog 46 = true := by kernel_rfl
@[simp] theorem sf46 : stT Try.prog 46 = some [22, 44, 23, 23, 45] := by kernel_rfl
@[simp] theorem st46 : isStr Try.prog 46 = false := by kernel_rfl
@[simp] theorem ni46 : notIf Try.prog 46 = true := by kernel_rfl
@[simp] theorem zc46 : zeroC Try.prog 46 = some [.slice none 0 0, .slice none 0 0, .slice none 0 0, .slice none 0 0, .slice none 0 0] := by kernel_rfl
@[simp] theorem sl46 : isSl Try.prog 46 = false := by kernel_rfl
@[simp] theorem fl46_0 : fldAt Try.prog 46 0 = some (0, 1, none) := by kernel_rfl
@[simp] theorem fl46_1 : fldAt Try.prog 46 1 = some (1, 1, none) := by kernel_rfl
@[simp] theorem fl46_2 : fldAt Try.prog 46 2 = some (2, 1, none) := by kernel_rfl
@[simp] theorem fl46_3 : fldAt Try.prog 46 3 = some (3, 1, none) := by kernel_rfl
@[simp] theorem fl46_4 : fldAt Try.prog 46 4 = some (4, 1, none) := by kernel_rfl
@[simp] theorem zp46 : zp Try.prog 46 = some ([.slice none 0 0, .slice none 0 0, .slice none 0 0, .slice none 0 0, .slice none 0 0], [(0, 1), (1, 1), (2, 1), (3, 1), (4, 1)]) := by kernel_rfl
@[simp] theorem ld47 : ldSz Try.prog 47 = some (some 5) := by kernel_rfl
@[simp] theorem ts47 : tsz Try.prog 47 = some 5 := by kernel_rfl
@[simp] theorem un47 : (Try.prog.underlying 47).isSome = true := by kernel_rfl
@[simp] theorem na47 : notArr Try.prog 47 = true := by kernel_rfl
@[simp] theorem sf47 : stT Try.prog 47 = some [22, 44, 23, 23, 45] := by kernel_rfl
@[simp] theorem st47 : isStr Try.prog 47 = false := by kernel_rfl
@[simp] theorem ni47 : notIf Try.prog 47 = true := by kernel_rfl
@[simp] theorem zc47 : zeroC Try.prog 47 = some [.slice none 0 0, .slice none 0 0, .slice none 0 0, .slice none 0 0, .slice none 0 0] := by kernel_rfl
@[simp] theorem sl47 : isSl Try.prog 47 = false := by kernel_rfl
@[simp] theorem fl47_0 : fldAt Try.prog 47 0 = some (0, 1, none) := by kernel_rfl
@[simp] theorem fl47_1 : fldAt Try.prog 47 1 = some (1, 1, none) := by kernel_rfl
@[simp] theorem fl47_2 : fldAt Try.prog 47 2 = some (2, 1, none) := by kernel_rfl
@[simp] theorem fl47_3 : fldAt Try.prog 47 3 = some (3, 1, none) := by kernel_rfl
@[simp] theorem fl47_4 : fldAt Try.prog 47 4 = some (4, 1, none) := by kernel_rfl
@[simp] theorem zp47 : zp Try.prog 47 = some ([.slice none 0 0, .slice none 0 0, .slice none 0 0, .slice none 0 0, .slice none 0 0], [(0, 1), (1, 1), (2, 1), (3, 1), (4, 1)]) := by kernel_rfl
@[simp] theorem ld48 : ldSz Try.prog 48 = some none := by kernel_rfl
@[simp] theorem ts48 : tsz Try.prog 48 = some 1 := by kernel_rfl
@[simp] theorem un48 : (Try.prog.underlying 48).isSome = true := by kernel_rfl
@[simp] theorem na48 : notArr Try.prog 48 = true := by kernel_rfl
@[simp] theorem sf48 : stT Try.prog 48 = none := by kernel_rfl
@[simp] theorem st48 : isStr Try.prog 48 = false := by kernel_rfl
@[simp] theorem zc48 : zeroC Try.prog 48 = some [.nilFunc] := by kernel_rfl
@[simp] theorem sl48 : isSl Try.prog 48 = false := by kernel_rfl
@[simp] theorem ld49 : ldSz Try.prog 49 = some none := by kernel_rfl
@[simp] theorem ts49 : tsz Try.prog 49 = some 1 := by kernel_rfl
@[simp] theorem un49 : (Try.prog.underlying 49).isSome = true := by kernel_rfl
@[simp] theorem na49 : notArr Try.prog 49 = true := by kernel_rfl
@[simp] theorem sf49 : stT Try.prog 49 = none := by kernel_rfl
@[simp] theorem st49 : isStr Try.prog 49 = false := by kernel_rfl
@[simp] theorem zc49 : zeroC Try.prog 49 = some [.nilFunc] := by kernel_rfl
@[simp] theorem sl49 : isSl Try.prog 49 = false := by kernel_rfl
@[simp] theorem ld50 : ldSz Try.prog 50 = some none := by kernel_rfl
@[simp] theorem ts50 : tsz Try.prog 50 = some 1 := by kernel_rfl
@[simp] theorem un50 : (Try.prog.underlying 50).isSome = true := by kernel_rfl
@[simp] theorem na50 : notArr Try.prog 50 = true := by kernel_rfl
@[simp] theorem sf50 : stT Try.prog 50 = none := by kernel_rfl
@[simp] theorem st50 : isStr Try.prog 50 = false := by kernel_rfl
@[simp] theorem zc50 : zeroC Try.prog 50 = some [.nilFunc] := by kernel_rfl
@[simp] theorem sl50 : isSl Try.prog 50 = false := by kernel_rfl
@[simp] theorem ld51 : ldSz Try.prog 51 = some none := by kernel_rfl
@[simp] theorem ts51 : tsz Try.prog 51 = some 1 := by kernel_rfl
@[simp] theorem un51 : (Try.prog.underlying 51).isSome = true := by kernel_rfl
@[simp] theorem na51 : notArr Try.prog 51 = true := by kernel_rfl
@[simp] theorem sf51 : stT Try.prog 51 = none := by kernel_rfl
@[simp] theorem st51 : isStr Try.prog 51 = false := by kernel_rfl
@[simp] theorem zc51 : zeroC Try.prog 51 = some [.nilFunc] := by kernel_rfl
@[simp] theorem sl51 : isSl Try.prog 51 = false := by kernel_rfl
@[simp] theorem ld52 : ldSz Try.prog 52 = some none := by kernel_rfl
@[simp] theorem ts52 : tsz Try.prog 52 = some 1 := by kernel_rfl
@[simp] theorem un52 : (Try.prog.underlying 52).isSome = true := by kernel_rfl
@[simp] theorem na52 : notArr Try.prog 52 = true := by kernel_rfl
@[simp] theorem sf52 : stT Try.prog 52 = none := by kernel_rfl
@[simp] theorem st52 : isStr Try.prog 52 = false := by kernel_rfl
@[simp] theorem zc52 : zeroC Try.prog 52 = some [.nilFunc] := by kernel_rfl
@[simp] theorem sl52 : isSl Try.prog 52 = false := by kernel_rfl
@[simp] theorem ld53 : ldSz Try.prog 53 = some none := by kernel_rfl
@[simp] theorem ts53 : tsz Try.prog 53 = some 1 := by kernel_rfl
@[simp] theorem un53 : (Try.prog.underlying 53).isSome = true := by kernel_rfl
@[simp] theorem na53 : notArr Try.prog 53 = true := by kernel_rfl
@[simp] theorem sf53 : stT Try.prog 53 = none := by kernel_rfl
@[simp] theorem st53 : isStr Try.prog 53 = false := by kernel_rfl
@[simp] theorem zc53 : zeroC Try.prog 53 = some [.nilFunc] := by kernel_rfl
@[simp] theorem sl53 : isSl Try.prog 53 = false := by kernel_rfl
@[simp] theorem ld54 : ldSz Try.prog 54 = some none := by kernel_rfl
@[simp] theorem ts54 : tsz Try.prog 54 = some 1 := by kernel_rfl
@[simp] theorem un54 : (Try.prog.underlying 54).isSome = true := by kernel_rfl
@[simp] theorem na54 : notArr Try.prog 54 = true := by kernel_rfl
@[simp] theorem sf54 : stT Try.prog 54 = none := by kernel_rfl
@[simp] theorem st54 : isStr Try.prog 54 = false := by kernel_rfl
@[simp] theorem zc54 : zeroC Try.prog 54 = some [.nilFunc] := by kernel_rfl
@[simp] theorem sl54 : isSl Try.prog 54 = false := by kernel_rfl
@[simp] theorem ld55 : ldSz Try.prog 55 = some none := by kernel_rfl
@[simp] theorem ts55 : tsz Try.prog 55 = some 1 := by kernel_rfl
@[simp] theorem un55 : (Try.prog.underlying 55).isSome = true := by kernel_rfl
@[simp] theorem na55 : notArr Try.prog 55 = true := by kernel_rfl
@[simp] theorem sf55 : stT Try.prog 55 = none := by kernel_rfl
@[simp] theorem st55 : isStr Try.prog 55 = false := by kernel_rfl
@[simp] theorem zc55 : zeroC Try.prog 55 = some [.nilFunc] := by kernel_rfl
@[simp] theorem sl55 : isSl Try.prog 55 = false := by kernel_rfl
@[simp] theorem ld56 : ldSz Try.prog 56 = some none := by kernel_rfl
@[simp] theorem ts56 : tsz Try.prog 56 = some 1 := by kernel_rfl
@[simp] theorem un56 : (Try.prog.underlying 56).isSome = true := by kernel_rfl
@[simp] theorem na56 : notArr Try.prog 56 = true := by kernel_rfl
@[simp] theorem sf56 : stT Try.prog 56 = none := by kernel_rfl
@[simp] theorem st56 : isStr Try.prog 56 = false := by kernel_rfl
@[simp] theorem zc56 : zeroC Try.prog 56 = some [.nilFunc] := by kernel_rfl
@[simp] theorem sl56 : isSl Try.prog 56 = false := by kernel_rfl
@[simp] theorem ld57 : ldSz Try.prog 57 = some none := by kernel_rfl
@[simp] theorem ts57 : tsz Try.prog 57 = some 1 := by kernel_rfl
@[simp] theorem un57 : (Try.prog.underlying 57).isSome = true := by kernel_rfl
@[simp] theorem na57 : notArr Try.prog 57 = true := by kernel_rfl
@[simp] theorem sf57 : stT Try.prog 57 = none := by kernel_rfl
@[simp] theorem st57 : isStr Try.prog 57 = false := by kernel_rfl
@[simp] theorem zc57 : zeroC Try.prog 57 = some [.nilFunc] := by kernel_rfl
@[simp] theorem sl57 : isSl Try.prog 57 = false := by kernel_rfl
@[simp] theorem ld58 : ldSz Try.prog 58 = some none := by kernel_rfl
@[simp] theorem ts58 : tsz Try.prog 58 = some 1 := by kernel_rfl
@[simp] theorem un58 : (Try.prog.underlying 58).isSome = true := by kernel_rfl
@[simp] theorem na58 : notArr Try.prog 58 = true := by kernel_rfl
@[simp] theorem sf58 : stT Try.prog 58 = none := by kernel_rfl
@[simp] theorem st58 : isStr Try.prog 58 = false := by kernel_rfl
@[simp] theorem zc58 : zeroC Try.prog 58 = some [.nilFunc] := by kernel_rfl
@[simp] theorem sl58 : isSl Try.prog 58 = false := by kernel_rfl
@[simp] theorem ld59 : ldSz Try.prog 59 = some none := by kernel_rfl
@[simp] theorem ts59 : tsz Try.prog 59 = some 1 := by kernel_rfl
@[simp] theorem un59 : (Try.prog.underlying 59).isSome = true := by kernel_rfl
@[simp] theorem na59 : notArr Try.prog 59 = true := by kernel_rfl
@[simp] theorem sf59 : stT Try.prog 59 = none := by kernel_rfl
@[simp] theorem st59 : isStr Try.prog 59 = false := by kernel_rfl
@[simp] theorem io59 : intOfT Try.prog 59 = some .u64 := by kernel_rfl
@[simp] theorem zc59 : zeroC Try.prog 59 = some [.int .u64 0] := by kernel_rfl
@[simp] theorem sl59 : isSl Try.prog 59 = false := by kernel_rfl
@[simp] theorem ld61 : ldSz Try.prog 61 = some none := by kernel_rfl
@[simp] theorem ts61 : tsz Try.prog 61 = some 1 := by kernel_rfl
@[simp] theorem un61 : (Try.prog.underlying 61).isSome = true := by kernel_rfl
@[simp] theorem na61 : notArr Try.prog 61 = true := by kernel_rfl
@[simp] theorem sf61 : stT Try.prog 61 = none := by kernel_rfl
@[simp] theorem st61 : isStr Try.prog 61 = false := by kernel_rfl
@[simp] theorem zc61 : zeroC Try.prog 61 = some [.nilFunc] := by kernel_rfl
@[simp] theorem sl61 : isSl Try.prog 61 = false := by kernel_rfl
@[simp] theorem ld62 : ldSz Try.prog 62 = some none := by kernel_rfl
@[simp] theorem ts62 : tsz Try.prog 62 = some 1 := by kernel_rfl
@[simp] theorem un62 : (Try.prog.underlying 62).isSome = true := by kernel_rfl
@[simp] theorem na62 : notArr Try.prog 62 = true := by kernel_rfl
@[simp] theorem sf62 : stT Try.prog 62 = none := by kernel_rfl
@[simp] theorem st62 : isStr Try.prog 62 = false := by kernel_rfl
@[simp] theorem zc62 : zeroC Try.prog 62 = some [.nilFunc] := by kernel_rfl
@[simp] theorem sl62 : isSl Try.prog 62 = false := by kernel_rfl
@[simp] theorem ld63 : ldSz Try.prog 63 = some none := by kernel_rfl
@[simp] theorem ts63 : tsz Try.prog 63 = some 1 := by kernel_rfl
@[simp] theorem un63 : (Try.prog.underlying 63).isSome = true := by kernel_rfl
@[simp] theorem na63 : notArr Try.prog 63 = true := by kernel_rfl
@[simp] theorem sf63 : stT Try.prog 63 = none := by kernel_rfl
@[simp] theorem st63 : isStr Try.prog 63 = false := by kernel_rfl
@[simp] theorem zc63 : zeroC Try.prog 63 = some [.nilFunc] := by kernel_rfl
@[simp] theorem sl63 : isSl Try.prog 63 = false := by kernel_rfl
@[simp] theorem ld64 : ldSz Try.prog 64 = some none := by kernel_rfl
@[simp] theorem ts64 : tsz Try.prog 64 = some 1 := by kernel_rfl
@[simp] theorem un64 : (Try.prog.underlying 64).isSome = true := by kernel_rfl
@[simp] theorem na64 : notArr Try.prog 64 = true := by kernel_rfl
@[simp] theorem sf64 : stT Try.prog 64 = none := by kernel_rfl
@[simp] theorem st64 : isStr Try.prog 64 = false := by kernel_rfl
@[simp] theorem io64 : intOfT Try.prog 64 = some .u32 := by kernel_rfl
@[simp] theorem zc64 : zeroC Try.prog 64 = some [.int .u32 0] := by kernel_rfl
@[simp] theorem sl64 : isSl Try.prog 64 = false := by kernel_rfl
@[simp] theorem ld66 : ldSz Try.prog 66 = some none := by kernel_rfl
@[simp] theorem ts66 : tsz Try.prog 66 = some 1 := by kernel_rfl
@[simp] theorem un66 : (Try.prog.underlying 66).isSome = true := by kernel_rfl
@[simp] theorem na66 : notArr Try.prog 66 = true := by kernel_rfl
@[simp] theorem sf66 : stT Try.prog 66 = none := by kernel_rfl
@[simp] theorem st66 : isStr Try.prog 66 = false := by kernel_rfl
@[simp] theorem zc66 : zeroC Try.prog 66 = some [.nilFunc] := by kernel_rfl
@[simp] theorem sl66 : isSl Try.prog 66 = false := by kernel_rfl
@[simp] theorem ld67 : ldSz Try.prog 67 = some none := by kernel_rfl
@[simp] theorem ts67 : tsz Try.prog 67 = some 1 := by kernel_rfl
@[simp] theorem un67 : (Try.prog.underlying 67).isSome = true := by kernel_rfl
@[simp] theorem na67 : notArr Try.prog 67 = true := by kernel_rfl
@[simp] theorem sf67 : stT Try.prog 67 = none := by kernel_rfl
@[simp] theorem st67 : isStr Try.prog 67 = false := by kernel_rfl
@[simp] theorem io67 : intOfT Try.prog 67 = some .u64 := by kernel_rfl
@[simp] theorem zc67 : zeroC Try.prog 67 = some [.int .u64 0] := by kernel_rfl
@[simp] theorem sl67 : isSl Try.prog 67 = false := by kernel_rfl
@[simp] theorem ld69 : ldSz Try.prog 69 = some none := by kernel_rfl
@[simp] theorem ts69 : tsz Try.prog 69 = some 1 := by kernel_rfl
@[simp] theorem un69 : (Try.prog.underlying 69).isSome = true := by kernel_rfl
@[simp] theorem na69 : notArr Try.prog 69 = true := by kernel_rfl
@[simp] theorem sf69 : stT Try.prog 69 = none := by kernel_rfl
@[simp] theorem st69 : isStr Try.prog 69 = false := by kernel_rfl
@[simp] theorem zc69 : zeroC Try.prog 69 = some [.nilFunc] := by kernel_rfl
@[simp] theorem sl69 : isSl Try.prog 69 = false := by kernel_rfl
@[simp] theorem ld70 : ldSz Try.prog 70 = some none := by kernel_rfl
@[simp] theorem ts70 : tsz Try.prog 70 = some 1 := by kernel_rfl
@[simp] theorem un70 : (Try.prog.underlying 70).isSome = true := by kernel_rfl
@[simp] theorem na70 : notArr Try.prog 70 = true := by kernel_rfl
@[simp] theorem sf70 : stT Try.prog 70 = none := by kernel_rfl
@[simp] theorem st70 : isStr Try.prog 70 = false := by kernel_rfl
@[simp] theorem zc70 : zeroC Try.prog 70 = some [.nilFunc] := by kernel_rfl
@[simp] theorem sl70 : isSl Try.prog 70 = false := by kernel_rfl
@[simp] theorem ld71 : ldSz Try.prog 71 = some none := by kernel_rfl
@[simp] theorem ts71 : tsz Try.prog 71 = some 1 := by kernel_rfl
@[simp] theorem un71 : (Try.prog.underlying 71).isSome = true := by kernel_rfl
@[simp] theorem na71 : notArr Try.prog 71 = true := by kernel_rfl
@[simp] theorem sf71 : stT Try.prog 71 = none := by kernel_rfl
@[simp] theorem st71 : isStr Try.prog 71 = false := by kernel_rfl
@[simp] theorem io71 : intOfT Try.prog 71 = some .i64 := by kernel_rfl
@[simp] theorem zc71 : zeroC Try.prog 71 = some [.int .i64 0] := by kernel_rfl
@[simp] theorem sl71 : isSl Try.prog 71 = false := by kernel_rfl
@[simp] theorem ld73 : ldSz Try.prog 73 = some none := by kernel_rfl
@[simp] theorem ts73 : tsz Try.prog 73 = some 1 := by kernel_rfl
@[simp] theorem un73 : (Try.prog.underlying 73).isSome = true := by kernel_rfl
@[simp] theorem na73 : notArr Try.prog 73 = true := by kernel_rfl
@[simp] theorem sf73 : stT Try.prog 73 = none := by kernel_rfl
@[simp] theorem st73 : isStr Try.prog 73 = false := by kernel_rfl
@[simp] theorem zc73 : zeroC Try.prog 73 = some [.nilFunc] := by kernel_rfl
@[simp] theorem sl73 : isSl Try.prog 73 = false := by kernel_rfl
@[simp] theorem ld74 : ldSz Try.prog 74 = some none := by kernel_rfl
@[simp] theorem ts74 : tsz Try.prog 74 = some 1 := by kernel_rfl
@[simp] theorem un74 : (Try.prog.underlying 74).isSome = true := by kernel_rfl
@[simp] theorem na74 : notArr Try.prog 74 = true := by kernel_rfl
@[simp] theorem sf74 : stT Try.prog 74 = none := by kernel_rfl
@[simp] theorem st74 : isStr Try.prog 74 = false := by kernel_rfl
@[simp] theorem zc74 : zeroC Try.prog 74 = some [.nilFunc] := by kernel_rfl
@[simp] theorem sl74 : isSl Try.prog 74 = false := by kernel_rfl
@[simp] theorem ld75 : ldSz Try.prog 75 = some none := by kernel_rfl
@[simp] theorem ts75 : tsz Try.prog 75 = some 1 := by kernel_rfl
@[simp] theorem un75 : (Try.prog.underlying 75).isSome = true := by kernel_rfl
@[simp] theorem na75 : notArr Try.prog 75 = true := by kernel_rfl
@[simp] theorem sf75 : stT Try.prog 75 = none := by kernel_rfl
@[simp] theorem st75 : isStr Try.prog 75 = false := by kernel_rfl
@[simp] theorem zc75 : zeroC Try.prog 75 = some [.nilFunc] := by kernel_rfl
@[simp] theorem sl75 : isSl Try.prog 75 = false := by kernel_rfl
@[simp] theorem ld76 : ldSz Try.prog 76 = some none := by kernel_rfl
@[simp] theorem ts76 : tsz Try.prog 76 = some 1 := by kernel_rfl
@[simp] theorem un76 : (Try.prog.underlying 76).isSome = true := by kernel_rfl
@[simp] theorem na76 : notArr Try.prog 76 = true := by kernel_rfl
@[simp] theorem sf76 : stT Try.prog 76 = none := by kernel_rfl
@[simp] theorem st76 : isStr Try.prog 76 = false := by kernel_rfl
@[simp] theorem zc76 : zeroC Try.prog 76 = some [.nilFunc] := by kernel_rfl
@[simp] theorem sl76 : isSl Try.prog 76 = false := by kernel_rfl
@[simp] theorem ld78 : ldSz Try.prog 78 = some none := by kernel_rfl
@[simp] theorem ts78 : tsz Try.prog 78 = some 1 := by kernel_rfl
@[simp] theorem un78 : (Try.prog.underlying 78).isSome = true := by kernel_rfl
@[simp] theorem na78 : notArr Try.prog 78 = true := by kernel_rfl
@[simp] theorem sf78 : stT Try.prog 78 = none := by kernel_rfl
@[simp] theorem st78 : isStr Try.prog 78 = false := by kernel_rfl
@[simp] theorem zc78 : zeroC Try.prog 78 = some [.nilFunc] := by kernel_rfl
@[simp] theorem sl78 : isSl Try.prog 78 = false := by kernel_rfl
@[simp] theorem ld79 : ldSz Try.prog 79 = some none := by kernel_rfl
@[simp] theorem ts79 : tsz Try.prog 79 = some 1 := by kernel_rfl
@[simp] theorem un79 : (Try.prog.underlying 79).isSome = true := by kernel_rfl
@[simp] theorem na79 : notArr Try.prog 79 = true := by kernel_rfl
@[simp] theorem sf79 : stT Try.prog 79 = none := by kernel_rfl
@[simp] theorem st79 : isStr Try.prog 79 = false := by kernel_rfl
@[simp] theorem zc79 : zeroC Try.prog 79 = some [.nilFunc] := by kernel_rfl
@[simp] theorem sl79 : isSl Try.prog 79 = false := by kernel_rfl
@[simp] theorem ld80 : ldSz Try.prog 80 = some none := by kernel_rfl
@[simp] theorem ts80 : tsz Try.prog 80 = some 1 := by kernel_rfl
@[simp] theorem un80 : (Try.prog.underlying 80).isSome = true := by kernel_rfl
@[simp] theorem na80 : notArr Try.prog 80 = true := by kernel_rfl
@[simp] theorem sf80 : stT Try.prog 80 = none := by kernel_rfl
@[simp] theorem st80 : isStr Try.prog 80 = false := by kernel_rfl
@[simp] theorem zc80 : zeroC Try.prog 80 = some [.nilFunc] := by kernel_rfl
@[simp] theorem sl80 : isSl Try.prog 80 = false := by kernel_rfl
@[simp] theorem ld81 : ldSz Try.prog 81 = some none := by kernel_rfl
@[simp] theorem ts81 : tsz Try.prog 81 = some 1 := by kernel_rfl
@[simp] theorem un81 : (Try.prog.underlying 81).isSome = true := by kernel_rfl
@[simp] theorem na81 : notArr Try.prog 81 = true := by kernel_rfl
@[simp] theorem sf81 : stT Try.prog 81 = none := by kernel_rfl
@[simp] theorem st81 : isStr Try.prog 81 = false := by kernel_rfl
@[simp] theorem io81 : intOfT Try.prog 81 = some .u64 := by kernel_rfl
@[simp] theorem zc81 : zeroC Try.prog 81 = some [.int .u64 0] := by kernel_rfl
@[simp] theorem sl81 : isSl Try.prog 81 = false := by kernel_rfl
@[simp] theorem ld82 : ldSz Try.prog 82 = some none := by kernel_rfl
@[simp] theorem ts82 : tsz Try.prog 82 = some 1 := by kernel_rfl
@[simp] theorem un82 : (Try.prog.underlying 82).isSome = true := by kernel_rfl
@[simp] theorem na82 : notArr Try.prog 82 = true := by kernel_rfl
@[simp] theorem sf82 : stT Try.prog 82 = none := by kernel_rfl
@[simp] theorem st82 : isStr Try.prog 82 = false := by kernel_rfl
@[simp] theorem zc82 : zeroC Try.prog 82 = some [.nilFunc] := by kernel_rfl
@[simp] theorem sl82 : isSl Try.prog 82 = false := by kernel_rfl
@[simp] theorem ld83 : ldSz Try.prog 83 = some none := by kernel_rfl
@[simp] theorem ts83 : tsz Try.prog 83 = some 1 := by kernel_rfl
@[simp] theorem un83 : (Try.prog.underlying 83).isSome = true := by kernel_rfl
@[simp] theorem na83 : notArr Try.prog 83 = true := by kernel_rfl
@[simp] theorem sf83 : stT Try.prog 83 = none := by kernel_rfl
@[simp] theorem st83 : isStr Try.prog 83 = false := by kernel_rfl
@[simp] theorem zc83 : zeroC Try.prog 83 = some [.nilFunc] := by kernel_rfl
@[simp] theorem sl83 : isSl Try.prog 83 = false := by kernel_rfl
@[simp] theorem ld84 : ldSz Try.prog 84 = some none := by kernel_rfl
@[simp] theorem ts84 : tsz Try.prog 84 = some 1 := by kernel_rfl
@[simp] theorem un84 : (Try.prog.underlying 84).isSome = true := by kernel_rfl
@[simp] theorem na84 : notArr Try.prog 84 = true := by kernel_rfl
@[simp] theorem sf84 : stT Try.prog 84 = none := by kernel_rfl
@[simp] theorem st84 : isStr Try.prog 84 = false := by kernel_rfl
@[simp] theorem zc84 : zeroC Try.prog 84 = some [.nilFunc] := by kernel_rfl
@[simp] theorem sl84 : isSl Try.prog 84 = false := by kernel_rfl
@[simp] theorem ld85 : ldSz Try.prog 85 = some none := by kernel_rfl
@[simp] theorem ts85 : tsz Try.prog 85 = some 1 := by kernel_rfl
@[simp] theorem un85 : (Try.prog.underlying 85).isSome = true := by kernel_rfl
@[simp] theorem na85 : notArr Try.prog 85 = true := by kernel_rfl
@[simp] theorem sf85 : stT Try.prog 85 = none := by kernel_rfl
@[simp] theorem st85 : isStr Try.prog 85 = false := by kernel_rfl
@[simp] theorem zc85 : zeroC Try.prog 85 = some [.pointer none] := by kernel_rfl
@[simp] theorem sl85 : isSl Try.prog 85 = false := by kernel_rfl
@[simp] theorem ld86 : ldSz Try.prog 86 = some none := by kernel_rfl
@[simp] theorem ts86 : tsz Try.prog 86 = some 1 := by kernel_rfl
@[simp] theorem un86 : (Try.prog.underlying 86).isSome = true := by kernel_rfl
@[simp] theorem na86 : notArr Try.prog 86 = true := by kernel_rfl
@[simp] theorem sf86 : stT Try.prog 86 = none := by kernel_rfl
@[simp] theorem st86 : isStr Try.prog 86 = false := by kernel_rfl
@[simp] theorem zc86 : zeroC Try.prog 86 = some [.nilFunc] := by kernel_rfl
@[simp] theorem sl86 : isSl Try.prog 86 = false := by kernel_rfl
@[simp] theorem ld87 : ldSz Try.prog 87 = some none := by kernel_rfl
@[simp] theorem ts87 : tsz Try.prog 87 = some 1 := by kernel_rfl
@[simp] theorem un87 : (Try.prog.underlying 87).isSome = true := by kernel_rfl
@[simp] theorem na87 : notArr Try.prog 87 = true := by kernel_rfl
@[simp] theorem sf87 : stT Try.prog 87 = none := by kernel_rfl
@[simp] theorem st87 : isStr Try.prog 87 = false := by kernel_rfl
@[simp] theorem zc87 : zeroC Try.prog 87 = some [.pointer none] := by kernel_rfl
@[simp] theorem sl87 : isSl Try.prog 87 = false := by kernel_rfl
@[simp] theorem ld89 : ldSz Try.prog 89 = some none := by kernel_rfl
@[simp] theorem ts89 : tsz Try.prog 89 = some 1 := by kernel_rfl
@[simp] theorem un89 : (Try.prog.underlying 89).isSome = true := by kernel_rfl
@[simp] theorem na89 : notArr Try.prog 89 = true := by kernel_rfl
@[simp] theorem sf89 : stT Try.prog 89 = none := by kernel_rfl
@[simp] theorem st89 : isStr Try.prog 89 = false := by kernel_rfl
@[simp] theorem zc89 : zeroC Try.prog 89 = some [.nilFunc] := by kernel_rfl
@[simp] theorem sl89 : isSl Try.prog 89 = false := by kernel_rfl
@[simp] theorem ld90 : ldSz Try.prog 90 = some none := by kernel_rfl
@[simp] theorem ts90 : tsz Try.prog 90 = some 1 := by kernel_rfl
@[simp] theorem un90 : (Try.prog.underlying 90).isSome = true := by kernel_rfl
@[simp] theorem na90 : notArr Try.prog 90 = true := by kernel_rfl
@[simp] theorem sf90 : stT Try.prog 90 = none := by kernel_rfl
@[simp] theorem st90 : isStr Try.prog 90 = false := by kernel_rfl
@[simp] theorem zc90 : zeroC Try.prog 90 = some [.nilFunc] := by kernel_rfl
@[simp] theorem sl90 : isSl Try.prog 90 = false := by kernel_rfl
@[simp] theorem ld91 : ldSz Try.prog 91 = some (some 4) := by kernel_rfl
@[simp] theorem ts91 : tsz Try.prog 91 = some 4 := by kernel_rfl
@[simp] theorem un91 : (Try.prog.underlying 91).isSome = true := by kernel_rfl
@[simp] theorem na91 : notArr Try.prog 91 = true := by kernel_rfl
@[simp] theorem sf91 : stT Try.prog 91 = some [17, 17, 17, 9] := by kernel_rfl
@[simp] theorem st91 : isStr Try.prog 91 = false := by kernel_rfl
@[simp] theorem ni91 : notIf Try.prog 91 = true := by kernel_rfl
@[simp] theorem zc91 : zeroC Try.prog 91 = some [.pointer none, .pointer none, .pointer none, .string ⟨#[]⟩] := by kernel_rfl
@[simp] theorem sl91 : isSl Try.prog 91 = false := by kernel_rfl
@[simp] theorem fl91_0 : fldAt Try.prog 91 0 = some (0, 1, none) := by kernel_rfl
@[simp] theorem fl91_1 : fldAt Try.prog 91 1 = some (1, 1, none) := by kernel_rfl
@[simp] theorem fl91_2 : fldAt Try.prog 91 2 = some (2, 1, none) := by kernel_rfl
@[simp] theorem fl91_3 : fldAt Try.prog 91 3 = some (3, 1, none) := by kernel_rfl
@[simp] theorem zp91 : zp Try.prog 91 = some ([.pointer none, .pointer none, .pointer none, .string ⟨#[]⟩], [(0, 1), (1, 1), (2, 1), (3, 1)]) := by kernel_rfl
@[simp] theorem ld92 : ldSz Try.prog 92 = some (some 4) := by kernel_rfl
@[simp] theorem ts92 : tsz Try.prog 92 = some 4 := by kernel_rfl
@[simp] theorem un92 : (Try.prog.underlying 92).isSome = true := by kernel_rfl
@[simp] theorem na92 : notArr Try.prog 92 = true := by kernel_rfl
@[simp] theorem sf92 : stT Try.prog 92 = some [17, 17, 17, 9] := by kernel_rfl
@[simp] theorem st92 : isStr Try.prog 92 = false := by kernel_rfl
@[simp] theorem ni92 : notIf Try.prog 92 = true := by kernel_rfl
@[simp] theorem zc92 : zeroC Try.prog 92 = some [.pointer none, .pointer none, .pointer none, .string ⟨#[]⟩] := by kernel_rfl
@[simp] theorem sl92 : isSl Try.prog 92 = false := by kernel_rfl
@[simp] theorem fl92_0 : fldAt Try.prog 92 0 = some (0, 1, none) := by kernel_rfl
@[simp] theorem fl92_1 : fldAt Try.prog 92 1 = some (1, 1, none) := by kernel_rfl
@[simp] theorem fl92_2 : fldAt Try.prog 92 2 = some (2, 1, none) := by kernel_rfl
@[simp] theorem fl92_3 : fldAt Try.prog 92 3 = some (3, 1, none) := by kernel_rfl
@[simp] theorem zp92 : zp Try.prog 92 = some ([.pointer none, .pointer none, .pointer none, .string ⟨#[]⟩], [(0, 1), (1, 1), (2, 1), (3, 1)]) := by kernel_rfl
@[simp] theorem ld93 : ldSz Try.prog 93 = some (some 0) := by kernel_rfl
@[simp] theorem ts93 : tsz Try.prog 93 = some 0 := by kernel_rfl
@[simp] theorem un93 : (Try.prog.underlying 93).isSome = true := by kernel_rfl
@[simp] theorem na93 : notArr Try.prog 93 = false := by kernel_rfl
@[simp] theorem sf93 : stT Try.prog 93 = none := by kernel_rfl
@[simp] theorem st93 : isStr Try.prog 93 = false := by kernel_rfl
@[simp] theorem zc93 : zeroC Try.prog 93 = some [] := by kernel_rfl
@[simp] theorem sl93 : isSl Try.prog 93 = false := by kernel_rfl
@[simp] theorem ld94 : ldSz Try.prog 94 = some (some 0) := by kernel_rfl
@[simp] theorem ts94 : tsz Try.prog 94 = some 0 := by kernel_rfl
@[simp] theorem un94 : (Try.prog.underlying 94).isSome = true := by kernel_rfl
@[simp] theorem na94 : notArr Try.prog 94 = true := by kernel_rfl
@[simp] theorem sf94 : stT Try.prog 94 = some [93] := by kernel_rfl
@[simp] theorem st94 : isStr Try.prog 94 = false := by kernel_rfl
@[simp] theorem ni94 : notIf Try.prog 94 = true := by kernel_rfl
@[simp] theorem zc94 : zeroC Try.prog 94 = some [] := by kernel_rfl
@[simp] theorem sl94 : isSl Try.prog 94 = false := by kernel_rfl
@[simp] theorem zp94 : zp Try.prog 94 = some ([], [(0, 0)]) := by kernel_rfl
@[simp] theorem ld95 : ldSz Try.prog 95 = some (some 0) := by kernel_rfl
@[simp] theorem ts95 : tsz Try.prog 95 = some 0 := by kernel_rfl
@[simp] theorem un95 : (Try.prog.underlying 95).isSome = true := by kernel_rfl
@[simp] theorem na95 : notArr Try.prog 95 = true := by kernel_rfl
@[simp] theorem sf95 : stT Try.prog 95 = some [93] := by kernel_rfl
@[simp] theorem st95 : isStr Try.prog 95 = false := by kernel_rfl
@[simp] theorem ni95 : notIf Try.prog 95 = true := by kernel_rfl
@[simp] theorem zc95 : zeroC Try.prog 95 = some [] := by kernel_rfl
@[simp] theorem sl95 : isSl Try.prog 95 = false := by kernel_rfl
@[simp] theorem zp95 : zp Try.prog 95 = some ([], [(0, 0)]) := by kernel_rfl
@[simp] theorem ld96 : ldSz Try.prog 96 = some none := by kernel_rfl
@[simp] theorem ts96 : tsz Try.prog 96 = some 1 := by kernel_rfl
@[simp] theorem un96 : (Try.prog.underlying 96).isSome = true := by kernel_rfl
@[simp] theorem na96 : notArr Try.prog 96 = true := by kernel_rfl
@[simp] theorem sf96 : stT Try.prog 96 = none := by kernel_rfl
@[simp] theorem st96 : isStr Try.prog 96 = false := by kernel_rfl
@[simp] theorem zc96 : zeroC Try.prog 96 = some [.nilFunc] := by kernel_rfl
@[simp] theorem sl96 : isSl Try.prog 96 = false := by kernel_rfl
@[simp] theorem ld97 : ldSz Try.prog 97 = some none := by kernel_rfl
@[simp] theorem ts97 : tsz Try.prog 97 = some 1 := by kernel_rfl
@[simp] theorem un97 : (Try.prog.underlying 97).isSome = true := by kernel_rfl
@[simp] theorem na97 : notArr Try.prog 97 = true := by kernel_rfl
@[simp] theorem sf97 : stT Try.prog 97 = none := by kernel_rfl
@[simp] theorem st97 : isStr Try.prog 97 = false := by kernel_rfl
@[simp] theorem io97 : intOfT Try.prog 97 = some .u8 := by kernel_rfl
@[simp] theorem zc97 : zeroC Try.prog 97 = some [.int .u8 0] := by kernel_rfl
@[simp] theorem sl97 : isSl Try.prog 97 = false := by kernel_rfl
@[simp] theorem ld98 : ldSz Try.prog 98 = some none := by kernel_rfl
@[simp] theorem ts98 : tsz Try.prog 98 = some 1 := by kernel_rfl
@[simp] theorem un98 : (Try.prog.underlying 98).isSome = true := by kernel_rfl
@[simp] theorem na98 : notArr Try.prog 98 = true := by kernel_rfl
@[simp] theorem sf98 : stT Try.prog 98 = none := by kernel_rfl
@[simp] theorem st98 : isStr Try.prog 98 = false := by kernel_rfl
@[simp] theorem io98 : intOfT Try.prog 98 = some .u8 := by kernel_rfl
@[simp] theorem zc98 : zeroC Try.prog 98 = some [.int .u8 0] := by kernel_rfl
@[simp] theorem sl98 : isSl Try.prog 98 = false := by kernel_rfl
@[simp] theorem ld99 : ldSz Try.prog 99 = some none := by kernel_rfl
@[simp] theorem ts99 : tsz Try.prog 99 = some 1 := by kernel_rfl
@[simp] theorem un99 : (Try.prog.underlying 99).isSome = true := by kernel_rfl
@[simp] theorem na99 : notArr Try.prog 99 = true := by kernel_rfl
@[simp] theorem sf99 : stT Try.prog 99 = none := by kernel_rfl
@[simp] theorem st99 : isStr Try.prog 99 = false := by kernel_rfl
@[simp] theorem zc99 : zeroC Try.prog 99 = some [.nilFunc] := by kernel_rfl
@[simp] theorem sl99 : isSl Try.prog 99 = false := by kernel_rfl
@[simp] theorem ld100 : ldSz Try.prog 100 = some none := by kernel_rfl
@[simp] theorem ts100 : tsz Try.prog 100 = some 1 := by kernel_rfl
@[simp] theorem un100 : (Try.prog.underlying 100).isSome = true := by kernel_rfl
@[simp] theorem na100 : notArr Try.prog 100 = true := by kernel_rfl
@[simp] theorem sf100 : stT Try.prog 100 = none := by kernel_rfl
@[simp] theorem st100 : isStr Try.prog 100 = false := by kernel_rfl
@[simp] theorem zc100 : zeroC Try.prog 100 = some [.pointer none] := by kernel_rfl
@[simp] theorem sl100 : isSl Try.prog 100 = false := by kernel_rfl
@[simp] theorem ld101 : ldSz Try.prog 101 = some none := by kernel_rfl
@[simp] theorem ts101 : tsz Try.prog 101 = some 1 := by kernel_rfl
@[simp] theorem un101 : (Try.prog.underlying 101).isSome = true := by kernel_rfl
@[simp] theorem na101 : notArr Try.prog 101 = true := by kernel_rfl
@[simp] theorem sf101 : stT Try.prog 101 = none := by kernel_rfl
@[simp] theorem st101 : isStr Try.prog 101 = false := by kernel_rfl
@[simp] theorem io101 : intOfT Try.prog 101 = some .i32 := by kernel_rfl
@[simp] theorem zc101 : zeroC Try.prog 101 = some [.int .i32 0] := by kernel_rfl
@[simp] theorem sl101 : isSl Try.prog 101 = false := by kernel_rfl
@[simp] theorem ld102 : ldSz Try.prog 102 = some none := by kernel_rfl
@[simp] theorem ts102 : tsz Try.prog 102 = some 1 := by kernel_rfl
@[simp] theorem un102 : (Try.prog.underlying 102).isSome = true := by kernel_rfl
@[simp] theorem na102 : notArr Try.prog 102 = true := by kernel_rfl
@[simp] theorem sf102 : stT Try.prog 102 = none := by kernel_rfl
@[simp] theorem st102 : isStr Try.prog 102 = false := by kernel_rfl
@[simp] theorem io102 : intOfT Try.prog 102 = some .i32 := by kernel_rfl
@[simp] theorem zc102 : zeroC Try.prog 102 = some [.int .i32 0] := by kernel_rfl
@[simp] theorem sl102 : isSl Try.prog 102 = false := by kernel_rfl
@[simp] theorem ld103 : ldSz Try.prog 103 = some (some 11) := by kernel_rfl
@[simp] theorem ts103 : tsz Try.prog 103 = some 11 := by kernel_rfl
@[simp] theorem un103 : (Try.prog.underlying 103).isSome = true := by kernel_rfl
@[simp] theorem na103 : notArr Try.prog 103 = true := by kernel_rfl
@[simp] theorem sf103 : stT Try.prog 103 = some [12, 12, 64, 97, 5, 5, 98, 99, 100, 101, 102] := by kernel_rfl
@[simp] theorem st103 : isStr Try.prog 103 = false := by kernel_rfl
@[simp] theorem ni103 : notIf Try.prog 103 = true := by kernel_rfl
@[simp] theorem zc103 : zeroC Try.prog 103 = some [.int .u64 0, .int .u64 0, .int .u32 0, .int .u8 0, .int .u8 0, .int .u8 0, .int .u8 0, .nilFunc, .pointer none, .int .i32 0, .int .i32 0] := by kernel_rfl
@[simp] theorem sl103 : isSl Try.prog 103 = false := by kernel_rfl
@[simp] theorem fl103_0 : fldAt Try.prog 103 0 = some (0, 1, none) := by kernel_rfl
@[simp] theorem fl103_1 : fldAt Try.prog 103 1 = some (1, 1, none) := by kernel_rfl
@[simp] theorem fl103_2 : fldAt Try.prog 103 2 = some (2, 1, none) := by kernel_rfl
@[simp] theorem fl103_3 : fldAt Try.prog 103 3 = some (3, 1, none) := by kernel_rfl
@[simp] theorem fl103_4 : fldAt Try.prog 103 4 = some (4, 1, none) := by kernel_rfl
@[simp] theorem fl103_5 : fldAt Try.prog 103 5 = some (5, 1, none) := by kernel_rfl
@[simp] theorem fl103_6 : fldAt Try.prog 103 6 = some (6, 1, none) := by kernel_rfl
@[simp] theorem fl103_7 : fldAt Try.prog 103 7 = some (7, 1, none) := by kernel_rfl
@[simp] theorem fl103_8 : fldAt Try.prog 103 8 = some (8, 1, none) := by kernel_rfl
@[simp] theorem fl103_9 : fldAt Try.prog 103 9 = some (9, 1, none) := by kernel_rfl
@[simp] theorem fl103_10 : fldAt Try.prog 103 10 = some (10, 1, none) := by kernel_rfl
@[simp] theorem zp103 : zp Try.prog 103 = some ([.int .u64 0, .int .u64 0, .int .u32 0, .int .u8 0, .int .u8 0, .int .u8 0, .int .u8 0, .nilFunc, .pointer none, .int .i32 0, .int .i32 0], [(0, 1), (1, 1), (2, 1), (3, 1), (4, 1), (5, 1), (6, 1), (7, 1), (8, 1), (9, 1), (10, 1)]) := by kernel_rfl
@[simp] theorem ld104 : ldSz Try.prog 104 = some (some 11) := by kernel_rfl
@[simp] theorem ts104 : tsz Try.prog 104 = some 11 := by kernel_rfl
@[simp] theorem un104 : (Try.prog.underlying 104).isSome = true := by kernel_rfl
@[simp] theorem na104 : notArr Try.prog 104 = true := by kernel_rfl
@[simp] theorem sf104 : stT Try.prog 104 = some [12, 12, 64, 97, 5, 5, 98, 99, 100, 101, 102] := by kernel_rfl
@[simp] theorem st104 : isStr Try.prog 104 = false := by kernel_rfl
@[simp] theorem ni104 : notIf Try.prog 104 = true := by kernel_rfl
@[simp] theorem zc104 : zeroC Try.prog 104 = some [.int .u64 0, .int .u64 0, .int .u32 0, .int .u8 0, .int .u8 0, .int .u8 0, .int .u8 0, .nilFunc, .pointer none, .int .i32 0, .int .i32 0] := by kernel_rfl
@[simp] theorem sl104 : isSl Try.prog 104 = false := by kernel_rfl
@[simp] theorem fl104_0 : fldAt Try.prog 104 0 = some (0, 1, none) := by kernel_rfl
@[simp] theorem fl104_1 : fldAt Try.prog 104 1 = some (1, 1, none) := by kernel_rfl
@[simp] theorem fl104_2 : fldAt Try.prog 104 2 = some (2, 1, none) := by kernel_rfl
@[simp] theorem fl104_3 : fldAt Try.prog 104 3 = some (3, 1, none) := by kernel_rfl
@[simp] theorem fl104_4 : fldAt Try.prog 104 4 = some (4, 1, none) := by kernel_rfl
@[simp] theorem fl104_5 : fldAt Try.prog 104 5 = some (5, 1, none) := by kernel_rfl
@[simp] theorem fl104_6 : fldAt Try.prog 104 6 = some (6, 1, none) := by kernel_rfl
@[simp] theorem fl104_7 : fldAt Try.prog 104 7 = some (7, 1, none) := by kernel_rfl
@[simp] theorem fl104_8 : fldAt Try.prog 104 8 = some (8, 1, none) := by kernel_rfl
@[simp] theorem fl104_9 : fldAt Try.prog 104 9 = some (9, 1, none) := by kernel_rfl
@[simp] theorem fl104_10 : fldAt Try.prog 104 10 = some (10, 1, none) := by kernel_rfl
@[simp] theorem zp104 : zp Try.prog 104 = some ([.int .u64 0, .int .u64 0, .int .u32 0, .int .u8 0, .int .u8 0, .int .u8 0, .int .u8 0, .nilFunc, .pointer none, .int .i32 0, .int .i32 0], [(0, 1), (1, 1), (2, 1), (3, 1), (4, 1), (5, 1), (6, 1), (7, 1), (8, 1), (9, 1), (10, 1)]) := by kernel_rfl
@[simp] theorem ld105 : ldSz Try.prog 105 = some none := by kernel_rfl
@[simp] theorem ts105 : tsz Try.prog 105 = some 1 := by kernel_rfl
@[simp] theorem un105 : (Try.prog.underlying 105).isSome = true := by kernel_rfl
@[simp] theorem na105 : notArr Try.prog 105 = true := by kernel_rfl
@[simp] theorem sf105 : stT Try.prog 105 = none := by kernel_rfl
@[simp] theorem st105 : isStr Try.prog 105 = false := by kernel_rfl
@[simp] theorem zc105 : zeroC Try.prog 105 = some [.pointer none] := by kernel_rfl
@[simp] theorem sl105 : isSl Try.prog 105 = false := by kernel_rfl
@[simp] theorem ca3 : callable Try.prog 3 = true := by kernel_rfl
@[simp] theorem ca4 : callable Try.prog 4 = true := by kernel_rfl
@[simp] theorem ca5 : callable Try.prog 5 = true := by kernel_rfl
@[simp] theorem ca6 : callable Try.prog 6 = true := by kernel_rfl
@[simp] theorem ca7 : callable Try.prog 7 = true := by kernel_rfl
@[simp] theorem ca8 : callable Try.prog 8 = true := by kernel_rfl
@[simp] theorem ca9 : callable Try.prog 9 = true := by kernel_rfl
@[simp] theorem ca10 : callable Try.prog 10 = true := by kernel_rfl
@[simp] theorem ca11 : callable Try.prog 11 = true := by kernel_rfl
@[simp] theorem ca12 : callable Try.prog 12 = true := by kernel_rfl
@[simp] theorem ca13 : callable Try.prog 13 = true := by kernel_rfl
@[simp] theorem ca14 : callable Try.prog 14 = true := by kernel_rfl
@[simp] theorem ca15 : callable Try.prog 15 = true := by kernel_rfl
@[simp] theorem ca16 : callable Try.prog 16 = true := by kernel_rfl
@[simp] theorem ca17 : callable Try.prog 17 = true := by kernel_rfl
@[simp] theorem ca18 : callable Try.prog 18 = true := by kernel_rfl
@[simp] theorem ca19 : callable Try.prog 19 = true := by kernel_rfl
@[simp] theorem ca20 : callable Try.prog 20 = true := by kernel_rfl
@[simp] theorem ca21 : callable Try.prog 21 = true := by kernel_rfl
@[simp] theorem ca22 : callable Try.prog 22 = true := by kernel_rfl
@[simp] theorem ca23 : callable Try.prog 23 = true := by kernel_rfl
@[simp] theorem ca24 : callable Try.prog 24 = true := by kernel_rfl
@[simp] theorem ca25 : callable Try.prog 25 = true := by kernel_rfl
@[simp] theorem ca26 : callable Try.prog 26 = true := by kernel_rfl
@[simp] theorem ca27 : callable Try.prog 27 = true := by kernel_rfl
@[simp] theorem ca28 : callable Try.prog 28 = true := by kernel_rfl
@[simp] theorem ca29 : callable Try.prog 29 = true := by kernel_rfl
@[simp] theorem ca30 : callable Try.prog 30 = true := by kernel_rfl
@[simp] theorem ca31 : callable Try.prog 31 = true := by kernel_rfl
@[simp] theorem ca32 : callable Try.prog 32 = true := by kernel_rfl
@[simp] theorem ca33 : callable Try.prog 33 = true := by kernel_rfl
@[simp] theorem ca34 : callable Try.prog 34 = true := by kernel_rfl
@[simp] theorem ca35 : callable Try.prog 35 = true := by kernel_rfl
@[simp] theorem ca36 : callable Try.prog 36 = true := by kernel_rfl
@[simp] theorem ca37 : callable Try.prog 37 = true := by kernel_rfl
@[simp] theorem ca38 : callable Try.prog 38 = true := by kernel_rfl
@[simp] theorem ca39 : callable Try.prog 39 = true := by kernel_rfl
@[simp] theorem ca40 : callable Try.prog 40 = true := by kernel_rfl
@[simp] theorem ca41 : callable Try.prog 41 = true := by kernel_rfl
@[simp] theorem ca42 : callable Try.prog 42 = true := by kernel_rfl
@[simp] theorem ca43 : callable Try.prog 43 = true := by kernel_rfl
@[simp] theorem ca44 : callable Try.prog 44 = true := by kernel_rfl
@[simp] theorem ca45 : callable Try.prog 45 = true := by kernel_rfl
@[simp] theorem ca46 : callable Try.prog 46 = true := by kernel_rfl
@[simp] theorem ca47 : callable Try.prog 47 = true := by kernel_rfl
@[simp] theorem ca48 : callable Try.prog 48 = true := by kernel_rfl
@[simp] theorem ca49 : callable Try.prog 49 = true := by kernel_rfl
@[simp] theorem ca50 : callable Try.prog 50 = true := by kernel_rfl
@[simp] theorem ca52 : callable Try.prog 52 = true := by kernel_rfl
@[simp] theorem ca53 : callable Try.prog 53 = true := by kernel_rfl
@[simp] theorem ca54 : callable Try.prog 54 = true := by kernel_rfl
@[simp] theorem ca55 : callable Try.prog 55 = true := by kernel_rfl
@[simp] theorem ca56 : callable Try.prog 56 = true := by kernel_rfl
@[simp] theorem ca57 : callable Try.prog 57 = true := by kernel_rfl
@[simp] theorem ca59 : callable Try.prog 59 = true := by kernel_rfl
@[simp] theorem ca60 : callable Try.prog 60 = true := by kernel_rfl
@[simp] theorem ca62 : callable Try.prog 62 = true := by kernel_rfl
end Go.Proofs.Ytdkadmchdocjbaa
