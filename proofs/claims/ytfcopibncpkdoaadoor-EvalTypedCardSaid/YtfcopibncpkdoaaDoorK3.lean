/- Texts joined by a program of mine: Ty VLP Ua Ub Uc Ud Uf Ug Uh Fa VLR VLS VLT. -/
import Derived.Test.YtfcopibncpkdoaaDoorK2
import Derived.Test.YtfcopibncpkdoaaDoorRows
import Derived.ProofKit
import Derived.Below
import Derived.ChangeSame
import Derived.Deep.Slices
import Derived.Sort.OwnSortedInts
set_option linter.all false
set_option maxRecDepth 100000
set_option maxHeartbeats 8000000
namespace Go.Proofs.YtfcopibncpkdoaaDoor
open Go Go.VL
@[simp] theorem ld3 : ldSz Tryd.prog 3 = some none := by kernel_rfl
@[simp] theorem ts3 : tsz Tryd.prog 3 = some 1 := by kernel_rfl
@[simp] theorem na3 : notArr Tryd.prog 3 = true := by kernel_rfl
@[simp] theorem sf3 : stT Tryd.prog 3 = none := by kernel_rfl
@[simp] theorem io3 : intOfT Tryd.prog 3 = some .i64 := by kernel_rfl
@[simp] theorem zc3 : zeroC Tryd.prog 3 = some [.int .i64 0] := by kernel_rfl
@[simp] theorem sl3 : isSl Tryd.prog 3 = false := by kernel_rfl
@[simp] theorem ld4 : ldSz Tryd.prog 4 = some none := by kernel_rfl
@[simp] theorem ts4 : tsz Tryd.prog 4 = some 1 := by kernel_rfl
@[simp] theorem sl4 : isSl Tryd.prog 4 = false := by kernel_rfl
@[simp] theorem ld9 : ldSz Tryd.prog 9 = some none := by kernel_rfl
@[simp] theorem na9 : notArr Tryd.prog 9 = true := by kernel_rfl
@[simp] theorem st9 : isStr Tryd.prog 9 = true := by kernel_rfl
@[simp] theorem sl9 : isSl Tryd.prog 9 = false := by kernel_rfl
@[simp] theorem an20 : isAny Tryd.prog 20 = true := by kernel_rfl
@[simp] theorem ld22 : ldSz Tryd.prog 22 = some none := by kernel_rfl
@[simp] theorem es22 : elSz Tryd.prog 22 = some (24, 5) := by kernel_rfl
@[simp] theorem ei22 : elInf Tryd.prog 22 = some (24, 5, 64, [.int .i64 0, .int .i64 0, .int .i64 0, .string ⟨#[]⟩, .slice none 0 0]) := by kernel_rfl
@[simp] theorem ld24 : ldSz Tryd.prog 24 = some (some 5) := by kernel_rfl
@[simp] theorem ts24 : tsz Tryd.prog 24 = some 5 := by kernel_rfl
@[simp] theorem sf24 : stT Tryd.prog 24 = some [3, 3, 3, 9, 22] := by kernel_rfl
@[simp] theorem zc24 : zeroC Tryd.prog 24 = some [.int .i64 0, .int .i64 0, .int .i64 0, .string ⟨#[]⟩, .slice none 0 0] := by kernel_rfl
@[simp] theorem fl24_0 : fldAt Tryd.prog 24 0 = some (0, 1, none) := by kernel_rfl
@[simp] theorem fl24_1 : fldAt Tryd.prog 24 1 = some (1, 1, none) := by kernel_rfl
@[simp] theorem fl24_2 : fldAt Tryd.prog 24 2 = some (2, 1, none) := by kernel_rfl
@[simp] theorem fl24_3 : fldAt Tryd.prog 24 3 = some (3, 1, none) := by kernel_rfl
@[simp] theorem fl24_4 : fldAt Tryd.prog 24 4 = some (4, 1, none) := by kernel_rfl
@[simp] theorem zp24 : zp Tryd.prog 24 = some ([.int .i64 0, .int .i64 0, .int .i64 0, .string ⟨#[]⟩, .slice none 0 0], [(0, 1), (1, 1), (2, 1), (3, 1), (4, 1)]) := by kernel_rfl
@[simp] theorem es25 : elSz Tryd.prog 25 = some (33, 3) := by kernel_rfl
@[simp] theorem ei25 : elInf Tryd.prog 25 = some (33, 3, 32, [.string ⟨#[]⟩, .int .i64 0, .int .i64 0]) := by kernel_rfl
@[simp] theorem ld27 : ldSz Tryd.prog 27 = some (some 6) := by kernel_rfl
@[simp] theorem ts27 : tsz Tryd.prog 27 = some 6 := by kernel_rfl
@[simp] theorem sf27 : stT Tryd.prog 27 = some [9, 24] := by kernel_rfl
@[simp] theorem zc27 : zeroC Tryd.prog 27 = some [.string ⟨#[]⟩, .int .i64 0, .int .i64 0, .int .i64 0, .string ⟨#[]⟩, .slice none 0 0] := by kernel_rfl
@[simp] theorem fl27_0 : fldAt Tryd.prog 27 0 = some (0, 1, none) := by kernel_rfl
@[simp] theorem fl27_1 : fldAt Tryd.prog 27 1 = some (1, 5, some 5) := by kernel_rfl
@[simp] theorem zp27 : zp Tryd.prog 27 = some ([.string ⟨#[]⟩, .int .i64 0, .int .i64 0, .int .i64 0, .string ⟨#[]⟩, .slice none 0 0], [(0, 1), (1, 5)]) := by kernel_rfl
@[simp] theorem ld30 : ldSz Tryd.prog 30 = some none := by kernel_rfl
@[simp] theorem na30 : notArr Tryd.prog 30 = true := by kernel_rfl
@[simp] theorem es30 : elSz Tryd.prog 30 = some (27, 6) := by kernel_rfl
@[simp] theorem ei30 : elInf Tryd.prog 30 = some (27, 6, 80, [.string ⟨#[]⟩, .int .i64 0, .int .i64 0, .int .i64 0, .string ⟨#[]⟩, .slice none 0 0]) := by kernel_rfl
@[simp] theorem ld33 : ldSz Tryd.prog 33 = some (some 3) := by kernel_rfl
@[simp] theorem ts33 : tsz Tryd.prog 33 = some 3 := by kernel_rfl
@[simp] theorem zc33 : zeroC Tryd.prog 33 = some [.string ⟨#[]⟩, .int .i64 0, .int .i64 0] := by kernel_rfl
@[simp] theorem fl33_0 : fldAt Tryd.prog 33 0 = some (0, 1, none) := by kernel_rfl
@[simp] theorem fl33_1 : fldAt Tryd.prog 33 1 = some (1, 1, none) := by kernel_rfl
@[simp] theorem fl33_2 : fldAt Tryd.prog 33 2 = some (2, 1, none) := by kernel_rfl
@[simp] theorem zp33 : zp Tryd.prog 33 = some ([.string ⟨#[]⟩, .int .i64 0, .int .i64 0], [(0, 1), (1, 1), (2, 1)]) := by kernel_rfl
@[simp] theorem ld35 : ldSz Tryd.prog 35 = some none := by kernel_rfl
@[simp] theorem ts35 : tsz Tryd.prog 35 = some 1 := by kernel_rfl
@[simp] theorem zc35 : zeroC Tryd.prog 35 = some [.int .i64 0] := by kernel_rfl
@[simp] theorem ld41 : ldSz Tryd.prog 41 = some none := by kernel_rfl
@[simp] theorem na41 : notArr Tryd.prog 41 = true := by kernel_rfl
@[simp] theorem sf41 : stT Tryd.prog 41 = none := by kernel_rfl
@[simp] theorem es41 : elSz Tryd.prog 41 = some (3, 1) := by kernel_rfl
@[simp] theorem ei41 : elInf Tryd.prog 41 = some (3, 1, 8, [.int .i64 0]) := by kernel_rfl
@[simp] theorem ld46 : ldSz Tryd.prog 46 = some (some 37) := by kernel_rfl
@[simp] theorem sf46 : stT Tryd.prog 46 = some [3, 3, 3, 3, 3, 3, 4, 3, 3, 3, 3, 30, 24, 24, 24, 24, 24] := by kernel_rfl
@[simp] theorem fl46_0 : fldAt Tryd.prog 46 0 = some (0, 1, none) := by kernel_rfl
@[simp] theorem fl46_1 : fldAt Tryd.prog 46 1 = some (1, 1, none) := by kernel_rfl
@[simp] theorem fl46_2 : fldAt Tryd.prog 46 2 = some (2, 1, none) := by kernel_rfl
@[simp] theorem fl46_3 : fldAt Tryd.prog 46 3 = some (3, 1, none) := by kernel_rfl
@[simp] theorem fl46_4 : fldAt Tryd.prog 46 4 = some (4, 1, none) := by kernel_rfl
@[simp] theorem fl46_5 : fldAt Tryd.prog 46 5 = some (5, 1, none) := by kernel_rfl
@[simp] theorem fl46_6 : fldAt Tryd.prog 46 6 = some (6, 1, none) := by kernel_rfl
@[simp] theorem fl46_7 : fldAt Tryd.prog 46 7 = some (7, 1, none) := by kernel_rfl
@[simp] theorem fl46_8 : fldAt Tryd.prog 46 8 = some (8, 1, none) := by kernel_rfl
@[simp] theorem fl46_9 : fldAt Tryd.prog 46 9 = some (9, 1, none) := by kernel_rfl
@[simp] theorem fl46_10 : fldAt Tryd.prog 46 10 = some (10, 1, none) := by kernel_rfl
@[simp] theorem fl46_11 : fldAt Tryd.prog 46 11 = some (11, 1, none) := by kernel_rfl
@[simp] theorem fl46_12 : fldAt Tryd.prog 46 12 = some (12, 5, some 5) := by kernel_rfl
@[simp] theorem fl46_13 : fldAt Tryd.prog 46 13 = some (17, 5, some 5) := by kernel_rfl
@[simp] theorem fl46_14 : fldAt Tryd.prog 46 14 = some (22, 5, some 5) := by kernel_rfl
@[simp] theorem fl46_15 : fldAt Tryd.prog 46 15 = some (27, 5, some 5) := by kernel_rfl
@[simp] theorem fl46_16 : fldAt Tryd.prog 46 16 = some (32, 5, some 5) := by kernel_rfl
@[simp] theorem ld59 : ldSz Tryd.prog 59 = some none := by kernel_rfl
@[simp] theorem ld60 : ldSz Tryd.prog 60 = some none := by kernel_rfl
@[simp] theorem es60 : elSz Tryd.prog 60 = some (153, 3) := by kernel_rfl
@[simp] theorem ei60 : elInf Tryd.prog 60 = some (153, 3, 24, [.int .i64 0, .int .i64 0, .bool false]) := by kernel_rfl
@[simp] theorem ld61 : ldSz Tryd.prog 61 = some none := by kernel_rfl
@[simp] theorem mi61 : mapInf Tryd.prog 61 = some (.s, false, [.int .i64 0]) := by kernel_rfl
@[simp] theorem fl63_0 : fldAt Tryd.prog 63 0 = some (0, 1, none) := by kernel_rfl
@[simp] theorem fl63_1 : fldAt Tryd.prog 63 1 = some (1, 1, none) := by kernel_rfl
@[simp] theorem fl63_2 : fldAt Tryd.prog 63 2 = some (2, 1, none) := by kernel_rfl
@[simp] theorem zp63 : zp Tryd.prog 63 = some ([.slice none 0 0, .slice none 0 0, .map none], [(0, 1), (1, 1), (2, 1)]) := by kernel_rfl
@[simp] theorem mi72 : mapInf Tryd.prog 72 = some (.s, true, [.int .i64 0, .int .i64 0, .int .i64 0, .str [], .nil]) := by kernel_rfl
@[simp] theorem es75 : elSz Tryd.prog 75 = some (9, 1) := by kernel_rfl
@[simp] theorem ei75 : elInf Tryd.prog 75 = some (9, 1, 16, [.string ⟨#[]⟩]) := by kernel_rfl
@[simp] theorem mi76 : mapInf Tryd.prog 76 = some (.s, false, [.nil]) := by kernel_rfl
@[simp] theorem ld81 : ldSz Tryd.prog 81 = some none := by kernel_rfl
@[simp] theorem ld90 : ldSz Tryd.prog 90 = some (some 4) := by kernel_rfl
@[simp] theorem ts90 : tsz Tryd.prog 90 = some 4 := by kernel_rfl
@[simp] theorem zc90 : zeroC Tryd.prog 90 = some [.int .i64 0, .string ⟨#[]⟩, .int .i64 0, .int .i64 0] := by kernel_rfl
@[simp] theorem fl90_0 : fldAt Tryd.prog 90 0 = some (0, 1, none) := by kernel_rfl
@[simp] theorem fl90_1 : fldAt Tryd.prog 90 1 = some (1, 1, none) := by kernel_rfl
@[simp] theorem fl90_2 : fldAt Tryd.prog 90 2 = some (2, 1, none) := by kernel_rfl
@[simp] theorem fl90_3 : fldAt Tryd.prog 90 3 = some (3, 1, none) := by kernel_rfl
@[simp] theorem zp90 : zp Tryd.prog 90 = some ([.int .i64 0, .string ⟨#[]⟩, .int .i64 0, .int .i64 0], [(0, 1), (1, 1), (2, 1), (3, 1)]) := by kernel_rfl
@[simp] theorem ts93 : tsz Tryd.prog 93 = some 1 := by kernel_rfl
@[simp] theorem ni93 : notIf Tryd.prog 93 = true := by kernel_rfl
@[simp] theorem zc93 : zeroC Tryd.prog 93 = some [.int .i64 0] := by kernel_rfl
@[simp] theorem fl93_0 : fldAt Tryd.prog 93 0 = some (0, 1, none) := by kernel_rfl
@[simp] theorem zp93 : zp Tryd.prog 93 = some ([.int .i64 0], [(0, 1)]) := by kernel_rfl
@[simp] theorem ld113 : ldSz Tryd.prog 113 = some none := by kernel_rfl
@[simp] theorem es113 : elSz Tryd.prog 113 = some (90, 4) := by kernel_rfl
@[simp] theorem ei113 : elInf Tryd.prog 113 = some (90, 4, 40, [.int .i64 0, .string ⟨#[]⟩, .int .i64 0, .int .i64 0]) := by kernel_rfl
@[simp] theorem fl117_0 : fldAt Tryd.prog 117 0 = some (0, 1, none) := by kernel_rfl
@[simp] theorem fl117_1 : fldAt Tryd.prog 117 1 = some (1, 1, none) := by kernel_rfl
@[simp] theorem zp117 : zp Tryd.prog 117 = some ([.slice none 0 0, .int .i64 0], [(0, 1), (1, 1)]) := by kernel_rfl
@[simp] theorem ts119 : tsz Tryd.prog 119 = some 2 := by kernel_rfl
@[simp] theorem ni119 : notIf Tryd.prog 119 = true := by kernel_rfl
@[simp] theorem zc119 : zeroC Tryd.prog 119 = some [.int .i64 0, .int .i64 0] := by kernel_rfl
@[simp] theorem fl119_0 : fldAt Tryd.prog 119 0 = some (0, 1, none) := by kernel_rfl
@[simp] theorem fl119_1 : fldAt Tryd.prog 119 1 = some (1, 1, none) := by kernel_rfl
@[simp] theorem zp119 : zp Tryd.prog 119 = some ([.int .i64 0, .int .i64 0], [(0, 1), (1, 1)]) := by kernel_rfl
@[simp] theorem es124 : elSz Tryd.prog 124 = some (126, 3) := by kernel_rfl
@[simp] theorem ei124 : elInf Tryd.prog 124 = some (126, 3, 32, [.string ⟨#[]⟩, .int .i64 0, .int .i64 0]) := by kernel_rfl
@[simp] theorem ld126 : ldSz Tryd.prog 126 = some (some 3) := by kernel_rfl
@[simp] theorem ts126 : tsz Tryd.prog 126 = some 3 := by kernel_rfl
@[simp] theorem zc126 : zeroC Tryd.prog 126 = some [.string ⟨#[]⟩, .int .i64 0, .int .i64 0] := by kernel_rfl
@[simp] theorem fl126_0 : fldAt Tryd.prog 126 0 = some (0, 1, none) := by kernel_rfl
@[simp] theorem fl126_1 : fldAt Tryd.prog 126 1 = some (1, 1, none) := by kernel_rfl
@[simp] theorem fl126_2 : fldAt Tryd.prog 126 2 = some (2, 1, none) := by kernel_rfl
@[simp] theorem zp126 : zp Tryd.prog 126 = some ([.string ⟨#[]⟩, .int .i64 0, .int .i64 0], [(0, 1), (1, 1), (2, 1)]) := by kernel_rfl
@[simp] theorem ld138 : ldSz Tryd.prog 138 = some none := by kernel_rfl
@[simp] theorem mi138 : mapInf Tryd.prog 138 = some (.s, true, [.int .i64 0, .int .i64 0, .bool false]) := by kernel_rfl
@[simp] theorem fl140_0 : fldAt Tryd.prog 140 0 = some (0, 1, none) := by kernel_rfl
@[simp] theorem fl140_1 : fldAt Tryd.prog 140 1 = some (1, 1, none) := by kernel_rfl
@[simp] theorem zp140 : zp Tryd.prog 140 = some ([.map none, .map none], [(0, 1), (1, 1)]) := by kernel_rfl
@[simp] theorem ts142 : tsz Tryd.prog 142 = some 3 := by kernel_rfl
@[simp] theorem zc142 : zeroC Tryd.prog 142 = some [.int .i64 0, .int .i64 0, .bool false] := by kernel_rfl
@[simp] theorem fl142_0 : fldAt Tryd.prog 142 0 = some (0, 1, none) := by kernel_rfl
@[simp] theorem fl142_1 : fldAt Tryd.prog 142 1 = some (1, 1, none) := by kernel_rfl
@[simp] theorem fl142_2 : fldAt Tryd.prog 142 2 = some (2, 1, none) := by kernel_rfl
@[simp] theorem zp142 : zp Tryd.prog 142 = some ([.int .i64 0, .int .i64 0, .bool false], [(0, 1), (1, 1), (2, 1)]) := by kernel_rfl
@[simp] theorem fl153_0 : fldAt Tryd.prog 153 0 = some (0, 1, none) := by kernel_rfl
@[simp] theorem fl153_1 : fldAt Tryd.prog 153 1 = some (1, 1, none) := by kernel_rfl
@[simp] theorem fl153_2 : fldAt Tryd.prog 153 2 = some (2, 1, none) := by kernel_rfl
@[simp] theorem ld159 : ldSz Tryd.prog 159 = some (some 11) := by kernel_rfl
@[simp] theorem ar159 : arr1 Tryd.prog 159 = some 11 := by kernel_rfl
@[simp] theorem ca9 : callable Tryd.prog 9 = true := by kernel_rfl
@[simp] theorem ca10 : callable Tryd.prog 10 = true := by kernel_rfl
@[simp] theorem ca11 : callable Tryd.prog 11 = true := by kernel_rfl
@[simp] theorem ca13 : callable Tryd.prog 13 = true := by kernel_rfl
@[simp] theorem ca15 : callable Tryd.prog 15 = true := by kernel_rfl
@[simp] theorem ca17 : callable Tryd.prog 17 = true := by kernel_rfl
@[simp] theorem ca19 : callable Tryd.prog 19 = true := by kernel_rfl
@[simp] theorem ca21 : callable Tryd.prog 21 = true := by kernel_rfl
@[simp] theorem ca22 : callable Tryd.prog 22 = true := by kernel_rfl
@[simp] theorem ca23 : callable Tryd.prog 23 = true := by kernel_rfl
@[simp] theorem ca24 : callable Tryd.prog 24 = true := by kernel_rfl
@[simp] theorem ca25 : callable Tryd.prog 25 = true := by kernel_rfl
@[simp] theorem ca26 : callable Tryd.prog 26 = true := by kernel_rfl
@[simp] theorem ca27 : callable Tryd.prog 27 = true := by kernel_rfl
@[simp] theorem ca28 : callable Tryd.prog 28 = true := by kernel_rfl
@[simp] theorem ca31 : callable Tryd.prog 31 = true := by kernel_rfl
@[simp] theorem ca34 : callable Tryd.prog 34 = true := by kernel_rfl
@[simp] theorem ca35 : callable Tryd.prog 35 = true := by kernel_rfl
@[simp] theorem ca36 : callable Tryd.prog 36 = true := by kernel_rfl
@[simp] theorem ca37 : callable Tryd.prog 37 = true := by kernel_rfl
@[simp] theorem ca38 : callable Tryd.prog 38 = true := by kernel_rfl
@[simp] theorem ca41 : callable Tryd.prog 41 = true := by kernel_rfl
@[simp] theorem ca42 : callable Tryd.prog 42 = true := by kernel_rfl
@[simp] theorem ca43 : callable Tryd.prog 43 = true := by kernel_rfl
@[simp] theorem ca44 : callable Tryd.prog 44 = true := by kernel_rfl
@[simp] theorem ca46 : callable Tryd.prog 46 = true := by kernel_rfl
@[simp] theorem ca47 : callable Tryd.prog 47 = true := by kernel_rfl
@[simp] theorem ca48 : callable Tryd.prog 48 = true := by kernel_rfl
@[simp] theorem ca49 : callable Tryd.prog 49 = true := by kernel_rfl
@[simp] theorem ca50 : callable Tryd.prog 50 = true := by kernel_rfl
@[simp] theorem ca59 : callable Tryd.prog 59 = true := by kernel_rfl
@[simp] theorem ca60 : callable Tryd.prog 60 = true := by kernel_rfl
@[simp] theorem ca61 : callable Tryd.prog 61 = true := by kernel_rfl
@[simp] theorem ca63 : callable Tryd.prog 63 = true := by kernel_rfl
@[simp] theorem ca64 : callable Tryd.prog 64 = true := by kernel_rfl
@[simp] theorem ca65 : callable Tryd.prog 65 = true := by kernel_rfl
@[simp] theorem ca66 : callable Tryd.prog 66 = true := by kernel_rfl
@[simp] theorem ca67 : callable Tryd.prog 67 = true := by kernel_rfl
@[simp] theorem ca68 : callable Tryd.prog 68 = true := by kernel_rfl
@[simp] theorem ca69 : callable Tryd.prog 69 = true := by kernel_rfl
@[simp] theorem ca71 : callable Tryd.prog 71 = true := by kernel_rfl
@[simp] theorem ca72 : callable Tryd.prog 72 = true := by kernel_rfl
@[simp] theorem ca73 : callable Tryd.prog 73 = true := by kernel_rfl
@[simp] theorem ca74 : callable Tryd.prog 74 = true := by kernel_rfl
@[simp] theorem ca75 : callable Tryd.prog 75 = true := by kernel_rfl
@[simp] theorem ca76 : callable Tryd.prog 76 = true := by kernel_rfl
@[simp] theorem ca77 : callable Tryd.prog 77 = true := by kernel_rfl
@[simp] theorem ca78 : callable Tryd.prog 78 = true := by kernel_rfl
@[simp] theorem ca79 : callable Tryd.prog 79 = true := by kernel_rfl
@[simp] theorem ca80 : callable Tryd.prog 80 = true := by kernel_rfl
@[simp] theorem ca85 : callable Tryd.prog 85 = true := by kernel_rfl
@[simp] theorem ca86 : callable Tryd.prog 86 = true := by kernel_rfl
@[simp] theorem ca87 : callable Tryd.prog 87 = true := by kernel_rfl
@[simp] theorem ca90 : callable Tryd.prog 90 = true := by kernel_rfl
@[simp] theorem ca91 : callable Tryd.prog 91 = true := by kernel_rfl
@[simp] theorem ca92 : callable Tryd.prog 92 = true := by kernel_rfl
@[simp] theorem ca93 : callable Tryd.prog 93 = true := by kernel_rfl
@[simp] theorem ca94 : callable Tryd.prog 94 = true := by kernel_rfl
@[simp] theorem ca95 : callable Tryd.prog 95 = true := by kernel_rfl
@[simp] theorem ca96 : callable Tryd.prog 96 = true := by kernel_rfl
@[simp] theorem ca97 : callable Tryd.prog 97 = true := by kernel_rfl
@[simp] theorem ca98 : callable Tryd.prog 98 = true := by kernel_rfl
@[simp] theorem ca99 : callable Tryd.prog 99 = true := by kernel_rfl
@[simp] theorem ca100 : callable Tryd.prog 100 = true := by kernel_rfl
@[simp] theorem ca101 : callable Tryd.prog 101 = true := by kernel_rfl
@[simp] theorem ca102 : callable Tryd.prog 102 = true := by kernel_rfl
@[simp] theorem ca103 : callable Tryd.prog 103 = true := by kernel_rfl
@[simp] theorem ca104 : callable Tryd.prog 104 = true := by kernel_rfl
@[simp] theorem ca105 : callable Tryd.prog 105 = true := by kernel_rfl
@[simp] theorem ca106 : callable Tryd.prog 106 = true := by kernel_rfl
@[simp] theorem ca109 : callable Tryd.prog 109 = true := by kernel_rfl
@[simp] theorem ca110 : callable Tryd.prog 110 = true := by kernel_rfl
@[simp] theorem ca111 : callable Tryd.prog 111 = true := by kernel_rfl
@[simp] theorem ca112 : callable Tryd.prog 112 = true := by kernel_rfl
@[simp] theorem ca113 : callable Tryd.prog 113 = true := by kernel_rfl
@[simp] theorem ca114 : callable Tryd.prog 114 = true := by kernel_rfl
@[simp] theorem ca115 : callable Tryd.prog 115 = true := by kernel_rfl
@[simp] theorem ca116 : callable Tryd.prog 116 = true := by kernel_rfl
end Go.Proofs.YtfcopibncpkdoaaDoor
namespace Go.VL
open Go Go.ChangeShapes Go.WideShapes Go.ChangeAt Go.RowKit Go.Deep
/-- The memory of a world. -/
def wmem (w : World) : Mem := fun b o => look w b o
inductive HasRow (P : Program) : TypeId → List U → Prop
 | bool {t b} (h : P.underlying t = some .bool) : HasRow P t [.bool b]
 | int {t k n} (h : P.underlying t = some (.int k)) (h1 : k.min ≤ n) (h2 : n ≤ k.max) : HasRow P t [.int k n]
 | str {t l} (h : P.underlying t = some .string) (h1 : l.length ≤ maxLen) : HasRow P t [.str l]
 | slice {t e rows} (h : P.underlying t = some (.slice e)) (h1 : rows.length ≤ maxLen) (h2 : ∀ r ∈ rows, HasRow P e r) : HasRow P t [.sl rows]
 | struct {t fs} (rs : List (List U)) (h : P.underlying t = some (.struct fs)) (h1 : rs.length = fs.size) (h2 : ∀ (i : Nat) (f : Field) (r : List U), fs[i]? = some f → rs[i]? = some r → HasRow P f.type r) : HasRow P t rs.flatten
 | other {t r} (h : match P.underlying t with | some .bool | some (.int _) | some .string | some (.struct _) => False | some (.slice e) => P.cellsOf e = 0 | _ => True) : HasRow P t r
/-- The fields lie one behind the other. -/
def seqB (P : Program) : Nat → List Field → Nat → Bool
 | o, [], n => o == n
 | o, f :: l, n => f.offset == o && seqB P (o + P.cellsOf f.type) l n
def seqAll (P : Program) : Bool := (List.range P.types.size).all fun t => match P.underlying t with
 | some (.struct fs) => seqB P 0 fs.toList (P.cellsOf t) && fs.toList.all fun f => decide (f.type < P.types.size)
 | some (.slice e) => decide (e < P.types.size)
 | _ => true
theorem seqAll_struct {P : Program} (h : seqAll P = true) {t fs} (hlt : t < P.types.size) (ht : P.underlying t = some (.struct fs)) : seqB P 0 fs.toList (P.cellsOf t) = true ∧ ∀ f ∈ fs.toList, f.type < P.types.size := by
 have := List.all_eq_true.1 h t (List.mem_range.2 hlt)
 simp only [ht, Bool.and_eq_true, List.all_eq_true, decide_eq_true_eq] at this
 exact this
theorem seqAll_slice {P : Program} (h : seqAll P = true) {t e} (hlt : t < P.types.size) (ht : P.underlying t = some (.slice e)) : e < P.types.size := by
 have := List.all_eq_true.1 h t (List.mem_range.2 hlt)
 simp only [ht, decide_eq_true_eq] at this
 exact this
/-- Cells az plain values. -/
def RepRow (m : Mem) (r : List U) (cs : List Value) : Prop := r.length = cs.length ∧ ∀ (j : Nat) (u : U), r[j]? = some u → RepU m u (cs.getD j undef)
theorem RepRow.one {m : Mem} {u : U} {v : Value} (h : RepU m u v) : RepRow m [u] [v] := ⟨rfl, fun j w hj => by
 cases j with
 | zero => simp at hj; subst hj; exact h
 | succ j => simp at hj⟩
theorem RepRow.append {m : Mem} {a b : List U} {x y : List Value} (h : RepRow m a x) (g : RepRow m b y) : RepRow m (a ++ b) (x ++ y) := by
 refine ⟨by simp [h.1, g.1], fun j u hj => ?_⟩
 rw [List.getElem?_append] at hj
 rw [List.getD_eq_getElem?_getD, List.getElem?_append, ← h.1]
 by_cases hl : j < a.length
 ·rw [if_pos hl] at hj ⊢
  rw [← List.getD_eq_getElem?_getD]
  exact h.2 j u hj
 ·rw [if_neg hl] at hj ⊢
  rw [← List.getD_eq_getElem?_getD]
  exact g.2 _ u hj
theorem RepRow.flatten {m : Mem} : ∀ {rs : List (List U)} {xs : List (List Value)}, rs.length = xs.length → (∀ (i : Nat) r x, rs[i]? = some r → xs[i]? = some x → RepRow m r x) → RepRow m rs.flatten xs.flatten
 | [], [], _, _ => ⟨rfl, by simp⟩
 | r :: rs, x :: xs, hl, h => by
  rw [List.flatten_cons, List.flatten_cons]
  exact (h 0 r x rfl rfl).append (RepRow.flatten (by simpa using hl) fun i r x h1 h2 => h (i + 1) r x (by simpa using h1) (by simpa using h2))
 | [], _ :: _, hl, _ => by simp at hl
 | _ :: _, [], hl, _ => by simp at hl
theorem seq_pieces {P : Program} {cs : List Value} : ∀ (l : List Field) (o : Nat), seqB P o l cs.length = true → cs.drop o = (l.map fun f => (cs.drop f.offset).take (P.cellsOf f.type)).flatten
 | [], o, h => by
  simp [seqB] at h
  subst h
  simp
 | f :: l, o, h => by
  simp only [seqB, Bool.and_eq_true, beq_iff_eq] at h
  obtain ⟨h1, h2⟩ := h
  rw [List.map_cons, List.flatten_cons, ← seq_pieces l _ h2, h1]
  conv => lhs; rw [← List.take_append_drop (P.cellsOf f.type) (cs.drop o)]
  rw [List.drop_drop]
theorem exists_list {α : Type} {p : Nat → α → Prop} : ∀ (n : Nat), (∀ i, i < n → ∃ x, p i x) → ∃ l : List α, l.length = n ∧ ∀ i x, l[i]? = some x → p i x
 | 0, _ => ⟨[], rfl, by simp⟩
 | n + 1, h => by
  obtain ⟨l, hl, hp⟩ := exists_list n fun i hi => h i (by omega)
  obtain ⟨x, hx⟩ := h n (by omega)
  refine ⟨l ++ [x], by simp [hl], fun i y hy => ?_⟩
  rw [List.getElem?_append] at hy
  by_cases hi : i < l.length
  ·rw [if_pos hi] at hy; exact hp i y hy
  ·rw [if_neg hi] at hy
   have hi2 := (List.getElem?_eq_some_iff.1 hy).1
   simp at hi2
   have : i = n := by omega
   subst this
   rw [hl] at hy
   simp at hy
   subst hy
   exact hx
theorem cells_none {w : World} {base : Nat} {a : Addr} {n : Nat} {cs : List Value} (h : w.cells? base a n = some cs) (hn : 0 < n) : a.spot = none := by
 obtain ⟨_, hl, hc⟩ := World.cells?_some h
 have h0 := hc 0 hn
 have hlt : 0 < cs.length := by omega
 rw [List.getElem?_eq_getElem hlt] at h0
 simp only [Addr.add, if_true] at h0
 unfold World.cell? at h0
 cases hs : a.spot with
 | none => rfl
 | some x =>
  exfalso
  split at h0
  ·simp [hs] at h0
  ·simp at h0
theorem trod_rep {H : Type} {enc : TypeId × Value → H} {P : Program} (hseq : seqAll P = true) {w : World} {base : Nat} {spare : Nat → Bool} {held : Bool} : ∀ (fuel : Nat) {t : TypeId} {cs : List Value} {x : DataW H × List MemPlace}, t < P.types.size →
  DataW.trod enc P w base spare held fuel t cs = some x → ∃ r, HasRow P t r ∧ RepRow (wmem w) r cs
 | 0, t, cs, x, _, h => by simp [DataW.trod] at h
 | fuel + 1, t, cs, x, hts, h => by
  have h0 := h
  have oth : ∀ cs : List Value, RepRow (wmem w) (cs.map .oth) cs := fun cs => ⟨by simp, fun j u hj => by
   rw [List.getElem?_map] at hj
   cases hc : cs[j]? with
   | none => rw [hc] at hj; cases hj
   | some v => rw [hc] at hj; cases hj; rw [List.getD_eq_getElem?_getD, hc]; exact .oth v⟩
  cases hu : P.underlying t with
  | none => exact ⟨_, .other (by rw [hu]; trivial), oth cs⟩
  | some td =>
   cases td with
   | bool =>
    unfold DataW.trod at h
    rw [hu] at h
    split at h <;> simp_all
    exact ⟨_, .bool hu, .one (.bool _)⟩
   | int k =>
    unfold DataW.trod at h
    rw [hu] at h
    split at h <;> simp_all [Lit.wf]
    rename_i hk
    obtain ⟨⟨hk1, h1, h2⟩, _⟩ := h
    subst hk1
    exact ⟨_, .int hu h1 h2, .one (.int _ _)⟩
   | string =>
    unfold DataW.trod at h
    rw [hu] at h
    split at h <;> simp_all
    rename_i s
    refine ⟨[.str s.data.toList], .str hu (by simpa using h.1), .one ?_⟩
    have h := RepU.str (m := wmem w) s.data.toList
    simpa using h
   | slice e =>
    rcases DataW.trod_slice hu h with ⟨rfl, rfl⟩ | ⟨a, len, cap, elems, rest, n, hn, rfl, rfl, hb, hl, hm, hlen, hel, _, _⟩
    ·exact ⟨[.sl []], .slice hu (by simp) (by simp), .one (.slE none 0 fun _ => rfl)⟩
    ·have hnf : n = fuel := by omega
     subst hnf
     by_cases h0 : len = 0
     ·subst h0
      exact ⟨[.sl []], .slice hu (by simp) (by simp), .one (.slE (some a) cap fun e => by cases e)⟩
     ·have hrow : ∀ i, i < len → ∃ q, ∃ cs', w.cells? base (a.add (i * P.cellsOf e)) (P.cellsOf e) = some cs' ∧ HasRow P e q ∧ RepRow (wmem w) q cs' := fun i hi => by
       have h1 := hel i hi
       rw [List.getElem?_eq_getElem (by omega)] at h1
       cases hc : w.cells? base (a.add (i * P.cellsOf e)) (P.cellsOf e) with
       | none => rw [hc] at h1; cases h1
       | some cs' =>
        rw [hc] at h1
        obtain ⟨q, h2, h3⟩ := trod_rep hseq n (seqAll_slice hseq hts hu) (by simpa using h1)
        exact ⟨q, cs', rfl, h2, h3⟩
      obtain ⟨rows, hrl, hrows⟩ := exists_list len hrow
      by_cases hz : P.cellsOf e = 0
      ·exact ⟨_, .other (by rw [hu]; exact hz), oth _⟩
      ·have hsp : a.spot = none := by
        obtain ⟨cs', h1, _⟩ := hrows 0 rows[0] (List.getElem?_eq_getElem (by omega))
        have := cells_none h1 (by omega)
        simpa [Addr.add] using this
       obtain ⟨b, o, sp⟩ := a
       simp only at hsp
       subst hsp
       refine ⟨[.sl rows], .slice hu (by omega) fun r hr => ?_, .one ?_⟩
       ·obtain ⟨i, hi⟩ := List.getElem?_of_mem hr
        obtain ⟨_, _, h2, _⟩ := hrows i r hi
        exact h2
       ·have hat : ∀ i r, rows[i]? = some r → r.length = P.cellsOf e ∧ ∀ j, j < P.cellsOf e → ∃ v, w.cell? ⟨b, o + i * P.cellsOf e + j, none⟩ = some v ∧ ∀ u, r[j]? = some u → RepU (wmem w) u v := fun i r hi => by
         obtain ⟨cs', h1, _, h3⟩ := hrows i r hi
         obtain ⟨_, h4, h5⟩ := World.cells?_some h1
         refine ⟨by rw [h3.1, h4], fun j hj => ?_⟩
         have h6 := h5 j hj
         rw [addr_add, addr_add, List.getElem?_eq_getElem (by omega)] at h6
         refine ⟨_, h6, fun u hu => ?_⟩
         have := h3.2 j u hu
         rw [List.getD_eq_getElem?_getD, List.getElem?_eq_getElem (by omega)] at this
         exact this
        have := RepU.sl (m := wmem w) rows b o (P.cellsOf e) cap (fun i j => (w.cell? ⟨b, o + i * P.cellsOf e + j, none⟩).getD undef) (by omega) hm (fun r hr => by
          obtain ⟨i, hi⟩ := List.getElem?_of_mem hr
          exact (hat i r hi).1)
         (fun i hi j hj => by
           obtain ⟨v, hv, _⟩ := (hat i rows[i] (List.getElem?_eq_getElem hi)).2 j hj
           exact look_cell (by simp [hv]))
         (fun i r hi j u hj => by
           have hl := (hat i r hi).1
           obtain ⟨v, hv, hr⟩ := (hat i r hi).2 j (by have := (List.getElem?_eq_some_iff.1 hj).1; omega)
           rw [hv]
           exact hr u hj)
        rw [hrl] at this
        exact this
   | struct fs =>
    obtain ⟨xs, n, hn, rfl, hcl, hxl, hf⟩ := DataW.trod_struct hu h
    have hnf : n = fuel := by omega
    subst hnf
    obtain ⟨hs, hfl⟩ := seqAll_struct hseq hts hu
    rw [← hcl] at hs
    have hp := seq_pieces fs.toList 0 hs
    rw [List.drop_zero] at hp
    have hrow : ∀ i, i < fs.size → ∃ q, ∃ f, fs[i]? = some f ∧ HasRow P f.type q ∧ RepRow (wmem w) q ((cs.drop f.offset).take (P.cellsOf f.type)) := fun i hi => by
     have h1 := hf i fs[i] (Array.getElem?_eq_getElem hi)
     rw [List.getElem?_eq_getElem (by omega)] at h1
     obtain ⟨q, h2, h3⟩ := trod_rep hseq n (hfl _ (by rw [← Array.getElem_toList]; exact List.getElem_mem _)) h1
     exact ⟨q, fs[i], Array.getElem?_eq_getElem hi, h2, h3⟩
    obtain ⟨rs, hrl, hrs⟩ := exists_list fs.size hrow
    refine ⟨rs.flatten, .struct rs hu hrl fun i f r hi hr => ?_, ?_⟩
    ·obtain ⟨f', h1, h2, _⟩ := hrs i r hr
     rw [hi] at h1
     cases h1
     exact h2
    ·rw [hp]
     refine RepRow.flatten (by simp [hrl]) fun i r x hr hx => ?_
     obtain ⟨f', h1, _, h3⟩ := hrs i r hr
     rw [List.getElem?_map, Array.getElem?_toList, h1] at hx
     cases hx
     exact h3
   | _ => exact ⟨_, .other (by rw [hu]; trivial), oth cs⟩
end Go.VL
namespace Go.VL
open Go Go.ChangeShapes Go.WideShapes Go.ChangeAt Go.RowKit Go.Deep
def HasRows (P : Program) : List TypeId → List (List U) → Prop
 | [], [] => True
 | t :: ts, r :: rs => HasRow P t r ∧ HasRows P ts rs
 | _, _ => False
section
variable {P : Program} {t : TypeId} {r : List U}
theorem HasRow.of_int {k : IntKind} (h : HasRow P t r) (ht : intOfT P t = some k) : ∃ n, r = [.int k n] ∧ k.min ≤ n ∧ n ≤ k.max := by
 have hu := intOfT_some ht
 cases h with
 | int h h1 h2 => rw [hu] at h; cases h; exact ⟨_, rfl, h1, h2⟩
 | other h => rw [hu] at h; exact h.elim
 | struct rs h => rw [hu] at h; cases h
 | _ h => rw [hu] at h; cases h
theorem HasRow.of_bool (h : HasRow P t r) (hu : P.underlying t = some .bool) : ∃ b, r = [.bool b] := by
 cases h with
 | bool h => exact ⟨_, rfl⟩
 | other h => rw [hu] at h; exact h.elim
 | struct rs h => rw [hu] at h; cases h
 | _ h => rw [hu] at h; cases h
theorem HasRow.of_str (h : HasRow P t r) (ht : isStr P t = true) : ∃ l, r = [.str l] ∧ l.length ≤ maxLen := by
 have hu := isStr_some ht
 cases h with
 | str h h1 => exact ⟨_, rfl, h1⟩
 | other h => rw [hu] at h; exact h.elim
 | struct rs h => rw [hu] at h; cases h
 | _ h => rw [hu] at h; cases h
theorem HasRow.of_slice {e sz : Nat} (h : HasRow P t r) (ht : elSz P t = some (e, sz + 1)) : ∃ rows, r = [.sl rows] ∧ rows.length ≤ maxLen ∧ ∀ q ∈ rows, HasRow P e q := by
 obtain ⟨hu, hs⟩ := elSz_some ht
 cases h with
 | slice h h1 h2 => rw [hu] at h; cases h; exact ⟨_, rfl, h1, h2⟩
 | other h =>
  rw [hu] at h
  unfold tsz at hs
  unfold Program.cellsOf at h
  simp only at h
  rw [hs] at h
  simp at h
 | struct rs h => rw [hu] at h; cases h
 | _ h => rw [hu] at h; cases h
theorem HasRow.of_struct {ts : List TypeId} (h : HasRow P t r) (ht : stT P t = some ts) : ∃ rs, r = rs.flatten ∧ HasRows P ts rs := by
 unfold stT at ht
 split at ht
 ·rename_i fs hu
  cases ht
  cases h with
  | struct rs h h1 h2 =>
   rw [hu] at h
   cases h
   refine ⟨rs, rfl, ?_⟩
   have key : ∀ (l : List Field) (rs : List (List U)), rs.length = l.length → (∀ (i : Nat) (f : Field) (r : List U), l[i]? = some f → rs[i]? = some r → HasRow P f.type r) → HasRows P (l.map (·.type)) rs := by
    intro l
    induction l with
    | nil => intro rs hl _; simp at hl; subst hl; trivial
    | cons f l ih =>
     intro rs hl h
     cases rs with
     | nil => simp at hl
     | cons r rs => exact ⟨h 0 f r rfl rfl, ih rs (by simpa using hl) fun i f r h1 h2 => h (i + 1) f r (by simpa using h1) (by simpa using h2)⟩
   exact key fs.toList rs (by simpa using h1) fun i f r hf hr => h2 i f r (by simpa using hf) hr
  | other h => rw [hu] at h; exact h.elim
  | _ h => rw [hu] at h; cases h
 ·cases ht
end
/-- Rows that all come of a typed thing are those of a list of such things. -/
theorem rows_list {α : Type} (f : α → List U) (Q : α → Prop) : ∀ {rows : List (List U)}, (∀ r ∈ rows, ∃ x, r = f x ∧ Q x) → ∃ l : List α, rows = l.map f ∧ ∀ x ∈ l, Q x
 | [], _ => ⟨[], rfl, by simp⟩
 | r :: rows, h => by
  obtain ⟨x, rfl, hx⟩ := h r (by simp)
  obtain ⟨l, rfl, hl⟩ := rows_list f Q (rows := rows) fun r hr => h r (by simp [hr])
  exact ⟨x :: l, rfl, by simpa using ⟨hx, hl⟩⟩
def ArgU (P : Program) (t : TypeId) (u : U) : Prop := match P.underlying t with
 | some (.struct _) => ∃ r, u = .agg r ∧ HasRow P t r
 | some (.array _ _) => True
 | _ => HasRow P t [u]
theorem ArgU.one {P : Program} {t u} (h : ArgU P t u) (hn : stT P t = none) (ha : notArr P t = true) : HasRow P t [u] := by
 unfold ArgU at h
 unfold stT at hn
 unfold notArr at ha
 split at h <;> simp_all
theorem ArgU.agg {P : Program} {t u ts} (h : ArgU P t u) (hn : stT P t = some ts) : ∃ r, u = .agg r ∧ HasRow P t r := by
 unfold ArgU at h
 unfold stT at hn
 split at h <;> simp_all
def ArgsU (P : Program) : List TypeId → List U → Prop
 | [], [] => True
 | t :: ts, u :: us => ArgU P t u ∧ ArgsU P ts us
 | _, _ => False
theorem okWide_one {P : Program} {w r b t v} (h : Value.okWide P w r b t v) (h1 : ∀ fs, P.underlying t ≠ some (.struct fs)) (h2 : ∀ n e, P.underlying t ≠ some (.array n e)) : v.cells = #[v] := by
 unfold Value.okWide at h
 split at h
 ·rename_i fs hu; exact absurd hu (h1 fs)
 ·rename_i n e hu; exact absurd hu (h2 n e)
 ·cases v <;> first | rfl | (exfalso; unfold Cell.okWide at h; split at h <;> simp_all [Cell.ok])
theorem args_rep {H : Type} {enc : TypeId × Value → H} {P : Program} (hseq : seqAll P = true) {w : World} {spare : Nat → Bool} {held : Bool} {r : Reach} {b : Nat} : ∀ {ts : List TypeId} {vs : List Value} {ds : List (DataW H)} {p : List MemPlace},
  DataW.TrodAll enc P w 0 spare held ts vs ds p → (∀ t ∈ ts, t < P.types.size) → (∀ (j : Nat) t v, ts[j]? = some t → vs[j]? = some v → Value.okWide P w r b t v) → ∃ us, ArgsU P ts us ∧ RepRow (wmem w) us vs
 | [], [], [], _, _, _, _ => ⟨[], trivial, rfl, by simp⟩
 | t :: ts, v :: vs, d :: ds, p, h, hlt, hok => by
  obtain ⟨p1, q1, ⟨fuel, h1⟩, h2, _⟩ := h
  obtain ⟨us, h3, h4⟩ := args_rep hseq h2 (fun t ht => hlt t (by simp [ht])) fun j t v ht hv => hok (j + 1) t v (by simpa using ht) (by simpa using hv)
  have hv := hok 0 t v rfl rfl
  obtain ⟨row, h5, h6⟩ := trod_rep hseq fuel (hlt t (by simp)) h1
  have hone : ∀ (_ : ∀ fs, P.underlying t ≠ some (.struct fs)) (_ : ∀ n e, P.underlying t ≠ some (.array n e)), ∃ u, HasRow P t [u] ∧ RepU (wmem w) u v := fun n1 n2 => by
   have hc := okWide_one hv n1 n2
   rw [hc] at h6
   have hl := h6.1
   match row, hl with
   | [u], _ => exact ⟨u, h5, by simpa using h6.2 0 u rfl⟩
  have hcons : ∀ u, ArgU P t u → RepU (wmem w) u v → ∃ us, ArgsU P (t :: ts) us ∧ RepRow (wmem w) us (v :: vs) := fun u hu hr => ⟨u :: us, ⟨hu, h3⟩, (RepRow.one hr).append h4⟩
  cases hu : P.underlying t with
  | none =>
   obtain ⟨u, h7, h8⟩ := hone (fun fs e => by rw [hu] at e; cases e) (fun n x e => by rw [hu] at e; cases e)
   exact hcons u (by unfold ArgU; rw [hu]; exact h7) h8
  | some td =>
   cases td with
   | struct fs =>
    unfold Value.okWide at hv
    rw [hu] at hv
    obtain ⟨cs, rfl, _⟩ := hv
    refine hcons (.agg row) (by unfold ArgU; rw [hu]; exact ⟨row, rfl, h5⟩) ?_
    have := RepU.agg (m := wmem w) row cs.toList (by simpa [Value.cells] using h6.1) (by simpa [Value.cells] using h6.2)
    simpa using this
   | array n e => exact hcons (.oth v) (by unfold ArgU; rw [hu]; trivial) (.oth v)
   | _ =>
    obtain ⟨u, h7, h8⟩ := hone (fun fs e => by rw [hu] at e; cases e) (fun n x e => by rw [hu] at e; cases e)
    exact hcons u (by unfold ArgU; rw [hu]; exact h7) h8
/-- The call out of a contract by value. -/
theorem calls_of_fun {P : Program} {f : FuncId} {us : List U} {b : Bool} (h : Fun P f (us.map .u) (· = .u (.bool b))) {W : World} {args : Array Value} (hg : GlobIn (wmem W)) (ha : RepRow (wmem W) us args.toList) :
  Calls P f args W fun e W' => e = .returned (.bool b) ∧ Below W.heap.size W W' := by
 have := h ⟨wmem W, fun _ => none, hg⟩ (W.heap.size ≤ ·) W args ⟨fun _ _ _ h => h, by simp [getK], by simp [getK]⟩ (fun _ _ => rfl) (fun _ h => h)
  ⟨by simpa using ha.1.symm, fun j d hj => by
   rw [List.getElem?_map] at hj
   cases hu : us[j]? with
   | none => rw [hu] at hj; cases hj
   | some u =>
      rw [hu] at hj
      cases hj
      have := ha.2 j u hu
      have e : args.getD j undef = args.toList.getD j undef := by simp
      rw [e]
      exact Rep.u _ _ this⟩
 refine this.mono ?_
 rintro e W' ⟨v, d, o, n, k', rfl, hin, _, _, _, hr, _, rfl⟩
 exact ⟨by rw [rep_bool hr], ⟨hin.os, hin.tape, hin.output, hin.size, fun k hk => hin.block k (by omega)⟩⟩
theorem trodAll_below {H : Type} {enc : TypeId × Value → H} {P : Program} (hl : laidOutB P = true) {W W' : World} (hb : Below W.heap.size W W') {sp : Nat → Bool} : ∀ {ts : List TypeId} {vs : List Value} {ds : List (DataW H)} {ps : List MemPlace},
  (∀ t ∈ ts, P.readableRec t = true ∧ t < P.types.size) → DataW.TrodAll enc P W 0 (fun _ => true) true ts vs ds ps → (∀ x ∈ ps, x.block < W.heap.size) → (∀ x ∈ ps, sp x.block = true) → DataW.TrodAll enc P W' 0 sp true ts vs ds ps
 | [], [], [], _, _, h, _, _ => h
 | t :: ts, v :: vs, d :: ds, ps, hr, h, hlt, hsp => by
  obtain ⟨p, q, h1, h2, rfl⟩ := h
  obtain ⟨h3, h4⟩ := hr t (by simp)
  refine ⟨p, q, WideElems.Trod_stays hl h3 h4 h1 (fun x hx => hb.same (hlt x (by simp [hx]))) (fun x hx => hsp x (by simp [hx])), trodAll_below hl hb (fun t ht => hr t (by simp [ht])) h2 (fun x hx => hlt x (by simp [hx])) (fun x hx => hsp x (by simp [hx])), rfl⟩
theorem post_below {H : Type} {enc : TypeId × Value → H} {P : Program} {f : Func} {s : ChangeSpec} {apart fresh handsOn again : Bool} {W W' : World} {args : Array Value} {v : Value} {ds gs : List (DataW H)} {before pa pv : List MemPlace}
  (hW : DataW.Whole enc P f.params.toList s.vars apart W args.toList ds gs before)
  (hres : ∀ (b : Nat) (sp : Nat → Bool) (hd : Bool), DataW.TrodAll enc P W' b sp hd f.resultTypes.toList (v.resultList f.resultTypes.size) (s.fn H (ds ++ gs)).results [])
  (hargs : ∀ sp : Nat → Bool, (∀ p ∈ before, sp p.block = true) → DataW.TrodAll enc P W' 0 sp true f.params.toList args.toList (s.fn H (ds ++ gs)).args pa)
  (hvars : ∀ sp : Nat → Bool, (∀ p ∈ before, sp p.block = true) → DataW.TrodVars enc P W' sp s.vars (s.fn H (ds ++ gs)).vars pv)
  (hps : before = pa ++ pv) (hb : Below W.heap.size W W')
  (hok : ∀ (j : Nat) (t : TypeId) (r : Value), f.resultTypes[j]? = some t → (v.resultList f.resultTypes.size)[j]? = some r → Value.okWide P W' .any 0 t r) :
  s.post enc P f apart fresh handsOn again W args v W' := by
 have hlt : ∀ p ∈ before, p.block < W.heap.size := fun p hp => hW.lt p hp
 have hold : ∀ p ∈ before, (fun b => decide (b < W.heap.size)) p.block = true := fun p hp => by simpa using hlt p hp
 refine ⟨ds, gs, before, [], pa, pv, hW, hres _ _ _, hargs _ hold, hvars _ hold, World.keptBut_mono (fun p hp => ⟨hp, ?_⟩) (hb.frame (· ∈ before)), fun _ => ?_⟩
 ·rw [hps, List.mem_append] at hp
  exact Or.inr hp
 ·obtain ⟨_, _, _, _, _, hz, hn⟩ := hW
  refine ⟨hok, _, _, ([] ++ pa) ++ pv, ⟨[] ++ pa, pv, trodAll_append (hargs _ (fun _ _ => rfl)) (hres _ _ _), hvars _ (fun _ _ => rfl), rfl, ?_, ?_⟩, ?_⟩
  ·intro b off hp
   have hin : MemPlace.cell b off ∈ before := by rw [hps]; simpa using hp
   rw [hb.frozen (hlt _ hin)]
   exact hz b off hin
  ·intro ha
   have := hn ha
   rw [hps] at this
   simpa using this
  ·intro p hp _
   rw [hps]
   simpa using hp
end Go.VL
namespace Go.VL
open Go
theorem getK_frzO (obs : List (Nat × Ob)) (i : Nat) (σ : D → Option U) (js : List Nat) (x : Nat) : getK ((del obs i).map fun p => if js.contains p.1 then (p.1, frzObS σ p.2) else p) x =
  if x = i then none else (getK obs x).map fun ob => if js.contains x then frzObS σ ob else ob := by
 have e : ((del obs i).map fun p => if js.contains p.1 then (p.1, frzObS σ p.2) else p) = (del obs i).map fun p => (p.1, if js.contains p.1 then frzObS σ p.2 else p.2) := by
  apply List.map_congr_left
  intro p _
  split <;> rfl
 rw [e, getK_map (fun x (o : Ob) => if js.contains x then frzObS σ o else o), getK_del]
 by_cases h : x = i <;> simp [h]
theorem frz_obs (s : St) (i : Nat) (σ : D → Option U) (js : List Nat) (x : Nat) : getK (s.frzS i σ js).obs x = if x = i then none else (getK s.obs x).map fun ob => if js.contains x then frzObS σ ob else ob := getK_frzO s.obs i σ js x
theorem frz_env (s : St) (i : Nat) (σ : D → Option U) (js : List Nat) (x : Nat) : getK (s.frzS i σ js).env x = (getK s.env x).map (VL.frzS σ) := getK_map (fun _ d => VL.frzS σ d) s.env x
def norm1 : U → U
 | .nil => .sl []
 | x => x
def normU : U → U
 | .nil => .sl []
 | .agg cs => .agg (cs.map norm1)
 | x => x
def normD : D → D
 | .u x => .u (normU x)
 | d => d
def normOb : Ob → Ob
 | .box cs => .box (cs.map normD)
 | ob => ob
def St.norm (s : St) : St := { s with env := s.env.map fun p => (p.1, normD p.2), obs := s.obs.map fun p => (p.1, normOb p.2) }
theorem getK_normO (obs : List (Nat × Ob)) (x : Nat) : getK (obs.map fun p => (p.1, normOb p.2)) x = (getK obs x).map normOb := getK_map (fun _ o => normOb o) obs x
theorem norm_obs (s : St) (x : Nat) : getK s.norm.obs x = (getK s.obs x).map normOb := getK_normO s.obs x
theorem norm_env (s : St) (x : Nat) : getK s.norm.env x = (getK s.env x).map normD := getK_map (fun _ d => normD d) s.env x
theorem norm1_rep {m : Mem} {x : U} {v : Value} (h : RepU m x v) : RepU m (norm1 x) v := by
 cases h with
 | nil => exact .slE none 0 fun _ => rfl
 | int k n => exact .int k n
 | bool b => exact .bool b
 | str l => exact .str l
 | oth v => exact .oth v
 | slE a c h => exact .slE a c h
 | sl rows b o sz c f h1 h2 h3 h4 h5 => exact .sl rows b o sz c f h1 h2 h3 h4 h5
 | row cells off b o f h1 h2 => exact .row cells off b o f h1 h2
 | agg cells vs h1 h2 => exact .agg cells vs h1 h2
 | map kk ag es0 es hp b ents clock f h1 h2 h3 h4 => exact .map kk ag es0 es hp b ents clock f h1 h2 h3 h4
theorem normU_rep {m : Mem} {x : U} {v : Value} (h : RepU m x v) : RepU m (normU x) v := by
 cases h with
 | map kk ag es0 es hp b ents clock f h1 h2 h3 h4 => exact .map kk ag es0 es hp b ents clock f h1 h2 h3 h4
 | nil => exact .slE none 0 fun _ => rfl
 | int k n => exact .int k n
 | bool b => exact .bool b
 | str l => exact .str l
 | oth v => exact .oth v
 | slE a c h => exact .slE a c h
 | sl rows b o sz c f h1 h2 h3 h4 h5 => exact .sl rows b o sz c f h1 h2 h3 h4 h5
 | row cells off b o f h1 h2 => exact .row cells off b o f h1 h2
 | agg cells vs h1 h2 =>
  refine .agg _ vs (by simpa using h1) fun j u hj => ?_
  rw [List.getElem?_map] at hj
  cases hc : cells[j]? with
  | none => rw [hc] at hj; cases hj
  | some e => rw [hc] at hj; cases hj; exact norm1_rep (h2 j e hc)
theorem normD_rep {k : Kr} {d : D} {v : Value} (h : Rep k d v) : Rep k (normD d) v := by
 cases h with
 | u x v h => exact .u _ _ (normU_rep h)
 | any v => exact .any v
 | ptr i off b c h => exact .ptr i off b c h
 | vec i len h hh => exact .vec i len h hh
 | mp i b c h => exact .mp i b c h
 | elt i sz idx off b c h => exact .elt i sz idx off b c h
 | fnc f caps vs hl hr => exact .fnc f caps vs hl hr
 | agg cells vs hl hr => exact .agg cells vs hl hr
 | tup cells vs hl hr => exact .tup cells vs hl hr
theorem Wk.norm {Γ : Ctx} (s : St) : Wk Γ s s.norm := by
 intro k a w hin hs
 have ho : ∀ i ob, getK s.norm.obs i = some ob → ∃ ob0, getK s.obs i = some ob0 ∧ ob = normOb ob0 := fun i ob hi => by
  have : getK (s.obs.map fun p => (p.1, normOb p.2)) i = some ob := hi
  rw [getK_map (fun _ o => normOb o)] at this
  cases hc : getK s.obs i with
  | none => rw [hc] at this; cases this
  | some o => rw [hc] at this; cases this; exact ⟨o, rfl, rfl⟩
 refine ⟨k, hin, ⟨⟨hs.sat.mem, fun i ob hi => ?_, fun i j x y g g' b hx hy hij => ?_⟩, hs.defers, hs.size, fun x d hx => ?_, hs.hdr⟩⟩
 ·obtain ⟨ob0, h1, rfl⟩ := ho i ob hi
  obtain ⟨g, h2, h3, h4⟩ := hs.sat.ob i ob0 h1
  refine ⟨g, h2, h3, ?_⟩
  cases ob0 with
  | box cs =>
   obtain ⟨b, vs, t, e, h5, h6, h7⟩ := h4
   refine ⟨b, vs, t, e, h5, by simpa using h6, fun j d hj => ?_⟩
   rw [List.getElem?_map] at hj
   cases hc : cs[j]? with
   | none => rw [hc] at hj; cases hj
   | some e => rw [hc] at hj; cases hj; exact ⟨(h7 j e hc).1, normD_rep (h7 j e hc).2⟩
  | vec e sz rows => exact h4
  | map kk ag es => exact h4
  | it => exact h4
 ·obtain ⟨o1, h1, _⟩ := ho i x hx
  obtain ⟨o2, h2, _⟩ := ho j y hy
  exact hs.sat.apart i j o1 o2 g g' b h1 h2 hij
 ·have hx' : getK (s.env.map fun p => (p.1, normD p.2)) x = some d := hx
  rw [getK_map (fun _ d => normD d)] at hx'
  cases hc : getK s.env x with
  | none => rw [hc] at hx'; cases hx'
  | some e => rw [hc] at hx'; cases hx'; exact ⟨(hs.env x e hc).1, normD_rep (hs.env x e hc).2⟩
end Go.VL
namespace Go.VL
open Go
def frz1 (s : St) : List Nat → Option St
 | [] => none
 | i :: l => match getK s.obs i with
  | some (.vec _ _ rows) => match allU2 rows with
   | some us => some (s.frz i us (s.obs.map (·.1)))
   | none => frz1 s l
  | some (.map kk ag es) => match allUE es with
   | some us => some (s.frzS i (fzMap i kk ag us) (s.obs.map (·.1)))
   | none => frz1 s l
  | _ => frz1 s l
def frzN : Nat → St → St
 | 0, s => s
 | n + 1, s => match frz1 s (s.obs.map (·.1)) with
  | some s' => frzN n s'
  | none => s
theorem Wk.frz1 {Γ : Ctx} {s s' : St} : ∀ {l : List Nat}, frz1 s l = some s' → Wk Γ s s'
 | [], h => by cases h
 | i :: l, h => by
  rw [VL.frz1] at h
  split at h
  ·rename_i e sz rows hg
   split at h
   ·rename_i us hu
    cases h
    exact Wk.frz i _ hg hu
   ·exact Wk.frz1 h
  ·rename_i kk ag es hg
   split at h
   ·rename_i us hu
    cases h
    exact Wk.frzM i _ hg hu
   ·exact Wk.frz1 h
  ·exact Wk.frz1 h
theorem Wk.frzN {Γ : Ctx} : ∀ (n : Nat) (s : St), Wk Γ s (frzN n s)
 | 0, s => .refl s
 | n + 1, s => by
  rw [VL.frzN]
  split
  ·rename_i s' h
   exact (Wk.frz1 h).trans (Wk.frzN n s')
  ·exact .refl s
theorem EndW.frzN {P Γ fn n0 post e s} (n : Nat) (h : EndW P Γ fn n0 post e (frzN n s)) : EndW P Γ fn n0 post e s := .wk _ (Wk.frzN n s) h
theorem EndW.norm {P Γ fn n0 post e s} (h : EndW P Γ fn n0 post e s.norm) : EndW P Γ fn n0 post e s := .wk _ (Wk.norm s) h
/-- A variable told az a value. -/
def frzB (i : Nat) (s : St) : St := match getK s.obs i with
 | some (.box cs) => match allU cs with
  | some us => s.frzS i (fzBox i us) (s.obs.map (·.1))
  | none => s
 | _ => s
theorem Wk.frzBx {Γ : Ctx} (i : Nat) (s : St) : Wk Γ s (VL.frzB i s) := by
 unfold VL.frzB
 split
 ·rename_i cs hg
  split
  ·rename_i us hu
   exact Wk.frzB i _ hg hu
  ·exact .refl s
 ·exact .refl s
theorem EndW.frzB {P Γ fn n0 post e s} (i : Nat) (h : EndW P Γ fn n0 post e (VL.frzB i s)) : EndW P Γ fn n0 post e s := .wk _ (Wk.frzBx i s) h
end Go.VL
namespace Go.VL
open Go
theorem cg_H {P Γ l s s' k} (h : s = s') : H P Γ l s k = H P Γ l s' k := by rw [h]
theorem cg_hcons {P Γ o r s s' k} (h : s = s') : hcons P Γ o r s k = hcons P Γ o r s' k := by rw [h]
theorem cg_HD {P l s s' k} (h : s = s') : HD P l s k = HD P l s' k := by rw [h]
theorem cg_HD2 {P l s s' fp fp' C k} (h : s = s') (h' : fp = fp') : HD2 P l s fp C k = HD2 P l s' fp' C k := by rw [h, h']
theorem cg_V {P Γ c s s' Q} (h : s = s') : V P Γ c s Q = V P Γ c s' Q := by rw [h]
theorem cg_RunK {P Γ Q k e s s'} (h : s = s') : RunK P Γ Q k e s = RunK P Γ Q k e s' := by rw [h]
theorem cg_LoopW {α : Type} {Γ : Ctx} {S : α → St} {μ : α → Nat} {x : α} {s s' : St} (h : s = s') : LoopW Γ S μ x s = LoopW Γ S μ x s' := by rw [h]
theorem cg_LoopI {α : Type} {n0 : Nat} {S : α → St} {μ : α → Nat} {x : α} {s s' : St} (h : s = s') : LoopI n0 S μ x s = LoopI n0 S μ x s' := by rw [h]
attribute [congr] cg_H cg_hcons cg_HD cg_HD2 cg_V cg_RunK cg_LoopW cg_LoopI
theorem RK_seq {P Γ Q b k s} : RunK P Γ Q (.seq b k) .normal s = V P Γ b s (RunK P Γ Q k) := rfl
theorem RK_seq_ret {P Γ Q b k s} : RunK P Γ Q (.seq b k) .ret s = RunK P Γ Q k .ret s := rfl
theorem RK_seq_exit {P Γ Q b k s i} : RunK P Γ Q (.seq b k) (.exit i) s = RunK P Γ Q k (.exit i) s := rfl
theorem RK_blk {P Γ Q i k s} : RunK P Γ Q (.blk i k) .normal s = RunK P Γ Q k .normal s := rfl
theorem RK_blk_ret {P Γ Q i k s} : RunK P Γ Q (.blk i k) .ret s = RunK P Γ Q k .ret s := rfl
theorem RK_blk_exit {P Γ Q i j k s} : RunK P Γ Q (.blk i k) (.exit j) s = if j = i then RunK P Γ Q k .normal s else RunK P Γ Q k (.exit j) s := rfl
theorem RK_loop {P Γ Q I k s} : RunK P Γ Q (.loop I k) .normal s = I s := rfl
theorem RK_loop_ret {P Γ Q I k s} : RunK P Γ Q (.loop I k) .ret s = RunK P Γ Q k .ret s := rfl
theorem RK_loop_exit {P Γ Q I k s i} : RunK P Γ Q (.loop I k) (.exit i) s = RunK P Γ Q k (.exit i) s := rfl
theorem RK_done {P Γ Q e s} : RunK P Γ Q .done e s = Q e s := rfl
/-- Control, told az a step. -/
def vstep (P : Program) (Γ : Ctx) (Q : Exit → St → Prop) : Code → Kt → St → Prop
 | .seq a b, k, s => vstep P Γ Q a (.seq b k) s
 | .block id c, k, s => vstep P Γ Q c (.blk id k) s
 | .skip, k, s => RunK P Γ Q k .normal s
 | .label _, k, s => RunK P Γ Q k .normal s
 | .exit id, k, s => RunK P Γ Q k (.exit id) s
 | .ret, k, s => RunK P Γ Q k .ret s
 | .cond c x y, k, s => match opd s c with
  | .u (.bool t) => (t = true → V P Γ x s (RunK P Γ Q k)) ∧ (t = false → V P Γ y s (RunK P Γ Q k))
  | _ => False
 | .region _ l false, k, s => match stripL l l.toList with | some l' => H P Γ l' s (RunK P Γ Q k .normal) | none => False
 | c, k, s => V P Γ c s (RunK P Γ Q k)
theorem V_step {P Γ Q} : ∀ {c : Code} {k : Kt} {s : St}, vstep P Γ Q c k s → V P Γ c s (RunK P Γ Q k)
 | .seq a b, k, s, h => V_seq (V_step (c := a) (by rw [vstep] at h; exact h))
 | .block id c, k, s, h => V_block (V_step (c := c) (by rw [vstep] at h; exact h))
 | .skip, k, s, h => V_skip (by rw [vstep] at h; exact h)
 | .label _, k, s, h => V_label (by rw [vstep] at h; exact h)
 | .exit id, k, s, h => V_exit (by rw [vstep] at h; exact h)
 | .ret, k, s, h => V_ret (by rw [vstep] at h; exact h)
 | .cond c x y, k, s, h => by
  rw [vstep] at h
  split at h
  ·rename_i t ht
   exact V_cond ht h.1 h.2
  ·exact h.elim
 | .region id l false, k, s, h => by
  rw [vstep] at h
  have := V_region1 (P := P) (Γ := Γ) (s := s) (Q := Q) (kt := k) (id := id) (l := l.toList) fun K hK => by
   split at h
   ·rename_i l' hl
    simp only [Array.toArray_toList]
    rw [hl]
    exact fun all ops e K' a w h1 h2 Q' hQ => h all ops e K' a w h1 h2 Q' fun K2 a2 w2 s2 h3 h4 h5 => hQ K2 a2 w2 s2 h3 h4 (hK _ h5)
   ·exact h.elim
  simpa using this
 | .region _ _ true, k, s, h => by rw [vstep] at h; exact h; all_goals simp
 | .loop c, k, s, h => by rw [vstep] at h; exact h; all_goals simp
 | .rangeFunc .., k, s, h => by rw [vstep] at h; exact h; all_goals simp
 | .scope .., k, s, h => by rw [vstep] at h; exact h; all_goals simp
 | .goto .., k, s, h => by rw [vstep] at h; exact h; all_goals simp
 | .refuse .., k, s, h => by rw [vstep] at h; exact h; all_goals simp
theorem cg_vstep {P Γ Q c k s s'} (h : s = s') : vstep P Γ Q c k s = vstep P Γ Q c k s' := by rw [h]
attribute [congr] cg_vstep
section
variable {P : Program} {Γ : Ctx} {Q : Exit → St → Prop} {k : Kt} {s : St}
theorem vs_seq {a b : Code} : vstep P Γ Q (.seq a b) k s = vstep P Γ Q a (.seq b k) s := by rw [vstep]
theorem vs_block {i} {a : Code} : vstep P Γ Q (.block i a) k s = vstep P Γ Q a (.blk i k) s := by rw [vstep]
theorem vs_cond {c x y} : vstep P Γ Q (.cond c x y) k s = match opd s c with
  | .u (.bool t) => (t = true → V P Γ x s (RunK P Γ Q k)) ∧ (t = false → V P Γ y s (RunK P Γ Q k))
  | _ => False := by rw [vstep]
theorem vs_region {i} {l : List Oper} : vstep P Γ Q (.region i l.toArray false) k s = match stripL l.toArray l with | some l' => H P Γ l' s (RunK P Γ Q k .normal) | none => False := by rw [vstep]
theorem vs_loop {c} : vstep P Γ Q (.loop c) k s = V P Γ (.loop c) s (RunK P Γ Q k) := by rw [vstep] <;> simp
theorem vs_draw {i l} : vstep P Γ Q (.region i l true) k s = V P Γ (.region i l true) s (RunK P Γ Q k) := by rw [vstep] <;> simp
theorem V_sseq {a b : Code} (h : vstep P Γ Q a (.seq b k) s) : V P Γ (.seq a b) s (RunK P Γ Q k) := V_seq (V_step h)
theorem V_sblock {i} {a : Code} (h : vstep P Γ Q a (.blk i k) s) : V P Γ (.block i a) s (RunK P Γ Q k) := V_block (V_step h)
theorem V_scond {c x y} (h : vstep P Γ Q (.cond c x y) k s) : V P Γ (.cond c x y) s (RunK P Γ Q k) := V_step h
theorem V_sregion {i} {l : List Oper} (h : vstep P Γ Q (.region i l.toArray false) k s) : V P Γ (.region i l.toArray false) s (RunK P Γ Q k) := V_step h
end
def wkO (s : St) (nx : Nat) : List (Nat × Ob) → Prop
 | [] => True
 | p :: l => (p.1 < nx ∧ getK s.obs p.1 = some p.2 ∧ p.2.under nx = true) ∧ wkO s nx l
def wkU (nx : Nat) : List (Nat × D) → Prop
 | [] => True
 | p :: l => p.2.under nx = true ∧ wkU nx l
theorem wkO_get {s nx} : ∀ {l : List (Nat × Ob)} {x ob}, wkO s nx l → getK l x = some ob → x < nx ∧ getK s.obs x = some ob ∧ ob.under nx = true
 | [], x, ob, _, h => by simp [getK] at h
 | (y, e) :: l, x, ob, hw, h => by
  rw [getK_cons] at h
  by_cases hx : x = y
  ·rw [if_pos hx] at h; cases h; subst hx; exact hw.1
  ·rw [if_neg hx] at h; exact wkO_get hw.2 h
theorem wkU_get {nx} : ∀ {l : List (Nat × D)} {x d}, wkU nx l → getK l x = some d → d.under nx = true
 | [], x, d, _, h => by simp [getK] at h
 | (y, e) :: l, x, d, hw, h => by
  rw [getK_cons] at h
  by_cases hx : x = y
  ·rw [if_pos hx] at h; cases h; subst hx; exact hw.1
  ·rw [if_neg hx] at h; exact wkU_get hw.2 h
theorem Wk.cut {Γ : Ctx} {s s' : St} (hn : s'.n = s.n) (hx : Γ.n0 ≤ s'.next) (ho : wkO s s'.next s'.obs) (hu : wkU s'.next s'.env) (he : wkE s s'.env) : Wk Γ s s' := by
 intro K0 a w hin0 hs0
 let s1 : St := { s with env := s'.env }
 obtain ⟨K1, hin1, hs1⟩ := (Wk.env (s := s) (s' := s1) (Γ := Γ) rfl rfl rfl he) K0 a w hin0 hs0
 refine ⟨_, Sim.weak (ρ := fun i => i) hin1 hs1 ⟨hn, fun x d' h => ⟨?_, wkU_get hu h⟩, fun x d' h => (hs1.env x d' h).1, fun i ob' h => ?_, fun i j ob ob' _ _ e => e, fun i hi => ⟨rfl, by omega⟩⟩⟩
 ·have : s1.at x = d' := by show (getK s'.env x).getD .any = d'; rw [h]; rfl
  rw [this]
  exact D.le_id d'
 ·obtain ⟨h1, h2, h3⟩ := wkO_get ho h
  exact ⟨h1, ob', h2, Ob.le_id ob', h3⟩
theorem under_rowsD (n : Nat) (us : List (List U)) : ((rowsD us).all fun r => r.all (·.under n)) = true := by
 simp [rowsD, List.all_eq_true, D.under]
theorem under_entD (n : Nat) (us : List (Key × List U)) : ((entD us).all fun p => p.2.all (·.under n)) = true := by
 simp [entD, List.all_eq_true, D.under]
def pureRow : List D → Prop
 | [] => True
 | .u _ :: l => pureRow l
 | _ => False
def pureRows : List (List D) → Prop
 | [] => True
 | r :: l => pureRow r ∧ pureRows l
theorem pureRow_out : ∀ {r : List D}, pureRow r → ∀ c ∈ r, ∃ x, c = D.u x
 | [], _, c, hc => by cases hc
 | d :: l, h, c, hc => by
  cases d <;> simp only [pureRow] at h
  rcases List.mem_cons.1 hc with rfl | hc
  ·exact ⟨_, rfl⟩
  ·exact pureRow_out h c hc
theorem pureRows_out : ∀ {r : List (List D)}, pureRows r → uRows r
 | [], _ => uRows_nil
 | r :: l, h => uRows_cons (pureRow_out h.1) (pureRows_out h.2)
@[simp] theorem pureRow_map (l : List U) : pureRow (l.map .u) = True := by
 induction l with
 | nil => simp [pureRow]
 | cons a l ih => simpa [pureRow] using ih
@[simp] theorem pureRows_rowsD (l : List (List U)) : pureRows (rowsD l) = True := by
 induction l with
 | nil => simp [pureRows]
 | cons a l ih => simpa [pureRows] using ih
@[simp] theorem pureRows_append (a b : List (List D)) : pureRows (a ++ b) = (pureRows a ∧ pureRows b) := by
 induction a with
 | nil => simp [pureRows]
 | cons r l ih => simp [pureRows, ih, and_assoc]
def pureEs (es : List (Key × List D)) : Prop := ∃ us, es = entD us
def leU (ρ : Nat → Nat) (nx : Nat) : List D → List D → Prop
 | [], [] => True
 | a :: az, b :: bs => (D.le ρ a b ∧ b.under nx = true) ∧ leU ρ nx az bs
 | _, _ => False
def fixRows (ρ : Nat → Nat) (nx : Nat) (B : List (List D)) : Prop := ∀ r ∈ B, ∀ c ∈ r, c = c.ren ρ ∧ c.under nx = true
def obR (ρ : Nat → Nat) (nx : Nat) : Ob → Ob → Prop
 | .box cs, .box cs' => leU ρ nx cs cs'
 | .vec e sz A, .vec e' sz' B => e = e' ∧ sz = sz' ∧ A = B ∧ (pureRows B ∨ fixRows ρ nx B)
 | .map kk ag es, .map kk' ag' es' => kk = kk' ∧ ag = ag' ∧ es = es' ∧ pureEs es'
 | .it kk ag es left cur, .it kk' ag' es' left' cur' => kk = kk' ∧ ag = ag' ∧ es = es' ∧ left = left' ∧ cur = cur'
 | _, _ => False
def wkR (s : St) (ρ : Nat → Nat) (nx : Nat) : List (Nat × Ob) → Prop
 | [] => True
 | p :: l => (p.1 < nx ∧ (match getK s.obs (ρ p.1) with | some ob => obR ρ nx ob p.2 | none => False)) ∧ wkR s ρ nx l
def wkER (s : St) (ρ : Nat → Nat) (nx : Nat) : List (Nat × D) → Prop
 | [] => True
 | p :: l => ((match getK s.env p.1 with | some d => D.le ρ d p.2 | none => False) ∧ p.2.under nx = true) ∧ wkER s ρ nx l
theorem leU_out {ρ nx} : ∀ {a b : List D}, leU ρ nx a b → leL ρ a b ∧ b.all (·.under nx) = true
 | [], [], _ => ⟨trivial, rfl⟩
 | a :: az, b :: bs, h => by
  obtain ⟨h1, h2⟩ := leU_out h.2
  exact ⟨⟨h.1.1, h1⟩, by simp [h.1.2, h2]⟩
 | [], b :: bs, h => h.elim
 | a :: az, [], h => h.elim
theorem obR_out {ρ nx ob ob'} (h : obR ρ nx ob ob') : Ob.le ρ ob ob' ∧ ob'.under nx = true := by
 cases ob <;> cases ob' <;> simp only [obR] at h
 ·obtain ⟨h1, h2⟩ := leU_out h
  exact ⟨Ob.le_box h1, h2⟩
 ·obtain ⟨rfl, rfl, rfl, h⟩ := h
  rcases h with h | h
  ·have hu := pureRows_out h
   exact ⟨Ob.le_vec_refl hu, Ob.under_vec hu⟩
  ·refine ⟨⟨rfl, rfl, Nat.le_refl _, fun i r r' hi hi' => ?_⟩, ?_⟩
   ·rw [hi] at hi'
    cases hi'
    refine ⟨rfl, fun j c c' hj hj' => ?_⟩
    rw [hj] at hj'
    cases hj'
    exact .inr (.inl (h r (List.mem_of_getElem? hi) c (List.mem_of_getElem? hj)).1)
   ·simp only [Ob.under, List.all_eq_true]
    exact fun r hr c hc => (h r hr c hc).2
 ·obtain ⟨rfl, rfl, rfl, us, rfl⟩ := h
  refine ⟨⟨rfl, rfl, rfl, fun i p p' hi hi' => ?_⟩, under_entD _ _⟩
  rw [hi] at hi'
  cases hi'
  refine ⟨rfl, fun j c c' hj hj' => ?_⟩
  rw [hj] at hj'
  cases hj'
  rw [entD, List.getElem?_map] at hi
  cases hq : us[i]? with
  | none => rw [hq] at hi; cases hi
  | some q =>
   rw [hq] at hi
   cases hi
   simp only [List.getElem?_map] at hj
   cases hx : q.2[j]? with
   | none => rw [hx] at hj; cases hj
   | some x => rw [hx] at hj; cases hj; exact .inr (.inl (by simp [D.ren]))
 ·exact ⟨h, rfl⟩
theorem wkR_out {s ρ nx} : ∀ {l : List (Nat × Ob)}, wkR s ρ nx l → ∀ x ob', getK l x = some ob' → x < nx ∧ ∃ ob, getK s.obs (ρ x) = some ob ∧ Ob.le ρ ob ob' ∧ ob'.under nx = true
 | [], _, x, d', h => by simp [getK] at h
 | (y, d) :: l, h, x, d', hx => by
  rw [getK_cons] at hx
  by_cases e : x = y
  ·rw [if_pos e] at hx
   cases hx
   subst e
   obtain ⟨⟨h1, h2⟩, _⟩ := h
   refine ⟨h1, ?_⟩
   split at h2
   ·rename_i ob hg
    exact ⟨ob, hg, obR_out h2⟩
   ·exact h2.elim
  ·rw [if_neg e] at hx; exact wkR_out h.2 x d' hx
theorem wkER_out {s ρ nx} : ∀ {l : List (Nat × D)}, wkER s ρ nx l → ∀ x d', getK l x = some d' → (∃ d, getK s.env x = some d ∧ D.le ρ d d') ∧ d'.under nx = true
 | [], _, x, d', h => by simp [getK] at h
 | (y, d) :: l, h, x, d', hx => by
  rw [getK_cons] at hx
  by_cases e : x = y
  ·rw [if_pos e] at hx
   cases hx
   subst e
   obtain ⟨⟨h1, h2⟩, _⟩ := h
   refine ⟨?_, h2⟩
   split at h1
   ·rename_i d0 hg
    exact ⟨d0, hg, h1⟩
   ·exact h1.elim
  ·rw [if_neg e] at hx; exact wkER_out h.2 x d' hx
theorem Wk.ren {Γ : Ctx} {s s' : St} (ρ : Nat → Nat) (hn : s'.n = s.n) (hx : ∀ i, i < Γ.n0 → ρ i = i ∧ i < s'.next) (he : wkER s ρ s'.next s'.env) (ho : wkR s ρ s'.next s'.obs)
  (hi : ∀ i ∈ s'.obs.map (·.1), ∀ j ∈ s'.obs.map (·.1), ρ i = ρ j → i = j) : Wk Γ s s' := by
 intro K0 a w hin0 hs0
 refine ⟨_, Sim.weak (ρ := ρ) hin0 hs0 ⟨hn, fun x d' h => ?_, fun x d' h => ?_, fun i ob h => wkR_out ho i ob h, fun i j ob ob' hi' hj' e => hi i (getK_mem hi') j (getK_mem hj') e, hx⟩⟩
 ·obtain ⟨⟨d, h1, h2⟩, h3⟩ := wkER_out he x d' h
  have : s.at x = d := by show (getK s.env x).getD .any = d; rw [h1]; rfl
  rw [this]
  exact ⟨h2, h3⟩
 ·obtain ⟨⟨d, h1, h2⟩, h3⟩ := wkER_out he x d' h
  exact (hs0.env x d h1).1
theorem frz_entD (σ : D → Option U) (us : List (Key × List U)) : (entD us).map (fun p => (p.1, p.2.map (frzS σ))) = entD us := by
 simp only [entD, List.map_map]
 apply List.map_congr_left
 intro p _
 have : (p.2.map D.u).map (frzS σ) = p.2.map D.u := by
  rw [List.map_map]
  apply List.map_congr_left
  intro x _
  simp [frzS]
 simp [Function.comp, frzS]
theorem frz_rowsD (σ : D → Option U) (us : List (List U)) : (rowsD us).map (fun r => r.map (frzS σ)) = rowsD us := by
 simp only [rowsD, List.map_map]
 apply List.map_congr_left
 intro p _
 simp [Function.comp, frzS]
end Go.VL
namespace Go.Proofs.YtfcopibncpkdoaaDoor
open Go Go.VL
attribute [local simp] hcons hstep evPure opd uOf putOK St.put St.at getK binD binI binS binB nilD aggD eqUs cmpK lookD lookR rangeD nextD entryD keyD valU keyU lookK mkV entD_nil lookK_entD updK_entD1 updK_entD3 allUE allUE_entD makeMapD mapUpdD mapEff updK valM Key.kk shiftI arith unD convD pickD loadD cellsAt fieldAddrD fieldD indexAddrD indexD sliceD cutD lenD minmaxD nilCheckD buildD fillD cellsD isOne ones setAll mkAgg allU allocD boxD storeD St.add buildSliceD appendD rowsOf makeD setOb getK_setOb getK_del getK_cons stripL strip guardTmp entry chunks zcells valD argsV argsW argW argU1 argU0 argsU0 argsU1 calleeOf scalarD scalarU delAll effD St.effS RK_seq RK_seq_ret RK_seq_exit RK_blk RK_blk_ret RK_blk_exit RK_loop RK_loop_ret RK_loop_exit RK_done vs_seq vs_block vs_cond vs_region vs_loop vs_draw applyW mkD rdIds lentIds callOf calleeOf freeOp D.ids Op.operands Call.operands isEffOp makeIfD typeAssertD conc concs conc1 uOfV panicD IntKind.bits allU2 allU2_append List.take_of_length_le List.range_succ
attribute [local irreducible] V G H HD HD2 RunK Eff CallP CallV EndOK Fun Ret FinOK LoopI LoopW EndW
inductive Exp where
 | mk (op n unit : Int) (s : List UInt8) (args : List Exp)
 deriving Inhabited
def Exp.row : Exp → List U
 | .mk op n u s args => [.int .i64 op, .int .i64 n, .int .i64 u, .str s, .sl (args.map fun e => e.row)]
def Exp.op : Exp → Int | .mk op _ _ _ _ => op
def Exp.n : Exp → Int | .mk _ n _ _ _ => n
def Exp.unit : Exp → Int | .mk _ _ u _ _ => u
def Exp.s : Exp → List UInt8 | .mk _ _ _ s _ => s
def Exp.args : Exp → List Exp | .mk _ _ _ _ args => args
theorem Exp.row_eq (e : Exp) : e.row = [.int .i64 e.op, .int .i64 e.n, .int .i64 e.unit, .str e.s, .sl (e.args.map Exp.row)] := by
 cases e with
 | mk op n u s args => rw [Exp.row]; rfl
structure Var where
 name : List UInt8
 unit : Int
 n : Int
 deriving DecidableEq, Inhabited
structure Let where
 name : List UInt8
 body : Exp
 deriving Inhabited
def Var.row (v : Var) : List U := [.str v.name, .int .i64 v.unit, .int .i64 v.n]
def Let.row (l : Let) : List U := .str l.name :: l.body.row
def vars (l : List Var) : U := .sl (l.map Var.row)
def lets (l : List Let) : U := .sl (l.map Let.row)
def isLetter (c : UInt8) : Bool := decide (97 ≤ c.toNat) && decide (c.toNat ≤ 122)
def isDigit (c : UInt8) : Bool := decide (48 ≤ c.toNat) && decide (c.toNat ≤ 57)
theorem letter_fun (c : UInt8) : Fun Tryd.prog 102 [.u (.int .u8 c.toNat)] (· = .u (.bool (isLetter c))) := by
 unfold isLetter
 (refine Fun.of_body Tryd.func102 rfl (by simp) fun Γ hn => ?_); simp only [entry, List.zipIdx_cons, List.zipIdx_nil, List.map_cons, List.map_nil, Nat.zero_add, Tryd.ntmps102]
 repeat' (first
  | (refine H_cons ?_; simp)
  | (refine H_nil ?_; simp)
  | (refine V_sseq ?_; simp)
  | (refine V_ret ?_; simp only [RunK])
  | (refine ⟨fun hc => ?_, fun hc => ?_⟩ <;> (try (exfalso; omega)))
  | fail)
 all_goals
  (refine EndOK.val (.inr rfl) ?_; simp [resD, oneOrTup, pureD, Tryd.results102])
 all_goals first | omega | (simp; omega) | (rw [Bool.eq_iff_iff]; simp; omega)
theorem digit_fun (c : UInt8) : Fun Tryd.prog 104 [.u (.int .u8 c.toNat)] (· = .u (.bool (isDigit c))) := by
 unfold isDigit
 (refine Fun.of_body Tryd.func104 rfl (by simp) fun Γ hn => ?_); simp only [entry, List.zipIdx_cons, List.zipIdx_nil, List.map_cons, List.map_nil, Nat.zero_add, Tryd.ntmps104]
 repeat' (first
  | (refine H_cons ?_; simp)
  | (refine H_nil ?_; simp)
  | (refine V_sseq ?_; simp)
  | (refine V_ret ?_; simp only [RunK])
  | (refine ⟨fun hc => ?_, fun hc => ?_⟩ <;> (try (exfalso; omega)))
  | fail)
 all_goals
  (refine EndOK.val (.inr rfl) ?_; simp [resD, oneOrTup, pureD, Tryd.results104])
 all_goals first | omega | (simp; omega) | (rw [Bool.eq_iff_iff]; simp; omega)
theorem word1_fun (c : UInt8) : Fun Tryd.prog 103 [.u (.int .u8 c.toNat)] (· = .u (.bool (isLetter c || isDigit c))) := by
 (refine Fun.of_body Tryd.func103 rfl (by simp) fun Γ hn => ?_); simp only [entry, List.zipIdx_cons, List.zipIdx_nil, List.map_cons, List.map_nil, Nat.zero_add, Tryd.ntmps103]
 repeat' (first
  | (refine H_cons ?_; simp)
  | (refine H_nil ?_; simp)
  | (refine V_sseq ?_; simp)
  | (refine V_ret ?_; simp only [RunK])
  | (refine ⟨fun hc => ?_, fun hc => ?_⟩ <;> (try (exfalso; omega)))
  | (refine CallP.fun_ (letter_fun c) (by first | rfl | fail) (by first | assumption | (simp; done) | fail) (by first | (simp; done) | (simp; rfl) | fail) (by first | (simp; done) | fail) (fun d hd => ?_); subst hd; (try simp))
  | (refine CallP.fun_ (digit_fun c) (by first | rfl | fail) (by first | assumption | (simp; done) | fail) (by first | (simp; done) | (simp; rfl) | fail) (by first | (simp; done) | fail) (fun d hd => ?_); subst hd; (try simp))
  | fail)
 all_goals
  (refine EndOK.val (.inr rfl) ?_; simp [resD, oneOrTup, pureD, Tryd.results103])
 all_goals simp_all
def spanL (p : UInt8 → Bool) (l : List UInt8) : Nat := (l.takeWhile p).length
theorem spanL_at {p : UInt8 → Bool} {l : List UInt8} {i : Nat} (h : ∀ c ∈ l.take i, p c = true) (hi : i ≤ l.length) (he : i = l.length ∨ ∃ c, l[i]? = some c ∧ p c = false) : spanL p l = i := by
 unfold spanL
 induction l generalizing i with
 | nil => simp at hi; simp [hi]
 | cons a l ih =>
  cases i with
  | zero =>
   rcases he with he | ⟨c, h1, h2⟩
   ·simp at he
   ·simp at h1; subst h1; simp [h2]
  | succ i =>
   have ha : p a = true := h a (by simp)
   rw [List.takeWhile_cons, if_pos ha, List.length_cons]
   rw [ih (i := i) (fun c hc => h c (by simp [hc])) (by simpa using hi) (by simpa using he)]
/-- The first place where something holds; -1 without one. -/
def idxP {α : Type} (p : α → Bool) : List α → Int → Int
 | [], _ => -1
 | x :: l, i => if p x = true then i else idxP p l (i + 1)
theorem idxP_at {α : Type} {p : α → Bool} {l : List α} {i : Nat} {x : α} {k : Int} (h : ∀ c ∈ l.take i, p c = false) (hx : l[i]? = some x) (hp : p x = true) : idxP p l k = k + i := by
 induction l generalizing i k with
 | nil => simp at hx
 | cons s l ih =>
  cases i with
  | zero => simp at hx; simp [idxP, hx, hp]
  | succ i =>
   rw [idxP, if_neg (by rw [h s (by simp)]; simp), ih (i := i) (fun c hc => h c (by simp [hc])) (by simpa using hx)]
   omega
theorem idxP_none {α : Type} {p : α → Bool} {l : List α} {k : Int} (h : ∀ c ∈ l, p c = false) : idxP p l k = -1 := by
 induction l generalizing k with
 | nil => rfl
 | cons s l ih => rw [idxP, if_neg (by rw [h s (by simp)]; simp), ih fun c hc => h c (by simp [hc])]
theorem idxP_any {α : Type} (p : α → Bool) (l : List α) : ∀ k : Int, 0 ≤ k → (0 ≤ idxP p l k ↔ l.any p = true) := by
 induction l with
 | nil => intro k hk; simp [idxP]
 | cons s l ih =>
  intro k hk
  by_cases h : p s = true
  ·simp [idxP, h, hk]
  ·rw [idxP, if_neg h, ih (k + 1) (by omega)]
   simp [h]
theorem take_succ_all {α : Type} {p : α → Prop} {l : List α} {i : Nat} {x : α} (hx : l[i]? = some x) (h : ∀ c ∈ l.take i, p c) (hp : p x) : ∀ c ∈ l.take (i + 1), p c := by
 obtain ⟨hi, rfl⟩ := List.getElem?_eq_some_iff.1 hx
 rw [List.take_succ_eq_append_getElem hi]
 intro c hc
 rcases List.mem_append.1 hc with hc | hc
 ·exact h c hc
 ·simp at hc; subst hc; exact hp
theorem span_fun (l : List UInt8) (hl : l.length ≤ 1000000) (f : FuncId) (p : UInt8 → Bool) (hf : ∀ c ∈ l, Fun Tryd.prog f [.u (.int .u8 c.toNat)] (· = .u (.bool (p c)))) (hcl : callable Tryd.prog f = true) :
  Fun Tryd.prog 93 [.u (.str l), .fnc (.func f) []] (· = .u (.int .i64 (spanL p l))) := by
 (refine Fun.of_body Tryd.func93 rfl (by simp) fun Γ hn => ?_); simp only [entry, List.zipIdx_cons, List.zipIdx_nil, List.map_cons, List.map_nil, Nat.zero_add, Tryd.ntmps93]
 repeat' (first
  | (refine H_cons ?_; simp)
  | (refine H_nil ?_; simp)
  | (refine V_sseq ?_; simp)
  | fail)
 refine V_loopF (α := { i : Nat // i ≤ l.length ∧ ∀ c ∈ l.take i, p c = true }) [0, 1] (fun i => [(5, .u (.int .i64 i.1))]) (fun i => l.length - i.1) ⟨0, by omega, by simp⟩ ?_ ?_
 ·exact (Wk.env rfl rfl rfl (by simp [wkE, St.lp, keepE, getK_cons, getK] <;> (try (intros; simp_all; done)) <;> (try (intros; omega)) <;> (try grind)))
 rintro ⟨i, hi, hb⟩
 simp [St.lp, St.only, keepE, getK_cons, getK]
 rcases hx : l[i]? with _ | c
 ·have hge : l.length ≤ i := by simpa using hx
  repeat' (first
  | (refine H_cons ?_; simp [hx])
  | (refine H_nil ?_; simp [hx])
  | (refine ⟨by omega, ?_⟩)
  | (refine V_sseq ?_; simp [hx])
  | (refine V_scond ?_; simp [hx])
  | (refine V_ret ?_; simp only [RunK])
  | (refine V_exit ?_; simp [RunK])
  | (intro hc <;> (try (exfalso; omega)))
  | fail)
  (refine EndOK.val (.inr rfl) ?_; simp [resD, oneOrTup, pureD, Tryd.results93])
  rw [spanL_at hb hi (.inl (by omega))]
 ·have hlt := (List.getElem?_eq_some_iff.1 hx).1
  have h1 := hf c (List.mem_of_getElem? hx)
  repeat' (first
  | (refine H_cons ?_; simp [hx])
  | (refine H_nil ?_; simp [hx])
  | (refine ⟨by omega, ?_⟩)
  | (refine V_sseq ?_; simp [hx])
  | (refine V_scond ?_; simp [hx])
  | (refine V_sblock ?_; simp [hx])
  | (refine V_ret ?_; simp only [RunK])
  | (refine V_skip ?_; simp only [RunK])
  | (refine V_exit ?_; simp [RunK])
  | (refine ⟨?_, by omega⟩)
  | (refine ⟨fun hc => ?_, fun hc => ?_⟩ <;> (try (exfalso; omega)))
  | (intro hc <;> (try (exfalso; omega)))
  | (refine CallP.fun_ (h1) (by first | rfl | fail) (by first | assumption | (simp; done) | fail) (by first | (simp [hx]; done) | (simp [hx]; rfl) | fail) (by first | (simp; done) | fail) (fun d hd => ?_); subst hd; (try simp [hx]))
  | fail)
  ·refine LoopW.next ⟨i + 1, by omega, take_succ_all hx hb (by assumption)⟩ (by simp; omega) ?_
   exact (Wk.env rfl rfl rfl (by simp [wkE, St.lp, keepE, getK_cons, getK] <;> (try (intros; simp_all; done)) <;> (try (intros; omega)) <;> (try grind)))
  ·(refine EndOK.val (.inr rfl) ?_; simp [resD, oneOrTup, pureD, Tryd.results93])
   rw [spanL_at hb hi (.inr ⟨c, hx, by assumption⟩)]
def wordB (s : List UInt8) : Bool := match s with
 | [] => false
 | c :: _ => isLetter c && decide (s.length ≤ 20) && decide (spanL (fun c => isLetter c || isDigit c) s = s.length)
theorem word_fun (s : List UInt8) : Fun Tryd.prog 77 [.u (.str s)] (· = .u (.bool (wordB s))) := by
 cases s with
 | nil =>
  (refine Fun.of_body Tryd.func77 rfl (by simp) fun Γ hn => ?_); simp only [entry, List.zipIdx_cons, List.zipIdx_nil, List.map_cons, List.map_nil, Nat.zero_add, Tryd.ntmps77]
  repeat' (first
  | (refine H_cons ?_; simp)
  | (refine H_nil ?_; simp)
  | (refine V_sseq ?_; simp)
  | (refine V_scond ?_; simp)
  | (refine V_ret ?_; simp only [RunK])
  | fail)
  all_goals
   (refine EndOK.val (.inr rfl) ?_; simp [resD, oneOrTup, pureD, Tryd.results77])
  all_goals simp [wordB]
 | cons c s =>
  by_cases hl : s.length + 1 ≤ 20
  ·have hs := span_fun (c :: s) (by simp; omega) 103 _ (fun c _ => word1_fun c) (by simp)
   (refine Fun.of_body Tryd.func77 rfl (by simp) fun Γ hn => ?_); simp only [entry, List.zipIdx_cons, List.zipIdx_nil, List.map_cons, List.map_nil, Nat.zero_add, Tryd.ntmps77]
   repeat' (first
  | (refine H_cons ?_; simp)
  | (refine H_nil ?_; simp)
  | (refine ⟨by omega, ?_⟩)
  | (refine V_sseq ?_; simp)
  | (refine V_scond ?_; simp)
  | (refine V_ret ?_; simp only [RunK])
  | (refine V_skip ?_; simp only [RunK])
  | (refine ⟨fun hc => ?_, fun hc => ?_⟩ <;> (try (exfalso; omega)))
  | (intro hc <;> (try (exfalso; omega)))
  | (refine CallP.fun_ (letter_fun c) (by first | rfl | fail) (by first | assumption | (simp; done) | fail) (by first | (simp; done) | (simp; rfl) | fail) (by first | (simp; done) | fail) (fun d hd => ?_); subst hd; (try simp))
  | (refine CallP.fun_ (hs) (by first | rfl | fail) (by first | assumption | (simp; done) | fail) (by first | (simp; done) | (simp; rfl) | fail) (by first | (simp; done) | fail) (fun d hd => ?_); subst hd; (try simp))
  | fail)
   all_goals
    (refine EndOK.val (.inr rfl) ?_; simp [resD, oneOrTup, pureD, Tryd.results77])
   all_goals
    simp [wordB, *]
    try omega
  ·(refine Fun.of_body Tryd.func77 rfl (by simp) fun Γ hn => ?_); simp only [entry, List.zipIdx_cons, List.zipIdx_nil, List.map_cons, List.map_nil, Nat.zero_add, Tryd.ntmps77]
   repeat' (first
  | (refine H_cons ?_; simp)
  | (refine H_nil ?_; simp)
  | (refine V_sseq ?_; simp)
  | (refine V_scond ?_; simp)
  | (refine V_ret ?_; simp only [RunK])
  | (refine ⟨?_, by omega⟩)
  | (refine ⟨fun hc => ?_, fun hc => ?_⟩ <;> (try (exfalso; omega)))
  | (intro hc <;> (try (exfalso; omega)))
  | (refine CallP.fun_ (letter_fun c) (by first | rfl | fail) (by first | assumption | (simp; done) | fail) (by first | (simp; done) | (simp; rfl) | fail) (by first | (simp; done) | fail) (fun d hd => ?_); subst hd; (try simp))
  | fail)
   all_goals
    (refine EndOK.val (.inr rfl) ?_; simp [resD, oneOrTup, pureD, Tryd.results77])
   all_goals
    simp [wordB, *]
    try omega
def strs (l : List (List UInt8)) : U := .sl (l.map fun s => [.str s])
def idxS : List (List UInt8) → List UInt8 → Int → Int
 | [], _, _ => -1
 | s :: l, x, i => if x = s then i else idxS l x (i + 1)
theorem idxS_at {l : List (List UInt8)} {x : List UInt8} {i : Nat} {k : Int} (h : ∀ c ∈ l.take i, ¬ x = c) (hx : l[i]? = some x) : idxS l x k = k + i := by
 induction l generalizing i k with
 | nil => simp at hx
 | cons s l ih =>
  cases i with
  | zero => simp at hx; simp [idxS, hx]
  | succ i =>
   rw [idxS, if_neg (h s (by simp)), ih (i := i) (fun c hc => h c (by simp [hc])) (by simpa using hx)]
   omega
theorem idxS_none {l : List (List UInt8)} {x : List UInt8} {k : Int} (h : ∀ c ∈ l, ¬ x = c) : idxS l x k = -1 := by
 induction l generalizing k with
 | nil => rfl
 | cons s l ih => rw [idxS, if_neg (h s (by simp)), ih fun c hc => h c (by simp [hc])]
theorem indexS_fun (l : List (List UInt8)) (x : List UInt8) : Fun Tryd.prog 105 [.u (strs l), .u (.str x)] (· = .u (.int .i64 (idxS l x 0))) := by
 (refine Fun.of_body Tryd.func105 rfl (by simp) fun Γ hn => ?_); simp only [entry, List.zipIdx_cons, List.zipIdx_nil, List.map_cons, List.map_nil, Nat.zero_add, Tryd.ntmps105]
 simp only [strs]
 refine V_len (x := 0) rfl fun hl => ?_
 simp at hl
 repeat' (first
  | (refine H_cons ?_; simp)
  | (refine H_nil ?_; simp)
  | (refine V_sseq ?_; simp)
  | (refine V_sblock ?_; simp)
  | fail)
 refine V_loopF (α := { i : Nat // i ≤ l.length ∧ ∀ c ∈ l.take i, ¬ x = c }) [0, 1, 7] (fun i => [(8, .u (.int .i64 i.1))]) (fun i => l.length - i.1) ⟨0, by omega, by simp⟩ ?_ ?_
 ·exact (Wk.env rfl rfl rfl (by simp [wkE, St.lp, keepE, getK_cons, getK] <;> (try (intros; simp_all; done)) <;> (try (intros; omega)) <;> (try grind)))
 rintro ⟨i, hi, hb⟩
 simp [St.lp, St.only, keepE, getK_cons, getK]
 rcases hx : l[i]? with _ | c
 ·have hge : l.length ≤ i := by simpa using hx
  repeat' (first
  | (refine H_cons ?_; simp [hx])
  | (refine H_nil ?_; simp [hx])
  | (refine ⟨by omega, ?_⟩)
  | (refine V_sseq ?_; simp [hx])
  | (refine V_ret ?_; simp only [RunK])
  | (refine V_exit ?_; simp [RunK])
  | (intro hc <;> (try (exfalso; omega)))
  | fail)
  (refine EndOK.val (.inr rfl) ?_; simp [resD, oneOrTup, pureD, Tryd.results105])
  rw [List.take_of_length_le hge] at hb
  exact (idxS_none hb).symm
 ·have hlt := (List.getElem?_eq_some_iff.1 hx).1
  by_cases hxc : x = c
  ·subst hxc
   repeat' (first
  | (refine H_cons ?_; simp [hx])
  | (refine H_nil ?_; simp [hx])
  | (refine V_sseq ?_; simp [hx])
  | (refine V_scond ?_; simp [hx])
  | (refine V_ret ?_; simp only [RunK])
  | (refine V_skip ?_; simp only [RunK])
  | (refine ⟨?_, by omega⟩)
  | (intro hc <;> (try (exfalso; omega)))
  | fail)
   (refine EndOK.val (.inr rfl) ?_; simp [resD, oneOrTup, pureD, Tryd.results105])
   rw [idxS_at hb hx]
   omega
  ·repeat' (first
  | (refine H_cons ?_; simp [hx, hxc])
  | (refine H_nil ?_; simp [hx, hxc])
  | (refine ⟨by omega, ?_⟩)
  | (refine V_sseq ?_; simp [hx, hxc])
  | (refine V_scond ?_; simp [hx, hxc])
  | (refine V_sregion ?_; simp [hx, hxc])
  | (refine V_skip ?_; simp only [RunK])
  | (refine ⟨?_, by omega⟩)
  | (intro hc <;> (try (exfalso; omega)))
  | fail)
   refine LoopW.next ⟨i + 1, by omega, take_succ_all hx hb hxc⟩ (by simp; omega) ?_
   exact (Wk.env rfl rfl rfl (by simp [wkE, St.lp, keepE, getK_cons, getK] <;> (try (intros; simp_all; done)) <;> (try (intros; omega)) <;> (try grind)))
theorem idxS_any (l : List (List UInt8)) (x : List UInt8) : ∀ k : Int, 0 ≤ k → decide (0 ≤ idxS l x k) = l.contains x := by
 induction l with
 | nil => intro k hk; simp [idxS]
 | cons s l ih =>
  intro k hk
  by_cases h : x = s
  ·subst h; simp [idxS, hk]
  ·rw [idxS, if_neg h, ih (k + 1) (by omega)]
   simp [h]
theorem containsS_fun (l : List (List UInt8)) (x : List UInt8) : Fun Tryd.prog 78 [.u (strs l), .u (.str x)] (· = .u (.bool (l.contains x))) := by
 have h1 := indexS_fun l x
 (refine Fun.of_body Tryd.func78 rfl (by simp) fun Γ hn => ?_); simp only [entry, List.zipIdx_cons, List.zipIdx_nil, List.map_cons, List.map_nil, Nat.zero_add, Tryd.ntmps78]
 simp only [strs] at h1 ⊢
 repeat' (first
  | (refine H_cons ?_; simp)
  | (refine H_nil ?_; simp)
  | (refine V_sseq ?_; simp)
  | (refine V_ret ?_; simp only [RunK])
  | (refine CallP.fun_ (h1) (by first | rfl | fail) (by first | assumption | (simp; done) | fail) (by first | (simp; done) | (simp; rfl) | fail) (by first | (simp; done) | fail) (fun d hd => ?_); subst hd; (try simp))
  | fail)
 (refine EndOK.val (.inr rfl) ?_; simp [resD, oneOrTup, pureD, Tryd.results78])
 have h2 := idxS_any l x 0 (by omega)
 simpa using h2
def words : List (List UInt8) := [[97, 110, 100], [98, 97, 99, 107, 115], [98, 105, 100, 100, 105, 110, 103], [99, 105, 114, 99, 108, 101], [99, 111, 105, 110, 115], [99, 111, 118, 101, 114], [100, 97, 121, 115], [100, 114, 97, 119], [100, 117, 101], [101, 108, 115, 101], [102, 97, 108, 115, 101], [102, 105, 110, 101], [102, 117, 110, 100], [103, 114, 97, 99, 101], [104, 111, 108, 100], [105, 102], [106, 111, 105, 110], [106, 117, 114, 121], [108, 101, 116], [109, 97, 120], [109, 105, 108, 108, 101], [109, 105, 110], [110, 101, 101, 100], [110, 111, 116], [111, 114], [111, 114, 100, 101, 114], [112, 97, 121], [112, 101, 114], [114, 111, 116, 97, 116, 105, 110, 103], [115, 97, 118, 105, 110, 103], [115, 101, 97, 108, 101, 100], [116, 104, 101, 110], [116, 114, 117, 101], [118, 111, 105, 99, 101, 115], [119, 97, 105, 116]]
set_option maxHeartbeats 4000000 in
set_option maxRecDepth 100000 in
theorem reserved_fun : Fun Tryd.prog 79 [] (· = .u (strs words)) := by
 (refine Fun.of_bodyW Tryd.func79 rfl (by simp) fun Γ hn => ?_); simp only [entry, List.zipIdx_cons, List.zipIdx_nil, List.map_cons, List.map_nil, Nat.zero_add, Tryd.ntmps79]
 simp only [strs, words, List.map_cons, List.map_nil]
 repeat' (first
  | (refine H_cons ?_; simp [zcells, chunks])
  | (refine H_nil ?_; simp [zcells, chunks])
  | (refine V_sseq ?_; simp [zcells, chunks])
  | (refine V_ret ?_; simp only [RunK])
  | fail)
 (refine EndW.frzN 1 ?_; simp [frzN, frz1, frz_env, frz_obs, St.frz, St.frzS, frzS, fv, fzVec, fzMap, fzBox, frzObS, frz_entD, frz_rowsD, del, frz, frzOb])
 refine EndW.here ?_
 (refine EndOK.val (.inr rfl) ?_; simp [resD, oneOrTup, pureD, Tryd.results79])
def nameB (s : List UInt8) : Bool := wordB s && !words.contains s
set_option maxRecDepth 100000 in
theorem name_fun (s : List UInt8) : Fun Tryd.prog 48 [.u (.str s)] (· = .u (.bool (nameB s))) := by
 have h1 := containsS_fun words s
 have h2 := word_fun s
 have h3 := reserved_fun
 generalize hw : words.contains s = w at h1
 simp only [strs] at h1 h3
 generalize (words.map fun s => [U.str s]) = W at h1 h3
 unfold nameB
 rw [hw]
 clear hw
 generalize wordB s = b at h2 ⊢
 cases b
 all_goals
  (refine Fun.of_body Tryd.func48 rfl (by simp) fun Γ hn => ?_); simp only [entry, List.zipIdx_cons, List.zipIdx_nil, List.map_cons, List.map_nil, Nat.zero_add, Tryd.ntmps48]
  repeat' (first
  | (refine H_cons ?_; simp)
  | (refine H_nil ?_; simp)
  | (refine V_sseq ?_; simp)
  | (refine V_ret ?_; simp only [RunK])
  | (refine CallP.fun_ (h1) (by first | rfl | fail) (by first | assumption | (simp; done) | fail) (by first | (simp; done) | (simp; rfl) | fail) (by first | (simp; done) | fail) (fun d hd => ?_); subst hd; (try simp))
  | (refine CallP.fun_ (h2) (by first | rfl | fail) (by first | assumption | (simp; done) | fail) (by first | (simp; done) | (simp; rfl) | fail) (by first | (simp; done) | fail) (fun d hd => ?_); subst hd; (try simp))
  | (refine CallP.fun_ (h3) (by first | rfl | fail) (by first | assumption | (simp; done) | fail) (by first | (simp; done) | (simp; rfl) | fail) (by first | (simp; done) | fail) (fun d hd => ?_); subst hd; (try simp))
  | fail)
  (refine EndOK.val (.inr rfl) ?_; simp [resD, oneOrTup, pureD, Tryd.results48])
def operandsI (op : Int) : Int := if op = 0 ∨ op = 1 then 0 else if op = 12 then 1 else if op = 13 then 3 else if op < 0 ∨ 14 ≤ op then -1 else 2
theorem operands_fun (op : Int) : Fun Tryd.prog 47 [.u (.int .i64 op)] (· = .u (.int .i64 (operandsI op))) := by
 unfold operandsI
 (refine Fun.of_body Tryd.func47 rfl (by simp) fun Γ hn => ?_); simp only [entry, List.zipIdx_cons, List.zipIdx_nil, List.map_cons, List.map_nil, Nat.zero_add, Tryd.ntmps47]
 repeat' (first
  | (refine H_cons ?_; simp)
  | (refine H_nil ?_; simp)
  | (refine V_sseq ?_; simp)
  | (refine V_scond ?_; simp)
  | (refine V_sblock ?_; simp)
  | (refine V_sregion ?_; simp)
  | (refine V_ret ?_; simp only [RunK])
  | (refine V_skip ?_; simp only [RunK])
  | (refine ⟨?_, by omega⟩)
  | (refine ⟨fun hc => ?_, fun hc => ?_⟩ <;> (try (exfalso; omega)))
  | (intro hc <;> (try (exfalso; omega)))
  | fail)
 all_goals
  (refine EndOK.val (.inr rfl) ?_; simp [resD, oneOrTup, pureD, Tryd.results47])
 all_goals (repeat' split) <;> first | rfl | omega | simp_all
theorem erow_eq : Exp.row = fun e => [.int .i64 e.op, .int .i64 e.n, .int .i64 e.unit, .str e.s, .sl (e.args.map Exp.row)] := funext fun e => e.row_eq
def eagg (e : Exp) : D := .u (.agg [.int .i64 e.op, .int .i64 e.n, .int .i64 e.unit, .str e.s, .sl (e.args.map Exp.row)])
def exps (l : List Exp) : U := .sl (l.map fun e => [.int .i64 e.op, .int .i64 e.n, .int .i64 e.unit, .str e.s, .sl (e.args.map Exp.row)])
theorem exps_eq (l : List Exp) : exps l = .sl (l.map Exp.row) := by rw [exps, ← erow_eq]
theorem indexE_fun (l : List (Exp)) (f : FuncId) (caps : List U) (p : Exp → Bool) (hf : ∀ n ∈ l, Fun Tryd.prog f (eagg n :: caps.map .u) (· = .u (.bool (p n)))) (hcl : callable Tryd.prog f = true)
  (hca : ∀ o, argsW o (caps.map .u) = some (caps.map .u, [])) : Fun Tryd.prog 80 [.u (exps l), .fnc (.func f) (caps.map .u)] (· = .u (.int .i64 (idxP p l 0))) := by
 (refine Fun.of_body Tryd.func80 rfl (by simp) fun Γ hn => ?_); simp only [entry, List.zipIdx_cons, List.zipIdx_nil, List.map_cons, List.map_nil, Nat.zero_add, Tryd.ntmps80]
 simp only [exps]
 refine V_len (x := 0) rfl fun hl => ?_
 simp at hl
 repeat' (first
  | (refine H_cons ?_; simp)
  | (refine H_nil ?_; simp)
  | (refine V_sseq ?_; simp)
  | (refine V_sblock ?_; simp)
  | fail)
 refine V_loopF (α := { i : Nat // i ≤ l.length ∧ ∀ c ∈ l.take i, p c = false }) [0, 1, 7] (fun i => [(8, .u (.int .i64 i.1))]) (fun i => l.length - i.1) ⟨0, by omega, by simp⟩ ?_ ?_
 ·exact (Wk.env rfl rfl rfl (by simp [wkE, St.lp, keepE, getK_cons, getK] <;> (try (intros; simp_all; done)) <;> (try (intros; omega)) <;> (try grind)))
 rintro ⟨i, hi, hb⟩
 simp [St.lp, St.only, keepE, getK_cons, getK]
 rcases hx : l[i]? with _ | n
 ·have hge : l.length ≤ i := by simpa using hx
  repeat' (first
  | (refine H_cons ?_; simp [hx])
  | (refine H_nil ?_; simp [hx])
  | (refine ⟨by omega, ?_⟩)
  | (refine V_sseq ?_; simp [hx])
  | (refine V_ret ?_; simp only [RunK])
  | (refine V_exit ?_; simp [RunK])
  | (intro hc <;> (try (exfalso; omega)))
  | fail)
  (refine EndOK.val (.inr rfl) ?_; simp [resD, oneOrTup, pureD, Tryd.results80])
  rw [List.take_of_length_le hge] at hb
  exact (idxP_none hb).symm
 ·have hlt : i < l.length := (List.getElem?_eq_some_iff.1 hx).1
  have h1 := hf n (List.mem_of_getElem? hx)
  simp only [eagg] at h1
  cases hp : p n
  ·rw [hp] at h1
   repeat' (first
  | (refine H_cons ?_; simp [hx, hca])
  | (refine H_nil ?_; simp [hx, hca])
  | (refine ⟨by omega, ?_⟩)
  | (refine V_sseq ?_; simp [hx, hca])
  | (refine V_scond ?_; simp [hx, hca])
  | (refine V_sregion ?_; simp [hx, hca])
  | (refine V_skip ?_; simp only [RunK])
  | (refine ⟨?_, by omega⟩)
  | (intro hc <;> (try (exfalso; omega)))
  | (refine CallP.fun_ (h1) (by first | rfl | fail) (by first | assumption | (simp; done) | fail) (by first | (simp [hx, hca]; done) | (simp [hx, hca]; rfl) | fail) (by first | (simp; done) | fail) (fun d hd => ?_); subst hd; (try simp [hx, hca]))
  | fail)
   refine LoopW.next ⟨i + 1, by omega, take_succ_all hx hb hp⟩ (by simp; omega) ?_
   exact (Wk.env rfl rfl rfl (by simp [wkE, St.lp, keepE, getK_cons, getK] <;> (try (intros; simp_all; done)) <;> (try (intros; omega)) <;> (try grind)))
  ·rw [hp] at h1
   repeat' (first
  | (refine H_cons ?_; simp [hx, hca])
  | (refine H_nil ?_; simp [hx, hca])
  | (refine V_sseq ?_; simp [hx, hca])
  | (refine V_scond ?_; simp [hx, hca])
  | (refine V_ret ?_; simp only [RunK])
  | (refine V_skip ?_; simp only [RunK])
  | (refine ⟨?_, by omega⟩)
  | (intro hc <;> (try (exfalso; omega)))
  | (refine CallP.fun_ (h1) (by first | rfl | fail) (by first | assumption | (simp; done) | fail) (by first | (simp [hx, hca]; done) | (simp [hx, hca]; rfl) | fail) (by first | (simp; done) | fail) (fun d hd => ?_); subst hd; (try simp [hx, hca]))
  | fail)
   (refine EndOK.val (.inr rfl) ?_; simp [resD, oneOrTup, pureD, Tryd.results80])
   rw [idxP_at hb hx hp]
   omega
theorem containsE_fun (l : List (Exp)) (f : FuncId) (caps : List U) (p : Exp → Bool) (hf : ∀ n ∈ l, Fun Tryd.prog f (eagg n :: caps.map .u) (· = .u (.bool (p n)))) (hcl : callable Tryd.prog f = true)
  (hca : ∀ o, argsW o (caps.map .u) = some (caps.map .u, [])) (hcb : ∀ o, argsU1 o (caps.map .u) = some (caps, [])) : Fun Tryd.prog 49 [.u (exps l), .fnc (.func f) (caps.map .u)] (· = .u (.bool (l.any p))) := by
 have h1 := indexE_fun l f caps p hf hcl hca
 (refine Fun.of_body Tryd.func49 rfl (by simp) fun Γ hn => ?_); simp only [entry, List.zipIdx_cons, List.zipIdx_nil, List.map_cons, List.map_nil, Nat.zero_add, Tryd.ntmps49]
 simp only [exps] at h1 ⊢
 repeat' (first
  | (refine H_cons ?_; simp [hcb])
  | (refine H_nil ?_; simp [hcb])
  | (refine V_sseq ?_; simp [hcb])
  | (refine V_ret ?_; simp only [RunK])
  | (refine CallP.fun_ (h1) (by first | rfl | fail) (by first | assumption | (simp; done) | fail) (by first | (simp [hcb]; done) | (simp [hcb]; rfl) | fail) (by first | (simp; done) | fail) (fun d hd => ?_); subst hd; (try simp [hcb]))
  | fail)
 (refine EndOK.val (.inr rfl) ?_; simp [resD, oneOrTup, pureD, Tryd.results49])
 have h2 := idxP_any p l 0 (by omega)
 rw [Bool.eq_iff_iff]
 simpa using h2
def numB (e : Exp) : Bool := decide (e.s = []) && decide (0 ≤ e.unit) && decide (e.unit < 5) && decide (0 ≤ e.n) && decide (e.n ≤ if e.unit = 0 then 1 else 1099511627776)
def rightB : Nat → Exp → Bool
 | 0, _ => false
 | d + 1, e => decide ((e.args.length : Int) = operandsI e.op) && (if e.op = 0 then numB e else if e.n ≠ 0 ∨ e.unit ≠ 0 then false else if e.op = 1 then nameB e.s else decide (e.s = []) && !e.args.any (fun x => !rightB d x))
set_option maxRecDepth 100000 in
set_option maxHeartbeats 4000000 in
theorem right_fun : ∀ (d : Nat) (e : Exp), (d : Int) ≤ 100 → Fun Tryd.prog 28 [eagg e, .u (.int .i64 d)] (· = .u (.bool (rightB d e)))
 | 0, e, _ => by
  (refine Fun.of_body Tryd.func28 rfl (by simp) fun Γ hn => ?_); simp only [entry, List.zipIdx_cons, List.zipIdx_nil, List.map_cons, List.map_nil, Nat.zero_add, Tryd.ntmps28]
  simp only [eagg]
  repeat' (first
  | (refine H_cons ?_; simp)
  | (refine HD_cons ?_; simp)
  | (refine H_nil ?_; simp)
  | (refine V_sseq ?_; simp)
  | (refine V_scond ?_; simp)
  | (refine HD_nil ?_)
  | (refine hk _ ?_; clear hk k; simp only [RunK])
  | (refine V_drawV rfl (by kernel_rfl) (by kernel_rfl) fun k hk => ?_; simp)
  | (refine HD_guard rfl (by simp) (fun hc => ?_) (fun hc => ?_) <;> (try simp at hc) <;> (try (exfalso; omega)) <;> (try simp))
  | (refine V_ret ?_; simp only [RunK])
  | fail)
  (refine EndOK.val (.inr rfl) ?_; simp [resD, oneOrTup, pureD, Tryd.results28])
  rfl
 | d + 1, e, hd => by
  have hr : ∀ x : Exp, Fun Tryd.prog 50 (eagg x :: [U.row [.int .i64 ((d + 1 : Nat) : Int)] 0].map .u) (· = .u (.bool (!rightB d x))) := fun x => by
   have h1 := right_fun d x (by omega)
   (refine Fun.of_body Tryd.func50 rfl (by simp) fun Γ hn => ?_); simp only [entry, List.zipIdx_cons, List.zipIdx_nil, List.map_cons, List.map_nil, Nat.zero_add, Tryd.ntmps50]
   simp only [eagg] at h1 ⊢
   repeat' (first
  | (refine H_cons ?_; simp)
  | (refine H_nil ?_; simp)
  | (refine ⟨by omega, ?_⟩)
  | (refine V_sseq ?_; simp)
  | (refine V_ret ?_; simp only [RunK])
  | (refine CallP.fun_ (h1) (by first | rfl | fail) (by first | assumption | (simp; done) | fail) (by first | (simp; done) | (simp; rfl) | fail) (by first | (simp; done) | fail) (fun d hd => ?_); subst hd; (try simp))
  | fail)
   (refine EndOK.val (.inr rfl) ?_; simp [resD, oneOrTup, pureD, Tryd.results50])
  have hcon := containsE_fun e.args 50 [U.row [.int .i64 ((d + 1 : Nat) : Int)] 0] (fun x => !rightB d x) (fun x _ => hr x) (by simp) (fun _ => rfl) (fun _ => rfl)
  have hnam := name_fun e.s
  have hopr := operands_fun e.op
  simp only [List.map_cons, List.map_nil] at hcon
  rw [rightB]
  unfold numB
  generalize (e.args.any fun x => !rightB d x) = z at hcon ⊢
  generalize nameB e.s = nm at hnam ⊢
  generalize hop : operandsI e.op = oi at hopr ⊢
  (refine Fun.of_body Tryd.func28 rfl (by simp) fun Γ hn => ?_); simp only [entry, List.zipIdx_cons, List.zipIdx_nil, List.map_cons, List.map_nil, Nat.zero_add, Tryd.ntmps28]
  rw [exps_eq] at hcon
  simp only [eagg]
  by_cases hlen : (e.args.length : Int) = oi
  case neg =>
   repeat' (first
  | (refine H_cons ?_; simp [hlen])
  | (refine HD_cons ?_; simp [hlen])
  | (refine H_nil ?_; simp [hlen])
  | (refine V_sseq ?_; simp [hlen])
  | (refine V_scond ?_; simp [hlen])
  | (refine HD_nil ?_)
  | (refine hk _ ?_; clear hk k; simp only [RunK])
  | (refine V_drawV rfl (by kernel_rfl) (by kernel_rfl) fun k hk => ?_; simp [hlen])
  | (refine HD_guard rfl (by simp [hlen]) (fun hc => ?_) (fun hc => ?_) <;> (try simp [hlen] at hc) <;> (try (exfalso; omega)) <;> (try simp [hlen]))
  | (refine V_ret ?_; simp only [RunK])
  | (refine CallV.fun_ (hopr) (by first | rfl | fail) (by first | assumption | (simp; done) | fail) (by first | (simp [hlen]; done) | (simp [hlen]; rfl) | fail) (by first | (simp; done) | fail) ?_ <;> (try simp [hlen]))
  | fail)
   (refine EndOK.val (.inr rfl) ?_; simp [resD, oneOrTup, pureD, Tryd.results28])
   try (simp_all; done)
  by_cases h0 : e.op = 0
  case pos =>
   by_cases hu : e.unit = 0
   all_goals
    repeat' (first
  | (refine H_cons ?_; simp [hlen, h0, hu])
  | (refine HD_cons ?_; simp [hlen, h0, hu])
  | (refine H_nil ?_; simp [hlen, h0, hu])
  | (refine V_sseq ?_; simp [hlen, h0, hu])
  | (refine V_scond ?_; simp [hlen, h0, hu])
  | (refine HD_nil ?_)
  | (refine hk _ ?_; clear hk k; simp only [RunK])
  | (refine V_drawV rfl (by kernel_rfl) (by kernel_rfl) fun k hk => ?_; simp [hlen, h0, hu])
  | (refine HD_guard rfl (by simp [hlen, h0, hu]) (fun hc => ?_) (fun hc => ?_) <;> (try simp [hlen, h0, hu] at hc) <;> (try (exfalso; omega)) <;> (try simp [hlen, h0, hu]))
  | (refine V_sregion ?_; simp [hlen, h0, hu])
  | (refine V_ret ?_; simp only [RunK])
  | (refine V_skip ?_; simp only [RunK])
  | (refine ⟨fun hc => ?_, fun hc => ?_⟩ <;> (try (exfalso; omega)))
  | (refine CallV.fun_ (hopr) (by first | rfl | fail) (by first | assumption | (simp; done) | fail) (by first | (simp [hlen, h0, hu]; done) | (simp [hlen, h0, hu]; rfl) | fail) (by first | (simp; done) | fail) ?_ <;> (try simp [hlen, h0, hu]))
  | fail)
    all_goals
     (refine EndOK.val (.inr rfl) ?_; simp [resD, oneOrTup, pureD, Tryd.results28])
   all_goals clear hr hopr hcon hnam
   all_goals grind
  by_cases hnu : e.n ≠ 0 ∨ e.unit ≠ 0
  case pos =>
   repeat' (first
  | (refine H_cons ?_; simp [hlen, h0])
  | (refine HD_cons ?_; simp [hlen, h0])
  | (refine H_nil ?_; simp [hlen, h0])
  | (refine V_sseq ?_; simp [hlen, h0])
  | (refine V_scond ?_; simp [hlen, h0])
  | (refine HD_nil ?_)
  | (refine hk _ ?_; clear hk k; simp only [RunK])
  | (refine V_drawV rfl (by kernel_rfl) (by kernel_rfl) fun k hk => ?_; simp [hlen, h0])
  | (refine HD_guard rfl (by simp [hlen, h0]) (fun hc => ?_) (fun hc => ?_) <;> (try simp [hlen, h0] at hc) <;> (try (exfalso; omega)) <;> (try simp [hlen, h0]))
  | (refine V_ret ?_; simp only [RunK])
  | (refine V_skip ?_; simp only [RunK])
  | (refine ⟨?_, by omega⟩)
  | (refine ⟨fun hc => ?_, fun hc => ?_⟩ <;> (try (exfalso; omega)))
  | (intro hc <;> (try (exfalso; omega)))
  | (refine CallV.fun_ (hopr) (by first | rfl | fail) (by first | assumption | (simp; done) | fail) (by first | (simp [hlen, h0]; done) | (simp [hlen, h0]; rfl) | fail) (by first | (simp; done) | fail) ?_ <;> (try simp [hlen, h0]))
  | fail)
   all_goals
    (refine EndOK.val (.inr rfl) ?_; simp [resD, oneOrTup, pureD, Tryd.results28])
   all_goals clear hr hopr hcon hnam
   all_goals grind
  by_cases h1 : e.op = 1
  case pos =>
   repeat' (first
  | (refine H_cons ?_; simp [hlen, h0, h1])
  | (refine HD_cons ?_; simp [hlen, h0, h1])
  | (refine H_nil ?_; simp [hlen, h0, h1])
  | (refine ⟨by omega, ?_⟩)
  | (refine V_sseq ?_; simp [hlen, h0, h1])
  | (refine V_scond ?_; simp [hlen, h0, h1])
  | (refine HD_nil ?_)
  | (refine hk _ ?_; clear hk k; simp only [RunK])
  | (refine V_drawV rfl (by kernel_rfl) (by kernel_rfl) fun k hk => ?_; simp [hlen, h0, h1])
  | (refine HD_guard rfl (by simp [hlen, h0, h1]) (fun hc => ?_) (fun hc => ?_) <;> (try simp [hlen, h0, h1] at hc) <;> (try (exfalso; omega)) <;> (try simp [hlen, h0, h1]))
  | (refine V_ret ?_; simp only [RunK])
  | (refine V_skip ?_; simp only [RunK])
  | (refine ⟨?_, by omega⟩)
  | (intro hc <;> (try (exfalso; omega)))
  | (refine CallV.fun_ (hopr) (by first | rfl | fail) (by first | assumption | (simp; done) | fail) (by first | (simp [hlen, h0, h1]; done) | (simp [hlen, h0, h1]; rfl) | fail) (by first | (simp; done) | fail) ?_ <;> (try simp [hlen, h0, h1]))
  | (refine CallP.fun_ (hnam) (by first | rfl | fail) (by first | assumption | (simp; done) | fail) (by first | (simp [hlen, h0, h1]; done) | (simp [hlen, h0, h1]; rfl) | fail) (by first | (simp; done) | fail) (fun d hd => ?_); subst hd; (try simp [hlen, h0, h1]))
  | fail)
   all_goals
    (refine EndOK.val (.inr rfl) ?_; simp [resD, oneOrTup, pureD, Tryd.results28])
   all_goals clear hr hopr hcon hnam
   all_goals grind
  by_cases hs : e.s = []
  all_goals
   repeat' (first
  | (refine H_cons ?_; simp [hlen, h0, h1, hs])
  | (refine HD_cons ?_; simp [hlen, h0, h1, hs])
  | (refine H_nil ?_; simp [hlen, h0, h1, hs])
  | (refine ⟨by omega, ?_⟩)
  | (refine V_sseq ?_; simp [hlen, h0, h1, hs])
  | (refine V_scond ?_; simp [hlen, h0, h1, hs])
  | (refine HD_nil ?_)
  | (refine hk _ ?_; clear hk k; simp only [RunK])
  | (refine V_drawV rfl (by kernel_rfl) (by kernel_rfl) fun k hk => ?_; simp [hlen, h0, h1, hs])
  | (refine HD_guard rfl (by simp [hlen, h0, h1, hs]) (fun hc => ?_) (fun hc => ?_) <;> (try simp [hlen, h0, h1, hs] at hc) <;> (try (exfalso; omega)) <;> (try simp [hlen, h0, h1, hs]))
  | (refine V_ret ?_; simp only [RunK])
  | (refine V_skip ?_; simp only [RunK])
  | (refine ⟨?_, by omega⟩)
  | (intro hc <;> (try (exfalso; omega)))
  | (refine CallV.fun_ (hopr) (by first | rfl | fail) (by first | assumption | (simp; done) | fail) (by first | (simp [hlen, h0, h1, hs]; done) | (simp [hlen, h0, h1, hs]; rfl) | fail) (by first | (simp; done) | fail) ?_ <;> (try simp [hlen, h0, h1, hs]))
  | (refine CallP.fun_ (hcon) (by first | rfl | fail) (by first | assumption | (simp; done) | fail) (by first | (simp [hlen, h0, h1, hs]; done) | (simp [hlen, h0, h1, hs]; rfl) | fail) (by first | (simp; done) | fail) (fun d hd => ?_); subst hd; (try simp [hlen, h0, h1, hs]))
  | fail)
   all_goals
    (refine EndOK.val (.inr rfl) ?_; simp [resD, oneOrTup, pureD, Tryd.results28])
  all_goals clear hr hopr hcon hnam
  all_goals grind
theorem rightExp_fun (e : Exp) : Fun Tryd.prog 15 [eagg e] (· = .u (.bool (rightB 12 e))) := by
 have h1 := right_fun 12 e (by omega)
 (refine Fun.of_body Tryd.func15 rfl (by simp) fun Γ hn => ?_); simp only [entry, List.zipIdx_cons, List.zipIdx_nil, List.map_cons, List.map_nil, Nat.zero_add, Tryd.ntmps15]
 simp only [eagg] at h1 ⊢
 repeat' (first
  | (refine H_cons ?_; simp)
  | (refine H_nil ?_; simp)
  | (refine V_sseq ?_; simp)
  | (refine V_ret ?_; simp only [RunK])
  | (refine CallP.fun_ (h1) (by first | rfl | fail) (by first | assumption | (simp; done) | fail) (by first | (simp; done) | (simp; rfl) | fail) (by first | (simp; done) | fail) (fun d hd => ?_); subst hd; (try simp))
  | fail)
 (refine EndOK.val (.inr rfl) ?_; simp [resD, oneOrTup, pureD, Tryd.results15])
def iarg (n : Int) : D := .u (.int .i64 n)
def ints (l : List Int) : U := .sl (l.map fun n => [.int .i64 n])
theorem indexI_fun (l : List (Int)) (f : FuncId) (caps : List U) (p : Int → Bool) (hf : ∀ n ∈ l, Fun Tryd.prog f (iarg n :: caps.map .u) (· = .u (.bool (p n)))) (hcl : callable Tryd.prog f = true)
  (hca : ∀ o, argsW o (caps.map .u) = some (caps.map .u, [])) : Fun Tryd.prog 106 [.u (ints l), .fnc (.func f) (caps.map .u)] (· = .u (.int .i64 (idxP p l 0))) := by
 (refine Fun.of_body Tryd.func106 rfl (by simp) fun Γ hn => ?_); simp only [entry, List.zipIdx_cons, List.zipIdx_nil, List.map_cons, List.map_nil, Nat.zero_add, Tryd.ntmps106]
 simp only [ints]
 refine V_len (x := 0) rfl fun hl => ?_
 simp at hl
 repeat' (first
  | (refine H_cons ?_; simp)
  | (refine H_nil ?_; simp)
  | (refine V_sseq ?_; simp)
  | (refine V_sblock ?_; simp)
  | fail)
 refine V_loopF (α := { i : Nat // i ≤ l.length ∧ ∀ c ∈ l.take i, p c = false }) [0, 1, 7] (fun i => [(8, .u (.int .i64 i.1))]) (fun i => l.length - i.1) ⟨0, by omega, by simp⟩ ?_ ?_
 ·exact (Wk.env rfl rfl rfl (by simp [wkE, St.lp, keepE, getK_cons, getK] <;> (try (intros; simp_all; done)) <;> (try (intros; omega)) <;> (try grind)))
 rintro ⟨i, hi, hb⟩
 simp [St.lp, St.only, keepE, getK_cons, getK]
 rcases hx : l[i]? with _ | n
 ·have hge : l.length ≤ i := by simpa using hx
  repeat' (first
  | (refine H_cons ?_; simp [hx])
  | (refine H_nil ?_; simp [hx])
  | (refine ⟨by omega, ?_⟩)
  | (refine V_sseq ?_; simp [hx])
  | (refine V_ret ?_; simp only [RunK])
  | (refine V_exit ?_; simp [RunK])
  | (intro hc <;> (try (exfalso; omega)))
  | fail)
  (refine EndOK.val (.inr rfl) ?_; simp [resD, oneOrTup, pureD, Tryd.results106])
  rw [List.take_of_length_le hge] at hb
  exact (idxP_none hb).symm
 ·have hlt : i < l.length := (List.getElem?_eq_some_iff.1 hx).1
  have h1 := hf n (List.mem_of_getElem? hx)
  simp only [iarg] at h1
  cases hp : p n
  ·rw [hp] at h1
   repeat' (first
  | (refine H_cons ?_; simp [hx, hca])
  | (refine H_nil ?_; simp [hx, hca])
  | (refine ⟨by omega, ?_⟩)
  | (refine V_sseq ?_; simp [hx, hca])
  | (refine V_scond ?_; simp [hx, hca])
  | (refine V_sregion ?_; simp [hx, hca])
  | (refine V_skip ?_; simp only [RunK])
  | (refine ⟨?_, by omega⟩)
  | (intro hc <;> (try (exfalso; omega)))
  | (refine CallP.fun_ (h1) (by first | rfl | fail) (by first | assumption | (simp; done) | fail) (by first | (simp [hx, hca]; done) | (simp [hx, hca]; rfl) | fail) (by first | (simp; done) | fail) (fun d hd => ?_); subst hd; (try simp [hx, hca]))
  | fail)
   refine LoopW.next ⟨i + 1, by omega, take_succ_all hx hb hp⟩ (by simp; omega) ?_
   exact (Wk.env rfl rfl rfl (by simp [wkE, St.lp, keepE, getK_cons, getK] <;> (try (intros; simp_all; done)) <;> (try (intros; omega)) <;> (try grind)))
  ·rw [hp] at h1
   repeat' (first
  | (refine H_cons ?_; simp [hx, hca])
  | (refine H_nil ?_; simp [hx, hca])
  | (refine V_sseq ?_; simp [hx, hca])
  | (refine V_scond ?_; simp [hx, hca])
  | (refine V_ret ?_; simp only [RunK])
  | (refine V_skip ?_; simp only [RunK])
  | (refine ⟨?_, by omega⟩)
  | (intro hc <;> (try (exfalso; omega)))
  | (refine CallP.fun_ (h1) (by first | rfl | fail) (by first | assumption | (simp; done) | fail) (by first | (simp [hx, hca]; done) | (simp [hx, hca]; rfl) | fail) (by first | (simp; done) | fail) (fun d hd => ?_); subst hd; (try simp [hx, hca]))
  | fail)
   (refine EndOK.val (.inr rfl) ?_; simp [resD, oneOrTup, pureD, Tryd.results106])
   rw [idxP_at hb hx hp]
   omega
theorem containsI_fun (l : List (Int)) (f : FuncId) (caps : List U) (p : Int → Bool) (hf : ∀ n ∈ l, Fun Tryd.prog f (iarg n :: caps.map .u) (· = .u (.bool (p n)))) (hcl : callable Tryd.prog f = true)
  (hca : ∀ o, argsW o (caps.map .u) = some (caps.map .u, [])) (hcb : ∀ o, argsU1 o (caps.map .u) = some (caps, [])) : Fun Tryd.prog 85 [.u (ints l), .fnc (.func f) (caps.map .u)] (· = .u (.bool (l.any p))) := by
 have h1 := indexI_fun l f caps p hf hcl hca
 (refine Fun.of_body Tryd.func85 rfl (by simp) fun Γ hn => ?_); simp only [entry, List.zipIdx_cons, List.zipIdx_nil, List.map_cons, List.map_nil, Nat.zero_add, Tryd.ntmps85]
 simp only [ints] at h1 ⊢
 repeat' (first
  | (refine H_cons ?_; simp [hcb])
  | (refine H_nil ?_; simp [hcb])
  | (refine V_sseq ?_; simp [hcb])
  | (refine V_ret ?_; simp only [RunK])
  | (refine CallP.fun_ (h1) (by first | rfl | fail) (by first | assumption | (simp; done) | fail) (by first | (simp [hcb]; done) | (simp [hcb]; rfl) | fail) (by first | (simp; done) | fail) (fun d hd => ?_); subst hd; (try simp [hcb]))
  | fail)
 (refine EndOK.val (.inr rfl) ?_; simp [resD, oneOrTup, pureD, Tryd.results85])
 have h2 := idxP_any p l 0 (by omega)
 rw [Bool.eq_iff_iff]
 simpa using h2
def inB (lo hi : Int) (l : List Int) : Bool := !l.any fun n => decide (n < lo) || decide (hi < n)
theorem in1_fun (lo hi n : Int) : Fun Tryd.prog 86 (iarg n :: [U.row [.int .i64 lo] 0, U.row [.int .i64 hi] 0].map .u) (· = .u (.bool (decide (n < lo) || decide (hi < n)))) := by
 simp only [iarg, List.map_cons, List.map_nil]
 (refine Fun.of_body Tryd.func86 rfl (by simp) fun Γ hn => ?_); simp only [entry, List.zipIdx_cons, List.zipIdx_nil, List.map_cons, List.map_nil, Nat.zero_add, Tryd.ntmps86]
 repeat' (first
  | (refine H_cons ?_; simp)
  | (refine H_nil ?_; simp)
  | (refine V_sseq ?_; simp)
  | (refine V_ret ?_; simp only [RunK])
  | (refine ⟨fun hc => ?_, fun hc => ?_⟩ <;> (try (exfalso; omega)))
  | fail)
 all_goals
  (refine EndOK.val (.inr rfl) ?_; simp [resD, oneOrTup, pureD, Tryd.results86])
 all_goals grind
theorem in_fun (lo hi : Int) (l : List Int) : Fun Tryd.prog 59 [.u (.int .i64 lo), .u (.int .i64 hi), .u (ints l)] (· = .u (.bool (inB lo hi l))) := by
 have h1 := containsI_fun l 86 [U.row [.int .i64 lo] 0, U.row [.int .i64 hi] 0] _ (fun n _ => in1_fun lo hi n) (by simp) (fun _ => rfl) (fun _ => rfl)
 simp only [List.map_cons, List.map_nil] at h1
 unfold inB
 (refine Fun.of_body Tryd.func59 rfl (by simp) fun Γ hn => ?_); simp only [entry, List.zipIdx_cons, List.zipIdx_nil, List.map_cons, List.map_nil, Nat.zero_add, Tryd.ntmps59]
 simp only [ints] at h1 ⊢
 repeat' (first
  | (refine H_cons ?_; simp)
  | (refine H_nil ?_; simp)
  | (refine V_sseq ?_; simp)
  | (refine V_ret ?_; simp only [RunK])
  | (refine CallP.fun_ (h1) (by first | rfl | fail) (by first | assumption | (simp; done) | fail) (by first | (simp; done) | (simp; rfl) | fail) (by first | (simp; done) | fail) (fun d hd => ?_); subst hd; (try simp))
  | fail)
 (refine EndOK.val (.inr rfl) ?_; simp [resD, oneOrTup, pureD, Tryd.results59])
def lcells (l : Let) : List U := [.str l.name, .int .i64 l.body.op, .int .i64 l.body.n, .int .i64 l.body.unit, .str l.body.s, .sl (l.body.args.map Exp.row)]
def lagg (l : Let) : D := .u (.agg [.str l.name, .int .i64 l.body.op, .int .i64 l.body.n, .int .i64 l.body.unit, .str l.body.s, .sl (l.body.args.map Exp.row)])
def letsU (l : List Let) : U := .sl (l.map fun l => [.str l.name, .int .i64 l.body.op, .int .i64 l.body.n, .int .i64 l.body.unit, .str l.body.s, .sl (l.body.args.map Exp.row)])
theorem indexL_fun (l : List (Let)) (f : FuncId) (caps : List U) (p : Let → Bool) (hf : ∀ n ∈ l, Fun Tryd.prog f (lagg n :: caps.map .u) (· = .u (.bool (p n)))) (hcl : callable Tryd.prog f = true)
  (hca : ∀ o, argsW o (caps.map .u) = some (caps.map .u, [])) : Fun Tryd.prog 87 [.u (letsU l), .fnc (.func f) (caps.map .u)] (· = .u (.int .i64 (idxP p l 0))) := by
 (refine Fun.of_body Tryd.func87 rfl (by simp) fun Γ hn => ?_); simp only [entry, List.zipIdx_cons, List.zipIdx_nil, List.map_cons, List.map_nil, Nat.zero_add, Tryd.ntmps87]
 simp only [letsU]
 refine V_len (x := 0) rfl fun hl => ?_
 simp at hl
 repeat' (first
  | (refine H_cons ?_; simp)
  | (refine H_nil ?_; simp)
  | (refine V_sseq ?_; simp)
  | (refine V_sblock ?_; simp)
  | fail)
 refine V_loopF (α := { i : Nat // i ≤ l.length ∧ ∀ c ∈ l.take i, p c = false }) [0, 1, 7] (fun i => [(8, .u (.int .i64 i.1))]) (fun i => l.length - i.1) ⟨0, by omega, by simp⟩ ?_ ?_
 ·exact (Wk.env rfl rfl rfl (by simp [wkE, St.lp, keepE, getK_cons, getK] <;> (try (intros; simp_all; done)) <;> (try (intros; omega)) <;> (try grind)))
 rintro ⟨i, hi, hb⟩
 simp [St.lp, St.only, keepE, getK_cons, getK]
 rcases hx : l[i]? with _ | n
 ·have hge : l.length ≤ i := by simpa using hx
  repeat' (first
  | (refine H_cons ?_; simp [hx])
  | (refine H_nil ?_; simp [hx])
  | (refine ⟨by omega, ?_⟩)
  | (refine V_sseq ?_; simp [hx])
  | (refine V_ret ?_; simp only [RunK])
  | (refine V_exit ?_; simp [RunK])
  | (intro hc <;> (try (exfalso; omega)))
  | fail)
  (refine EndOK.val (.inr rfl) ?_; simp [resD, oneOrTup, pureD, Tryd.results87])
  rw [List.take_of_length_le hge] at hb
  exact (idxP_none hb).symm
 ·have hlt : i < l.length := (List.getElem?_eq_some_iff.1 hx).1
  have h1 := hf n (List.mem_of_getElem? hx)
  simp only [lagg] at h1
  cases hp : p n
  ·rw [hp] at h1
   repeat' (first
  | (refine H_cons ?_; simp [hx, hca])
  | (refine H_nil ?_; simp [hx, hca])
  | (refine ⟨by omega, ?_⟩)
  | (refine V_sseq ?_; simp [hx, hca])
  | (refine V_scond ?_; simp [hx, hca])
  | (refine V_sregion ?_; simp [hx, hca])
  | (refine V_skip ?_; simp only [RunK])
  | (refine ⟨?_, by omega⟩)
  | (intro hc <;> (try (exfalso; omega)))
  | (refine CallP.fun_ (h1) (by first | rfl | fail) (by first | assumption | (simp; done) | fail) (by first | (simp [hx, hca]; done) | (simp [hx, hca]; rfl) | fail) (by first | (simp; done) | fail) (fun d hd => ?_); subst hd; (try simp [hx, hca]))
  | fail)
   refine LoopW.next ⟨i + 1, by omega, take_succ_all hx hb hp⟩ (by simp; omega) ?_
   exact (Wk.env rfl rfl rfl (by simp [wkE, St.lp, keepE, getK_cons, getK] <;> (try (intros; simp_all; done)) <;> (try (intros; omega)) <;> (try grind)))
  ·rw [hp] at h1
   repeat' (first
  | (refine H_cons ?_; simp [hx, hca])
  | (refine H_nil ?_; simp [hx, hca])
  | (refine V_sseq ?_; simp [hx, hca])
  | (refine V_scond ?_; simp [hx, hca])
  | (refine V_ret ?_; simp only [RunK])
  | (refine V_skip ?_; simp only [RunK])
  | (refine ⟨?_, by omega⟩)
  | (intro hc <;> (try (exfalso; omega)))
  | (refine CallP.fun_ (h1) (by first | rfl | fail) (by first | assumption | (simp; done) | fail) (by first | (simp [hx, hca]; done) | (simp [hx, hca]; rfl) | fail) (by first | (simp; done) | fail) (fun d hd => ?_); subst hd; (try simp [hx, hca]))
  | fail)
   (refine EndOK.val (.inr rfl) ?_; simp [resD, oneOrTup, pureD, Tryd.results87])
   rw [idxP_at hb hx hp]
   omega
theorem containsL_fun (l : List (Let)) (f : FuncId) (caps : List U) (p : Let → Bool) (hf : ∀ n ∈ l, Fun Tryd.prog f (lagg n :: caps.map .u) (· = .u (.bool (p n)))) (hcl : callable Tryd.prog f = true)
  (hca : ∀ o, argsW o (caps.map .u) = some (caps.map .u, [])) (hcb : ∀ o, argsU1 o (caps.map .u) = some (caps, [])) : Fun Tryd.prog 60 [.u (letsU l), .fnc (.func f) (caps.map .u)] (· = .u (.bool (l.any p))) := by
 have h1 := indexL_fun l f caps p hf hcl hca
 (refine Fun.of_body Tryd.func60 rfl (by simp) fun Γ hn => ?_); simp only [entry, List.zipIdx_cons, List.zipIdx_nil, List.map_cons, List.map_nil, Nat.zero_add, Tryd.ntmps60]
 simp only [letsU] at h1 ⊢
 repeat' (first
  | (refine H_cons ?_; simp [hcb])
  | (refine H_nil ?_; simp [hcb])
  | (refine V_sseq ?_; simp [hcb])
  | (refine V_ret ?_; simp only [RunK])
  | (refine CallP.fun_ (h1) (by first | rfl | fail) (by first | assumption | (simp; done) | fail) (by first | (simp [hcb]; done) | (simp [hcb]; rfl) | fail) (by first | (simp; done) | fail) (fun d hd => ?_); subst hd; (try simp [hcb]))
  | fail)
 (refine EndOK.val (.inr rfl) ?_; simp [resD, oneOrTup, pureD, Tryd.results60])
 have h2 := idxP_any p l 0 (by omega)
 rw [Bool.eq_iff_iff]
 simpa using h2
theorem right1_fun (x l : Let) : Fun Tryd.prog 61 (lagg x :: [U.row (lcells l) 0].map .u) (· = .u (.bool (decide (x.name = l.name)))) := by
 simp only [lagg, lcells, List.map_cons, List.map_nil]
 (refine Fun.of_body Tryd.func61 rfl (by simp) fun Γ hn => ?_); simp only [entry, List.zipIdx_cons, List.zipIdx_nil, List.map_cons, List.map_nil, Nat.zero_add, Tryd.ntmps61]
 repeat' (first
  | (refine H_cons ?_; simp)
  | (refine H_nil ?_; simp)
  | (refine V_sseq ?_; simp)
  | (refine V_ret ?_; simp only [RunK])
  | fail)
 (refine EndOK.val (.inr rfl) ?_; simp [resD, oneOrTup, pureD, Tryd.results61])
structure By where
 kind : Int
 period : Int
 grace : Int
 wait : Int
 last : Int
 order : Int
 sld : Bool
 backs : Int
 voices : Int
 jury : Int
 fund : Int
 lets : List Let
 due : Exp
 fine : Exp
 pay : Exp
 cover : Exp
 hold : Exp
 deriving Inhabited
def byCells (b : By) : List U := [.int .i64 b.kind, .int .i64 b.period, .int .i64 b.grace, .int .i64 b.wait, .int .i64 b.last, .int .i64 b.order, .bool b.sld, .int .i64 b.backs, .int .i64 b.voices, .int .i64 b.jury, .int .i64 b.fund,
 .sl (b.lets.map fun l => [.str l.name, .int .i64 l.body.op, .int .i64 l.body.n, .int .i64 l.body.unit, .str l.body.s, .sl (l.body.args.map Exp.row)]),
 .int .i64 b.due.op, .int .i64 b.due.n, .int .i64 b.due.unit, .str b.due.s, .sl (b.due.args.map Exp.row),
 .int .i64 b.fine.op, .int .i64 b.fine.n, .int .i64 b.fine.unit, .str b.fine.s, .sl (b.fine.args.map Exp.row),
 .int .i64 b.pay.op, .int .i64 b.pay.n, .int .i64 b.pay.unit, .str b.pay.s, .sl (b.pay.args.map Exp.row),
 .int .i64 b.cover.op, .int .i64 b.cover.n, .int .i64 b.cover.unit, .str b.cover.s, .sl (b.cover.args.map Exp.row),
 .int .i64 b.hold.op, .int .i64 b.hold.n, .int .i64 b.hold.unit, .str b.hold.s, .sl (b.hold.args.map Exp.row)]
def headB (b : By) : Bool := inB 0 2 [b.kind] && inB 0 2 [b.order] && inB 1 1000 [b.period, b.last] && inB 0 1000 [b.grace, b.wait, b.voices, b.fund] && inB 0 60 [b.backs, b.jury]
def letsB (seen : List Let) : List Let → Bool
 | [] => true
 | l :: r => nameB l.name && rightB 12 l.body && !seen.any (fun x => decide (x.name = l.name)) && letsB (seen ++ [l]) r
theorem letsB_at {L : List Let} {i : Nat} {l : Let} (h : L[i]? = some l) : letsB (L.take i) (L.drop i) = (nameB l.name && rightB 12 l.body && !(L.take i).any (fun x => decide (x.name = l.name)) && letsB (L.take (i + 1)) (L.drop (i + 1))) := by
 obtain ⟨hi, rfl⟩ := List.getElem?_eq_some_iff.1 h
 rw [List.drop_eq_getElem_cons hi, letsB, List.take_succ_eq_append_getElem hi]
def expsB (b : By) : Bool := rightB 12 b.due && rightB 12 b.fine && rightB 12 b.pay && rightB 12 b.cover && rightB 12 b.hold
def rightBy (b : By) : Bool := headB b && !(b.sld && decide (b.kind ≠ 1)) && decide (b.lets.length ≤ 20) && letsB [] b.lets && expsB b
set_option maxRecDepth 100000 in
set_option maxHeartbeats 4000000 in
theorem rightBy_fun (b : By) : Fun Tryd.prog 31 [.u (.agg (byCells b))] (· = .u (.bool (rightBy b))) := by
 have i1 := in_fun 0 2 [b.kind]
 have i2 := in_fun 0 2 [b.order]
 have i3 := in_fun 1 1000 [b.period, b.last]
 have i4 := in_fun 0 1000 [b.grace, b.wait, b.voices, b.fund]
 have i5 := in_fun 0 60 [b.backs, b.jury]
 simp only [ints, List.map_cons, List.map_nil] at i1 i2 i3 i4 i5
 have hr : ∀ e : Exp, Fun Tryd.prog 15 [.u (.agg [.int .i64 e.op, .int .i64 e.n, .int .i64 e.unit, .str e.s, .sl (e.args.map Exp.row)])] (· = .u (.bool (rightB 12 e))) := fun e => rightExp_fun e
 have e1 := hr b.due
 have e2 := hr b.fine
 have e3 := hr b.pay
 have e4 := hr b.cover
 have e5 := hr b.hold
 unfold rightBy headB expsB
 generalize inB 0 2 [b.kind] = c1 at i1 ⊢
 generalize inB 0 2 [b.order] = c2 at i2 ⊢
 generalize inB 1 1000 [b.period, b.last] = c3 at i3 ⊢
 generalize inB 0 1000 [b.grace, b.wait, b.voices, b.fund] = c4 at i4 ⊢
 generalize inB 0 60 [b.backs, b.jury] = c5 at i5 ⊢
 (refine Fun.of_body Tryd.func31 rfl (by simp) fun Γ hn => ?_); simp only [entry, List.zipIdx_cons, List.zipIdx_nil, List.map_cons, List.map_nil, Nat.zero_add, Tryd.ntmps31]
 simp only [byCells]
 repeat' (first
  | (refine H_cons ?_; simp)
  | (refine H_nil ?_; simp)
  | (refine V_sseq ?_; simp)
  | (refine V_scond ?_; simp)
  | (refine V_sblock ?_; simp)
  | (refine V_ret ?_; simp only [RunK])
  | (refine V_skip ?_; simp only [RunK])
  | (refine ⟨fun hc => ?_, fun hc => ?_⟩ <;> (try (exfalso; omega)))
  | (refine CallP.fun_ (i1) (by first | rfl | fail) (by first | assumption | (simp; done) | fail) (by first | (simp; done) | (simp; rfl) | fail) (by first | (simp; done) | fail) (fun d hd => ?_); subst hd; (try simp))
  | (refine CallP.fun_ (i2) (by first | rfl | fail) (by first | assumption | (simp; done) | fail) (by first | (simp; done) | (simp; rfl) | fail) (by first | (simp; done) | fail) (fun d hd => ?_); subst hd; (try simp))
  | (refine CallP.fun_ (i3) (by first | rfl | fail) (by first | assumption | (simp; done) | fail) (by first | (simp; done) | (simp; rfl) | fail) (by first | (simp; done) | fail) (fun d hd => ?_); subst hd; (try simp))
  | (refine CallP.fun_ (i4) (by first | rfl | fail) (by first | assumption | (simp; done) | fail) (by first | (simp; done) | (simp; rfl) | fail) (by first | (simp; done) | fail) (fun d hd => ?_); subst hd; (try simp))
  | (refine CallP.fun_ (i5) (by first | rfl | fail) (by first | assumption | (simp; done) | fail) (by first | (simp; done) | (simp; rfl) | fail) (by first | (simp; done) | fail) (fun d hd => ?_); subst hd; (try simp))
  | fail)
 all_goals try ((refine EndOK.val (.inr rfl) ?_; simp [resD, oneOrTup, pureD, Tryd.results31]); clear i1 i2 i3 i4 i5 hr e1 e2 e3 e4 e5; grind)
 all_goals
  refine V_loopF (α := { i : Nat // i ≤ b.lets.length ∧ letsB [] b.lets = letsB (b.lets.take i) (b.lets.drop i) }) [1, 62, 63] (fun i => [(64, .u (.int .i64 i.1))]) (fun i => b.lets.length - i.1) ⟨0, by omega, by simp⟩ ?_ ?_
  ·exact (Wk.cut rfl (by simp [hn, St.lp]) (by simp [wkO, St.lp, getK_cons, getK, Ob.under, D.under, under_rowsD, under_entD]) (by simp [wkU, St.lp, keepE, getK_cons, getK, D.under]) (by simp [wkE, St.lp, keepE, getK_cons, getK] <;> (try (intros; simp_all; done)) <;> (try (intros; omega)) <;> (try grind)))
  rintro ⟨i, hi, hb⟩
  simp [St.lp, St.only, keepE, getK_cons, getK]
  rcases hx : b.lets[i]? with _ | l
  ·have hge : b.lets.length ≤ i := by simpa using hx
   have hb' : letsB [] b.lets = true := by rw [hb, List.drop_of_length_le hge]; rfl
   generalize rightB 12 b.due = x1 at e1 ⊢
   generalize rightB 12 b.fine = x2 at e2 ⊢
   generalize rightB 12 b.pay = x3 at e3 ⊢
   generalize rightB 12 b.cover = x4 at e4 ⊢
   generalize rightB 12 b.hold = x5 at e5 ⊢
   repeat' (first
  | (refine H_cons ?_; simp [hx])
  | (refine H_nil ?_; simp [hx])
  | (refine ⟨by omega, ?_⟩)
  | (refine V_sseq ?_; simp [hx])
  | (refine V_ret ?_; simp only [RunK])
  | (refine V_exit ?_; simp [RunK])
  | (refine ⟨fun hc => ?_, fun hc => ?_⟩ <;> (try (exfalso; omega)))
  | (intro hc <;> (try (exfalso; omega)))
  | (refine CallP.fun_ (e1) (by first | rfl | fail) (by first | assumption | (simp; done) | fail) (by first | (simp [hx]; done) | (simp [hx]; rfl) | fail) (by first | (simp; done) | fail) (fun d hd => ?_); subst hd; (try simp [hx]))
  | (refine CallP.fun_ (e2) (by first | rfl | fail) (by first | assumption | (simp; done) | fail) (by first | (simp [hx]; done) | (simp [hx]; rfl) | fail) (by first | (simp; done) | fail) (fun d hd => ?_); subst hd; (try simp [hx]))
  | (refine CallP.fun_ (e3) (by first | rfl | fail) (by first | assumption | (simp; done) | fail) (by first | (simp [hx]; done) | (simp [hx]; rfl) | fail) (by first | (simp; done) | fail) (fun d hd => ?_); subst hd; (try simp [hx]))
  | (refine CallP.fun_ (e4) (by first | rfl | fail) (by first | assumption | (simp; done) | fail) (by first | (simp [hx]; done) | (simp [hx]; rfl) | fail) (by first | (simp; done) | fail) (fun d hd => ?_); subst hd; (try simp [hx]))
  | (refine CallP.fun_ (e5) (by first | rfl | fail) (by first | assumption | (simp; done) | fail) (by first | (simp [hx]; done) | (simp [hx]; rfl) | fail) (by first | (simp; done) | fail) (fun d hd => ?_); subst hd; (try simp [hx]))
  | fail)
   all_goals
    (refine EndOK.val (.inr rfl) ?_; simp [resD, oneOrTup, pureD, Tryd.results31])
   all_goals
    clear i1 i2 i3 i4 i5 hr e1 e2 e3 e4 e5
    grind
  ·have hlt : i < b.lets.length := (List.getElem?_eq_some_iff.1 hx).1
   have hnx := letsB_at hx
   have e6 := name_fun l.name
   have e7 := hr l.body
   have e8 := containsL_fun (b.lets.take i) 61 [U.row (lcells l) 0] _ (fun x _ => right1_fun x l) (by simp) (fun _ => rfl) (fun _ => rfl)
   simp only [letsU, lcells, List.map_cons, List.map_nil] at e8
   generalize nameB l.name = y1 at e6 hnx
   generalize rightB 12 l.body = y2 at e7 hnx
   generalize ((b.lets.take i).any fun x => decide (x.name = l.name)) = y3 at e8 hnx
   repeat' (first
  | (refine H_cons ?_; simp [hx])
  | (refine H_nil ?_; simp [hx])
  | (refine ⟨by omega, ?_⟩)
  | (refine V_sseq ?_; simp [hx])
  | (refine V_scond ?_; simp [hx])
  | (refine V_sregion ?_; simp [hx])
  | (refine V_ret ?_; simp only [RunK])
  | (refine V_skip ?_; simp only [RunK])
  | (refine ⟨?_, by omega⟩)
  | (refine ⟨fun hc => ?_, fun hc => ?_⟩ <;> (try (exfalso; omega)))
  | (intro hc <;> (try (exfalso; omega)))
  | (refine CallP.fun_ (e6) (by first | rfl | fail) (by first | assumption | (simp; done) | fail) (by first | (simp [hx]; done) | (simp [hx]; rfl) | fail) (by first | (simp; done) | fail) (fun d hd => ?_); subst hd; (try simp [hx]))
  | (refine CallP.fun_ (e7) (by first | rfl | fail) (by first | assumption | (simp; done) | fail) (by first | (simp [hx]; done) | (simp [hx]; rfl) | fail) (by first | (simp; done) | fail) (fun d hd => ?_); subst hd; (try simp [hx]))
  | (refine CallP.fun_ (e8) (by first | rfl | fail) (by first | assumption | (simp; done) | fail) (by first | (simp [hx]; done) | (simp [hx]; rfl) | fail) (by first | (simp; done) | fail) (fun d hd => ?_); subst hd; (try simp [hx]))
  | fail)
   all_goals first
    | (refine LoopW.next ⟨i + 1, by omega, by simp_all⟩ (by simp; omega) ?_; exact (Wk.cut rfl (by simp [hn, St.lp]) (by simp [wkO, St.lp, getK_cons, getK, Ob.under, D.under, under_rowsD, under_entD]) (by simp [wkU, St.lp, keepE, getK_cons, getK, D.under]) (by simp [wkE, St.lp, keepE, getK_cons, getK] <;> (try (intros; simp_all; done)) <;> (try (intros; omega)) <;> (try grind))))
    | ((refine EndOK.val (.inr rfl) ?_; simp [resD, oneOrTup, pureD, Tryd.results31]); clear i1 i2 i3 i4 i5 hr e1 e2 e3 e4 e5 e6 e7 e8; grind)
theorem comb11_fun (u n : Int) : Fun Tryd.prog 110 (iarg u :: [U.row [.int .i64 n] 0].map .u) (· = .u (.bool (decide (u ≠ n)))) := by
 simp only [iarg, List.map_cons, List.map_nil]
 (refine Fun.of_body Tryd.func110 rfl (by simp) fun Γ hn => ?_); simp only [entry, List.zipIdx_cons, List.zipIdx_nil, List.map_cons, List.map_nil, Nat.zero_add, Tryd.ntmps110]
 repeat' (first
  | (refine H_cons ?_; simp)
  | (refine H_nil ?_; simp)
  | (refine V_sseq ?_; simp)
  | (refine V_ret ?_; simp only [RunK])
  | fail)
 (refine EndOK.val (.inr rfl) ?_; simp [resD, oneOrTup, pureD, Tryd.results110])
def onlyB (u : Int) (l : List Int) : Bool := !l.any fun n => decide (n ≠ u)
theorem comb1_fun (u : Int) (l : List Int) : Fun Tryd.prog 109 [.u (.int .i64 u), .u (.row [ints l] 0)] (· = .u (.bool (onlyB u l))) := by
 have h1 := containsI_fun l 110 [U.row [.int .i64 u] 0] _ (fun n _ => comb11_fun n u) (by simp) (fun _ => rfl) (fun _ => rfl)
 simp only [List.map_cons, List.map_nil] at h1
 unfold onlyB
 (refine Fun.of_body Tryd.func109 rfl (by simp) fun Γ hn => ?_); simp only [entry, List.zipIdx_cons, List.zipIdx_nil, List.map_cons, List.map_nil, Nat.zero_add, Tryd.ntmps109]
 simp only [ints] at h1 ⊢
 repeat' (first
  | (refine H_cons ?_; simp)
  | (refine H_nil ?_; simp)
  | (refine V_sseq ?_; simp)
  | (refine V_ret ?_; simp only [RunK])
  | (refine CallP.fun_ (h1) (by first | rfl | fail) (by first | assumption | (simp; done) | fail) (by first | (simp; done) | (simp; rfl) | fail) (by first | (simp; done) | fail) (fun d hd => ?_); subst hd; (try simp))
  | fail)
 (refine EndOK.val (.inr rfl) ?_; simp [resD, oneOrTup, pureD, Tryd.results109])
def prodS (a b : Int) : Int × Bool := if a = 0 ∨ b = 0 then (0, false) else if a = 4 then (b, true) else if b = 4 then (a, true) else if a = 1 then (b, true) else if b = 1 then (a, true) else (0, false)
theorem prod_fun (a b : Int) : Fun Tryd.prog 111 [.u (.int .i64 a), .u (.int .i64 b)] (· = .tup [.u (.int .i64 (prodS a b).1), .u (.bool (prodS a b).2)]) := by
 (refine Fun.of_body Tryd.func111 rfl (by simp) fun Γ hn => ?_); simp only [entry, List.zipIdx_cons, List.zipIdx_nil, List.map_cons, List.map_nil, Nat.zero_add, Tryd.ntmps111]
 unfold prodS
 repeat' (first
  | (refine H_cons ?_; simp [zcells, chunks])
  | (refine H_nil ?_; simp [zcells, chunks])
  | (refine V_sseq ?_; simp [zcells, chunks])
  | (refine V_scond ?_; simp [zcells, chunks])
  | (refine V_sblock ?_; simp [zcells, chunks])
  | (refine V_ret ?_; simp only [RunK])
  | (refine V_skip ?_; simp only [RunK])
  | (refine ⟨fun hc => ?_, fun hc => ?_⟩ <;> (try (exfalso; omega)))
  | fail)
 all_goals try ((refine EndOK.val (.inr rfl) ?_; simp [resD, oneOrTup, pureD, Tryd.results111]); simp_all; done)
 all_goals
  refine V_loopF (α := { i : Nat // i ≤ 2 ∧ (1 ≤ i → a ≠ 4 ∧ b ≠ 4) ∧ (2 ≤ i → a ≠ 1 ∧ b ≠ 1) }) [0, 1, 14, 15] (fun i => [(16, .u (.int .i64 i.1))]) (fun i => 2 - i.1) ⟨0, by omega, by omega, by omega⟩ ?_ ?_
  ·exact (Wk.cut rfl (by simp [hn, St.lp]) (by simp [wkO, St.lp, getK_cons, getK, Ob.under, D.under, under_rowsD, under_entD]) (by simp [wkU, St.lp, keepE, getK_cons, getK, D.under]) (by simp [wkE, St.lp, keepE, getK_cons, getK] <;> (try (intros; simp_all; done)) <;> (try (intros; omega)) <;> (try grind)))
  rintro ⟨i, hi, h1, h2⟩
  simp [St.lp, St.only, keepE, getK_cons, getK]
  have : i = 0 ∨ i = 1 ∨ i = 2 := by omega
  rcases this with rfl | rfl | rfl
  ·repeat' (first
  | (refine H_cons ?_; simp)
  | (refine H_nil ?_; simp)
  | (refine V_sseq ?_; simp)
  | (refine V_scond ?_; simp)
  | (refine V_sregion ?_; simp)
  | (refine V_ret ?_; simp only [RunK])
  | (refine V_skip ?_; simp only [RunK])
  | (refine ⟨fun hc => ?_, fun hc => ?_⟩ <;> (try (exfalso; omega)))
  | fail)
   ·(refine EndOK.val (.inr rfl) ?_; simp [resD, oneOrTup, pureD, Tryd.results111])
    simp_all
   ·(refine EndOK.val (.inr rfl) ?_; simp [resD, oneOrTup, pureD, Tryd.results111])
    simp_all
   ·refine LoopW.next ⟨1, by omega, by omega, by omega⟩ (by simp) ?_
    exact (Wk.cut rfl (by simp [hn, St.lp]) (by simp [wkO, St.lp, getK_cons, getK, Ob.under, D.under, under_rowsD, under_entD]) (by simp [wkU, St.lp, keepE, getK_cons, getK, D.under]) (by simp [wkE, St.lp, keepE, getK_cons, getK] <;> (try (intros; simp_all; done)) <;> (try (intros; omega)) <;> (try grind)))
  ·repeat' (first
  | (refine H_cons ?_; simp)
  | (refine H_nil ?_; simp)
  | (refine V_sseq ?_; simp)
  | (refine V_scond ?_; simp)
  | (refine V_sregion ?_; simp)
  | (refine V_ret ?_; simp only [RunK])
  | (refine V_skip ?_; simp only [RunK])
  | (refine ⟨fun hc => ?_, fun hc => ?_⟩ <;> (try (exfalso; omega)))
  | fail)
   ·(refine EndOK.val (.inr rfl) ?_; simp [resD, oneOrTup, pureD, Tryd.results111])
    simp_all
   ·(refine EndOK.val (.inr rfl) ?_; simp [resD, oneOrTup, pureD, Tryd.results111])
    simp_all
   ·refine LoopW.next ⟨2, by omega, by omega, by omega⟩ (by simp) ?_
    exact (Wk.cut rfl (by simp [hn, St.lp]) (by simp [wkO, St.lp, getK_cons, getK, Ob.under, D.under, under_rowsD, under_entD]) (by simp [wkU, St.lp, keepE, getK_cons, getK, D.under]) (by simp [wkE, St.lp, keepE, getK_cons, getK] <;> (try (intros; simp_all; done)) <;> (try (intros; omega)) <;> (try grind)))
  ·repeat' (first
  | (refine H_cons ?_; simp)
  | (refine H_nil ?_; simp)
  | (refine V_sseq ?_; simp)
  | (refine V_ret ?_; simp only [RunK])
  | (refine V_exit ?_; simp [RunK])
  | fail)
   (refine EndOK.val (.inr rfl) ?_; simp [resD, oneOrTup, pureD, Tryd.results111])
   simp_all
def l0 (l : List Int) (i : Nat) : Int := l.getD i 0
def combS (op : Int) (l : List Int) : Int × Bool :=
 if op = 2 ∨ op = 3 ∨ op = 6 ∨ op = 7 then (l0 l 0, onlyB (l0 l 0) l && decide (l0 l 0 ≠ 0))
 else if op = 4 then prodS (l0 l 0) (l0 l 1)
 else if op = 5 then (if l0 l 1 = 1 then (l0 l 0, decide (l0 l 0 ≠ 0) && decide (l0 l 0 ≠ 4)) else (1, onlyB (l0 l 0) l && (decide (l0 l 0 = 3) || decide (l0 l 0 = 2))))
 else if op = 8 then (0, onlyB (l0 l 0) l && decide (l0 l 0 ≠ 0))
 else if op = 9 then (0, onlyB (l0 l 0) l)
 else if op = 13 then (l0 l 1, decide (l0 l 0 = 0) && decide (l0 l 1 = l0 l 2))
 else (0, onlyB 0 l)
theorem len1 {l : List Int} (h : (l.length : Int) = 1) : ∃ a, l = [a] := List.length_eq_one_iff.1 (by omega)
theorem len2 {l : List Int} (h : (l.length : Int) = 2) : ∃ a b, l = [a, b] := by
 match l, h with
 | [], h => simp at h
 | [a], h => simp at h
 | [a, b], _ => exact ⟨a, b, rfl⟩
 | a :: b :: c :: l, h => simp at h; omega
theorem len3 {l : List Int} (h : (l.length : Int) = 3) : ∃ a b c, l = [a, b, c] := by
 match l, h with
 | [], h => simp at h
 | [a], h => simp at h
 | [a, b], h => simp at h
 | [a, b, c], _ => exact ⟨a, b, c, rfl⟩
 | a :: b :: c :: d :: l, h => simp at h; omega
theorem comb_fun (op : Int) (l : List Int) (hop : 2 ≤ op ∧ op < 14) (hl : (l.length : Int) = operandsI op) : Fun Tryd.prog 92 [.u (.int .i64 op), .u (ints l)] (· = .tup [.u (.int .i64 (combS op l).1), .u (.bool (combS op l).2)]) := by
 have h12 : op = 12 ∨ op = 13 ∨ op = 2 ∨ op = 3 ∨ op = 4 ∨ op = 5 ∨ op = 6 ∨ op = 7 ∨ op = 8 ∨ op = 9 ∨ op = 10 ∨ op = 11 := by omega
 rcases h12 with rfl | rfl | h12
 ·obtain ⟨a, rfl⟩ := len1 (hl.trans rfl)
  have h1 := comb1_fun 0 [a]
  simp only [combS, l0]
  generalize onlyB 0 [a] = o1 at h1 ⊢
  (refine Fun.of_body Tryd.func92 rfl (by simp) fun Γ hn => ?_); simp only [entry, List.zipIdx_cons, List.zipIdx_nil, List.map_cons, List.map_nil, Nat.zero_add, Tryd.ntmps92]
  simp only [ints, List.map_cons, List.map_nil] at h1 ⊢
  repeat' (first
  | (refine H_cons ?_; simp)
  | (refine H_nil ?_; simp)
  | (refine V_sseq ?_; simp)
  | (refine V_scond ?_; simp)
  | (refine V_sblock ?_; simp)
  | (refine V_sregion ?_; simp)
  | (refine V_ret ?_; simp only [RunK])
  | (refine V_skip ?_; simp only [RunK])
  | (refine CallP.fun_ (h1) (by first | rfl | fail) (by first | assumption | (simp; done) | fail) (by first | (simp; done) | (simp; rfl) | fail) (by first | (simp; done) | fail) (fun d hd => ?_); subst hd; (try simp))
  | fail)
  all_goals
   (refine EndOK.val (.inr rfl) ?_; simp [resD, oneOrTup, pureD, Tryd.results92])
 ·obtain ⟨a, b, c, rfl⟩ := len3 (hl.trans rfl)
  simp only [combS, l0]
  (refine Fun.of_body Tryd.func92 rfl (by simp) fun Γ hn => ?_); simp only [entry, List.zipIdx_cons, List.zipIdx_nil, List.map_cons, List.map_nil, Nat.zero_add, Tryd.ntmps92]
  simp only [ints, List.map_cons, List.map_nil]
  repeat' (first
  | (refine H_cons ?_; simp)
  | (refine HD_cons ?_; simp)
  | (refine H_nil ?_; simp)
  | (refine V_sseq ?_; simp)
  | (refine V_scond ?_; simp)
  | (refine HD_nil ?_)
  | (refine hk _ ?_; clear hk k; simp only [RunK])
  | (refine V_drawV rfl (by kernel_rfl) (by kernel_rfl) fun k hk => ?_; simp)
  | (refine HD_guard rfl (by simp) (fun hc => ?_) (fun hc => ?_) <;> (try simp at hc) <;> (try (exfalso; omega)) <;> (try simp))
  | (refine V_sblock ?_; simp)
  | (refine V_sregion ?_; simp)
  | (refine V_ret ?_; simp only [RunK])
  | fail)
  all_goals
   (refine EndOK.val (.inr rfl) ?_; simp [resD, oneOrTup, pureD, Tryd.results92])
  all_goals (simp_all; done)
 ·obtain ⟨a, b, rfl⟩ := len2 (l := l) (by rw [hl]; rcases h12 with rfl | rfl | rfl | rfl | rfl | rfl | rfl | rfl | rfl | rfl <;> rfl)
  clear hl hop
  have h1 := comb1_fun a [a, b]
  have h2 := comb1_fun 0 [a, b]
  have h3 := prod_fun a b
  have e0 : l0 [a, b] 0 = a := rfl
  have e1 : l0 [a, b] 1 = b := rfl
  unfold combS
  rw [e0, e1]
  clear e0 e1
  generalize onlyB a [a, b] = o1 at h1 ⊢
  generalize onlyB 0 [a, b] = o2 at h2 ⊢
  generalize prodS a b = p at h3 ⊢
  simp only [ints, List.map_cons, List.map_nil] at h1 h2 ⊢
  rcases h12 with rfl | rfl | rfl | rfl | rfl | rfl | rfl | rfl | rfl | rfl
  all_goals
   (refine Fun.of_body Tryd.func92 rfl (by simp) fun Γ hn => ?_); simp only [entry, List.zipIdx_cons, List.zipIdx_nil, List.map_cons, List.map_nil, Nat.zero_add, Tryd.ntmps92]
   repeat' (first
  | (refine H_cons ?_; simp)
  | (refine HD_cons ?_; simp)
  | (refine H_nil ?_; simp)
  | (refine V_sseq ?_; simp)
  | (refine V_scond ?_; simp)
  | (refine HD_nil ?_)
  | (refine hk _ ?_; clear hk k; simp only [RunK])
  | (refine V_drawV rfl (by kernel_rfl) (by kernel_rfl) fun k hk => ?_; simp)
  | (refine HD_guardU rfl (by simp) ?_; simp)
  | (refine HD_guard rfl (by simp) (fun hc => ?_) (fun hc => ?_) <;> (try simp at hc) <;> (try (exfalso; omega)) <;> (try simp))
  | (refine V_sblock ?_; simp)
  | (refine V_sregion ?_; simp)
  | (refine V_ret ?_; simp only [RunK])
  | (refine V_skip ?_; simp only [RunK])
  | (refine ⟨fun hc => ?_, fun hc => ?_⟩ <;> (try (exfalso; omega)))
  | (refine CallV.fun_ (h1) (by first | rfl | fail) (by first | assumption | (simp; done) | fail) (by first | (simp; done) | (simp; rfl) | fail) (by first | (simp; done) | fail) ?_ <;> (try simp))
  | (refine CallP.fun_ (h1) (by first | rfl | fail) (by first | assumption | (simp; done) | fail) (by first | (simp; done) | (simp; rfl) | fail) (by first | (simp; done) | fail) (fun d hd => ?_); subst hd; (try simp))
  | (refine CallP.fun_ (h2) (by first | rfl | fail) (by first | assumption | (simp; done) | fail) (by first | (simp; done) | (simp; rfl) | fail) (by first | (simp; done) | fail) (fun d hd => ?_); subst hd; (try simp))
  | (refine CallV.fun_ (h3) (by first | rfl | fail) (by first | assumption | (simp; done) | fail) (by first | (simp; done) | (simp; rfl) | fail) (by first | (simp; done) | fail) ?_ <;> (try simp))
  | fail)
   all_goals
    (refine EndOK.val (.inr rfl) ?_; simp [resD, oneOrTup, pureD, Tryd.results92])
   all_goals (clear h1 h2 h3; first | (simp_all; done) | (grind) | skip)
def asc {β : Type} : List (List UInt8 × β) → List UInt8 → Option β
 | [], _ => none
 | (k, b) :: l, x => if x = k then some b else asc l x
def ascPut {β : Type} : List (List UInt8 × β) → List UInt8 → β → List (List UInt8 × β)
 | [], x, b => [(x, b)]
 | (k, c) :: l, x, b => if x = k then (k, b) :: l else (k, c) :: ascPut l x b
theorem lookK_asc {β : Type} (f : β → List U) (x : List UInt8) : ∀ (l : List (List UInt8 × β)), lookK (l.map fun p => (Key.s p.1, f p.2)) (.s x) = (asc l x).map f
 | [] => rfl
 | (k, b) :: l => by
  simp only [List.map_cons, lookK, asc, Key.s.injEq]
  split
  ·rfl
  ·exact lookK_asc f x l
theorem updK_asc {β : Type} (f : β → List U) (x : List UInt8) (b : β) : ∀ (l : List (List UInt8 × β)), updK (l.map fun p => (Key.s p.1, f p.2)) (.s x) (f b) = (ascPut l x b).map fun p => (Key.s p.1, f p.2)
 | [] => rfl
 | (k, c) :: l => by
  simp only [List.map_cons, updK, ascPut, Key.s.injEq]
  split
  ·rfl
  ·simp only [List.map_cons]; rw [updK_asc f x b l]
theorem asc_put {β : Type} (x y : List UInt8) (b : β) : ∀ (l : List (List UInt8 × β)), asc (ascPut l x b) y = if y = x then some b else asc l y
 | [] => by simp [ascPut, asc]
 | (k, c) :: l => by
  simp only [ascPut]
  split
  ·rename_i h
   subst h
   simp only [asc]
   split <;> rfl
  ·rename_i h
   simp only [asc, asc_put x y b l]
   by_cases h1 : y = k
   ·subst h1; simp [Ne.symm h]
   ·simp [h1]
mutual
/-- The unit of an expression, or an error. -/
def unitS (g : List UInt8 → Option Int) (m : List UInt8 → Option (Int × Int)) : Exp → Int × Int
 | .mk op _ u s args =>
  if op = 0 then (u, 0)
  else if op = 1 then (match g s with | some u => (u, 0) | none => match m s with | some r => r | none => (0, 13))
  else match unitsS g m args with
   | .error b => (0, b)
   | .ok l => if (combS op l).2 = true then ((combS op l).1, 0) else (0, 14)
def unitsS (g : List UInt8 → Option Int) (m : List UInt8 → Option (Int × Int)) : List Exp → Except Int (List Int)
 | [] => .ok []
 | e :: r => if (unitS g m e).2 ≠ 0 then .error (unitS g m e).2 else match unitsS g m r with
  | .error b => .error b
  | .ok l => .ok ((unitS g m e).1 :: l)
end
theorem unitS_eq (g m) (e : Exp) : unitS g m e = if e.op = 0 then (e.unit, 0)
  else if e.op = 1 then (match g e.s with | some u => (u, 0) | none => match m e.s with | some r => r | none => (0, 13))
  else match unitsS g m e.args with
   | .error b => (0, b)
   | .ok l => if (combS e.op l).2 = true then ((combS e.op l).1, 0) else (0, 14) := by
 cases e with | mk op n u s args => rw [unitS]; rfl
theorem unitsS_ok {g m} : ∀ {l : List Exp}, (∀ x ∈ l, (unitS g m x).2 = 0) → unitsS g m l = .ok (l.map fun x => (unitS g m x).1)
 | [], _ => by rw [unitsS]; rfl
 | e :: r, h => by
  rw [unitsS, if_neg (by simp [h e (by simp)]), unitsS_ok fun x hx => h x (by simp [hx])]
  rfl
theorem unitsS_err {g m} : ∀ {l : List Exp} {i : Nat} {e : Exp}, l[i]? = some e → (∀ x ∈ l.take i, (unitS g m x).2 = 0) → (unitS g m e).2 ≠ 0 → unitsS g m l = .error (unitS g m e).2
 | [], i, e, h, _, _ => by simp at h
 | a :: r, 0, e, h, _, h2 => by
  simp at h
  subst h
  rw [unitsS, if_pos h2]
 | a :: r, i + 1, e, h, h1, h2 => by
  rw [unitsS, if_neg (by simp [h1 a (by simp)]), unitsS_err (l := r) (i := i) (by simpa using h) (fun x hx => h1 x (by simp [hx])) h2]
mutual
/-- Whether an expression is a share. -/
def shareS (m : List UInt8 → Bool) : Exp → Bool
 | .mk op _ u s args =>
  if op = 0 then decide (u = 4)
  else if op = 1 then m s
  else if op = 2 ∨ op = 3 ∨ op = 6 ∨ op = 7 then shareN m args 0
  else if op = 4 then shareN m args 0 && shareN m args 1
  else if op = 13 then shareN m args 1
  else false
def shareN (m : List UInt8 → Bool) : List Exp → Nat → Bool
 | [], _ => false
 | e :: _, 0 => shareS m e
 | _ :: r, n + 1 => shareN m r n
end
theorem shareS_eq (m) (e : Exp) : shareS m e = if e.op = 0 then decide (e.unit = 4)
  else if e.op = 1 then m e.s
  else if e.op = 2 ∨ e.op = 3 ∨ e.op = 6 ∨ e.op = 7 then shareN m e.args 0
  else if e.op = 4 then shareN m e.args 0 && shareN m e.args 1
  else if e.op = 13 then shareN m e.args 1
  else false := by
 cases e with | mk op n u s args => rw [shareS]; rfl
/-- What is known of a let: its unit, its error, whether it is a share. -/
abbrev LM := List (List UInt8 × Int × Int × Bool)
abbrev GM := List (List UInt8 × Int)
def gmap (g : GM) : List (Key × List U) := g.map fun p => (Key.s p.1, [U.int .i64 p.2])
def lmap (m : LM) : List (Key × List U) := m.map fun p => (Key.s p.1, [U.int .i64 p.2.1, .int .i64 p.2.2.1, .bool p.2.2.2])
theorem look_g (g : GM) (x : List UInt8) : lookK (gmap g) (.s x) = (asc g x).map fun u => [U.int .i64 u] := lookK_asc (fun u : Int => [U.int .i64 u]) x g
theorem look_m (g : LM) (x : List UInt8) : lookK (lmap g) (.s x) = (asc g x).map fun q => [U.int .i64 q.1, .int .i64 q.2.1, .bool q.2.2] := lookK_asc (fun q : Int × Int × Bool => [U.int .i64 q.1, .int .i64 q.2.1, .bool q.2.2]) x g
def jU (g : GM) (m : LM) : U := .row [.map .s false (gmap g), .map .s true (lmap m)] 0
def gF (g : GM) : List UInt8 → Option Int := asc g
def mF (m : LM) : List UInt8 → Option (Int × Int) := fun x => (asc m x).map fun q => (q.1, q.2.1)
def sF (m : LM) : List UInt8 → Bool := fun x => ((asc m x).map fun q => q.2.2).getD false
theorem right_args {d : Nat} {e : Exp} (h : rightB (d + 1) e = true) : (e.args.length : Int) = operandsI e.op ∧ 0 ≤ e.op ∧ e.op < 14 ∧ (e.op ≠ 0 → e.op ≠ 1 → ∀ x ∈ e.args, rightB d x = true) := by
 rw [rightB, Bool.and_eq_true, decide_eq_true_eq] at h
 obtain ⟨h1, h2⟩ := h
 have h3 : 0 ≤ e.op ∧ e.op < 14 := by
  unfold operandsI at h1
  split at h1
  ·omega
  ·split at h1
   ·omega
   ·split at h1
    ·omega
    ·split at h1
     ·omega
     ·omega
 refine ⟨h1, h3.1, h3.2, fun ha hb x hx => ?_⟩
 rw [if_neg ha] at h2
 split at h2
 ·cases h2
 ·simp only [if_neg hb, Bool.and_eq_true, Bool.not_eq_true', List.any_eq_false, Bool.not_eq_true] at h2
  have := h2.2 x hx
  simpa using this
theorem unit_fun (g : GM) (m : LM) : ∀ (d : Nat) (e : Exp), rightB d e = true → Fun Tryd.prog 65 [.u (jU g m), eagg e] (· = .tup [.u (.int .i64 (unitS (gF g) (mF m) e).1), .u (.int .i64 (unitS (gF g) (mF m) e).2)])
 | 0, e, h => by simp [rightB] at h
 | d + 1, e, h => by
  obtain ⟨h1, h2, h3, h4⟩ := right_args h
  have hg := look_g g e.s
  have hm := look_m m e.s
  by_cases h0 : e.op = 0
  ·rw [unitS_eq, if_pos h0]
   (refine Fun.of_body Tryd.func65 rfl (by simp) fun Γ hn => ?_); simp only [entry, List.zipIdx_cons, List.zipIdx_nil, List.map_cons, List.map_nil, Nat.zero_add, Tryd.ntmps65]
   simp only [eagg, jU]
   repeat' (first
  | (refine H_cons ?_; simp [h0])
  | (refine H_nil ?_; simp [h0])
  | (refine V_sseq ?_; simp [h0])
  | (refine V_scond ?_; simp [h0])
  | (refine V_sblock ?_; simp [h0])
  | (refine V_ret ?_; simp only [RunK])
  | fail)
   (refine EndOK.val (.inr rfl) ?_; simp [resD, oneOrTup, pureD, Tryd.results65])
  by_cases hnm : e.op = 1
  ·rw [unitS_eq, if_neg h0, if_pos hnm]
   (refine Fun.of_body Tryd.func65 rfl (by simp) fun Γ hn => ?_); simp only [entry, List.zipIdx_cons, List.zipIdx_nil, List.map_cons, List.map_nil, Nat.zero_add, Tryd.ntmps65]
   simp only [eagg, jU]
   cases hga : asc g e.s with
   | some u =>
    rw [hga] at hg
    simp only [Option.map_some] at hg
    repeat' (first
  | (refine H_cons ?_; simp [h0, hnm, hg])
  | (refine HD_cons ?_; simp [h0, hnm, hg])
  | (refine H_nil ?_; simp [h0, hnm, hg])
  | (refine V_sseq ?_; simp [h0, hnm, hg])
  | (refine V_scond ?_; simp [h0, hnm, hg])
  | (refine HD_nil ?_)
  | (refine hk _ ?_; clear hk k; simp only [RunK])
  | (refine V_drawV rfl (by kernel_rfl) (by kernel_rfl) fun k hk => ?_; simp [h0, hnm, hg])
  | (refine V_sblock ?_; simp [h0, hnm, hg])
  | (refine V_ret ?_; simp only [RunK])
  | fail)
    (refine EndOK.val (.inr rfl) ?_; simp [resD, oneOrTup, pureD, Tryd.results65])
    simp [gF, hga]
   | none =>
    rw [hga] at hg
    simp only [Option.map_none] at hg
    cases hma : asc m e.s with
    | some q =>
     rw [hma] at hm
     simp only [Option.map_some] at hm
     repeat' (first
  | (refine H_cons ?_; simp [h0, hnm, hg, hm])
  | (refine HD2_val rfl ?_; simp [h0, hnm, hg, hm])
  | (refine HD_cons ?_; simp [h0, hnm, hg, hm])
  | (refine HD2_chg rfl ?_; simp [h0, hnm, hg, hm])
  | (refine H_nil ?_; simp [h0, hnm, hg, hm])
  | (refine V_sseq ?_; simp [h0, hnm, hg, hm])
  | (refine V_scond ?_; simp [h0, hnm, hg, hm])
  | (refine HD2_nil (hC _ (by kernel_rfl)) (hk _ ?_); clear hC hk C k; simp only [RunK])
  | (refine HD_nil ?_)
  | (refine hk _ ?_; clear hk k; simp only [RunK])
  | (refine V_drawV rfl (by kernel_rfl) (by kernel_rfl) fun k hk => ?_; simp [h0, hnm, hg, hm])
  | (refine V_drawE rfl (by kernel_rfl) (by kernel_rfl) (by simp [hn]) fun C k hC hk => ?_; simp [h0, hnm, hg, hm])
  | (refine V_sblock ?_; simp [h0, hnm, hg, hm])
  | (refine V_ret ?_; simp only [RunK])
  | (refine V_skip ?_; simp only [RunK])
  | fail)
     (refine EndOK.val (.inr rfl) ?_; simp [resD, oneOrTup, pureD, Tryd.results65])
     simp [gF, hga, mF, hma]
    | none =>
     rw [hma] at hm
     simp only [Option.map_none] at hm
     repeat' (first
  | (refine H_cons ?_; simp [h0, hnm, hg, hm])
  | (refine HD2_val rfl ?_; simp [h0, hnm, hg, hm])
  | (refine HD_cons ?_; simp [h0, hnm, hg, hm])
  | (refine HD2_chg rfl ?_; simp [h0, hnm, hg, hm])
  | (refine H_nil ?_; simp [h0, hnm, hg, hm])
  | (refine V_sseq ?_; simp [h0, hnm, hg, hm])
  | (refine V_scond ?_; simp [h0, hnm, hg, hm])
  | (refine HD2_nil (hC _ (by kernel_rfl)) (hk _ ?_); clear hC hk C k; simp only [RunK])
  | (refine HD_nil ?_)
  | (refine hk _ ?_; clear hk k; simp only [RunK])
  | (refine V_drawV rfl (by kernel_rfl) (by kernel_rfl) fun k hk => ?_; simp [h0, hnm, hg, hm])
  | (refine V_drawE rfl (by kernel_rfl) (by kernel_rfl) (by simp [hn]) fun C k hC hk => ?_; simp [h0, hnm, hg, hm])
  | (refine V_sblock ?_; simp [h0, hnm, hg, hm])
  | (refine V_ret ?_; simp only [RunK])
  | (refine V_skip ?_; simp only [RunK])
  | fail)
     (refine EndOK.val (.inr rfl) ?_; simp [resD, oneOrTup, pureD, Tryd.results65])
     simp [gF, hga, mF, hma]
  rw [unitS_eq, if_neg h0, if_neg hnm]
  (refine Fun.of_body Tryd.func65 rfl (by simp) fun Γ hn => ?_); simp only [entry, List.zipIdx_cons, List.zipIdx_nil, List.map_cons, List.map_nil, Nat.zero_add, Tryd.ntmps65]
  simp only [eagg, jU]
  have hr := h4 h0 hnm
  repeat' (first
  | (refine H_cons ?_; simp [h0, hnm])
  | (refine H_nil ?_; simp [h0, hnm])
  | (refine V_sseq ?_; simp [h0, hnm])
  | (refine V_scond ?_; simp [h0, hnm])
  | (refine V_sblock ?_; simp [h0, hnm])
  | (refine V_skip ?_; simp only [RunK])
  | fail)
  refine V_wk _ (Wk.own 10 3 1 (by decide) rfl) ?_
  simp [St.own]
  refine V_loopO (α := { p : Nat × List Int // p.1 ≤ e.args.length ∧ p.2 = (e.args.take p.1).map (fun x => (unitS (gF g) (mF m) x).1) ∧ ∀ x ∈ e.args.take p.1, (unitS (gF g) (mF m) x).2 = 0 }) [0, 3, 53, 54]
   (fun p => [(10, .vec 1 p.1.2.length), (55, .u (.int .i64 p.1.1))]) (fun p => [(1, .vec 3 1 (rowsD (p.1.2.map fun n => [U.int .i64 n]))), (0, .box [.u (.int .i64 e.op), .u (.int .i64 e.n), .u (.int .i64 e.unit), .u (.str e.s), .u (.sl (e.args.map Exp.row))])]) 2
   (fun p => e.args.length - p.1.1) ⟨(0, []), by simp, by simp, by simp⟩ ?_ ?_
  ·exact (Wk.cut rfl (by simp [hn, St.lp]) (by simp [wkO, St.lp, getK_cons, getK, Ob.under, D.under, under_rowsD, under_entD]) (by simp [wkU, St.lp, keepE, getK_cons, getK, D.under]) (by simp [wkE, St.lp, keepE, getK_cons, getK] <;> (try (intros; simp_all; done)) <;> (try (intros; omega)) <;> (try grind)))
  rintro ⟨⟨i, acc⟩, hi, hacc, hb⟩
  simp only at hi hacc hb
  simp [St.lp, St.only, keepE, getK_cons, getK]
  rcases hx : e.args[i]? with _ | x
  ·have hge : e.args.length ≤ i := by simpa using hx
   rw [List.take_of_length_le hge] at hacc hb
   have hok := unitsS_ok hb
   rw [← hacc] at hok
   have hal : (acc.length : Int) = operandsI e.op := by rw [hacc]; simpa using h1
   have h5 := comb_fun e.op acc (by omega) hal
   simp only [ints] at h5
   generalize hcb : combS e.op acc = cb at h5
   obtain ⟨c1, c2⟩ := cb
   repeat' (first
  | (refine H_cons ?_; simp [hx, h0, hnm])
  | (refine H_nil ?_; simp [hx, h0, hnm])
  | (refine ⟨by omega, ?_⟩)
  | (refine V_sseq ?_; simp [hx, h0, hnm])
  | (refine V_scond ?_; simp [hx, h0, hnm])
  | (refine V_ret ?_; simp only [RunK])
  | (refine V_skip ?_; simp only [RunK])
  | (refine V_exit ?_; simp [RunK])
  | (refine ⟨fun hc => ?_, fun hc => ?_⟩ <;> (try (exfalso; omega)))
  | (intro hc <;> (try (exfalso; omega)))
  | (refine CallP.fun_ (h5) (by first | rfl | fail) (by first | assumption | (simp; done) | fail) (by first | (simp [hx, h0, hnm]; done) | (simp [hx, h0, hnm]; rfl) | fail) (by first | (simp; done) | fail) (fun d hd => ?_); subst hd; (try simp [hx, h0, hnm]))
  | fail)
   all_goals
    (refine EndOK.val (.inr rfl) ?_; simp [resD, oneOrTup, pureD, Tryd.results65])
   all_goals (rw [hok]; simp_all; done)
  ·have hlt : i < e.args.length := (List.getElem?_eq_some_iff.1 hx).1
   have h5 := unit_fun g m d x (hr x (List.mem_of_getElem? hx))
   simp only [eagg, jU] at h5
   have hal : acc.length = i := by rw [hacc]; simp; omega
   have h3a : e.args.length ≤ 3 := by
    have : operandsI e.op ≤ 3 := by unfold operandsI; repeat' split
                                    all_goals omega
    omega
   have her := fun h => unitsS_err (g := gF g) (m := mF m) hx hb h
   generalize hun : unitS (gF g) (mF m) x = un at h5 her
   obtain ⟨u, er⟩ := un
   repeat' (first
  | (refine H_cons ?_; simp [hx, x.row_eq, h0, hnm])
  | (refine H_nil ?_; simp [hx, x.row_eq, h0, hnm])
  | (refine ⟨by omega, ?_⟩)
  | (refine V_sseq ?_; simp [hx, x.row_eq, h0, hnm])
  | (refine V_scond ?_; simp [hx, x.row_eq, h0, hnm])
  | (refine V_sregion ?_; simp [hx, x.row_eq, h0, hnm])
  | (refine V_ret ?_; simp only [RunK])
  | (refine V_skip ?_; simp only [RunK])
  | (refine ⟨?_, by omega⟩)
  | (refine ⟨fun hc => ?_, fun hc => ?_⟩ <;> (try (exfalso; omega)))
  | (intro hc <;> (try (exfalso; omega)))
  | (refine CallP.fun_ (h5) (by first | rfl | fail) (by first | assumption | (simp; done) | fail) (by first | (simp [hx, x.row_eq, h0, hnm]; done) | (simp [hx, x.row_eq, h0, hnm]; rfl) | fail) (by first | (simp; done) | fail) (fun d hd => ?_); subst hd; (try simp [hx, x.row_eq, h0, hnm]))
  | fail)
   ·(refine EndOK.val (.inr rfl) ?_; simp [resD, oneOrTup, pureD, Tryd.results65])
    rw [her (by simpa using (by assumption : ¬ er = 0))]
    simp
   ·skip
    refine LoopW.next ⟨(i + 1, acc ++ [u]), (by omega : i + 1 ≤ e.args.length), (?_ : acc ++ [u] = _), ?_⟩ (by simp; omega) ?_
    ·rw [List.take_succ_eq_append_getElem hlt, List.map_append, ← hacc, (List.getElem?_eq_some_iff.1 hx).2]
     simp [hun]
    ·exact take_succ_all hx hb (by simp_all)
    ·exact (Wk.ren ((fun i => if i = 1 then 4 else i)) rfl (by first | (simp [hn]; done) | (intro i hi; rw [hn] at hi; constructor <;> (try simp) <;> (try (intro _)) <;> omega)) (by simp [wkER, St.lp, keepE, getK_cons, getK, getK_del, getK_setOb, D.under, D.le, D.ren] <;> (try (intros; simp_all; done)) <;> (try omega)) (by simp [wkR, St.lp, getK_cons, getK, getK_del, getK_setOb, obR, leU, pureRow, pureRows, Ob.under, D.under, D.le, D.ren] <;> (try (intros; simp_all; done)) <;> (try omega)) (by simp))
theorem share_fun (g : GM) (m : LM) : ∀ (d : Nat) (e : Exp), rightB d e = true → Fun Tryd.prog 91 [.u (jU g m), eagg e] (· = .u (.bool (shareS (sF m) e)))
 | 0, e, h => by simp [rightB] at h
 | d + 1, e, h => by
  obtain ⟨h1, h2, h3, h4⟩ := right_args h
  rw [shareS_eq]
  have hm := look_m m e.s
  by_cases h0 : e.op = 0
  ·rw [if_pos h0]
   (refine Fun.of_body Tryd.func91 rfl (by simp) fun Γ hn => ?_); simp only [entry, List.zipIdx_cons, List.zipIdx_nil, List.map_cons, List.map_nil, Nat.zero_add, Tryd.ntmps91]
   simp only [eagg, jU]
   repeat' (first
  | (refine H_cons ?_; simp [h0])
  | (refine H_nil ?_; simp [h0])
  | (refine V_sseq ?_; simp [h0])
  | (refine V_scond ?_; simp [h0])
  | (refine V_sblock ?_; simp [h0])
  | (refine V_ret ?_; simp only [RunK])
  | fail)
   (refine EndOK.val (.inr rfl) ?_; simp [resD, oneOrTup, pureD, Tryd.results91])
  rw [if_neg h0]
  by_cases hnm : e.op = 1
  ·rw [if_pos hnm]
   cases hma : asc m e.s with
   | some q =>
    rw [hma] at hm
    simp only [Option.map_some] at hm
    (refine Fun.of_body Tryd.func91 rfl (by simp) fun Γ hn => ?_); simp only [entry, List.zipIdx_cons, List.zipIdx_nil, List.map_cons, List.map_nil, Nat.zero_add, Tryd.ntmps91]
    simp only [eagg, jU]
    repeat' (first
  | (refine H_cons ?_; simp [h0, hnm, hm])
  | (refine HD_cons ?_; simp [h0, hnm, hm])
  | (refine H_nil ?_; simp [h0, hnm, hm])
  | (refine V_sseq ?_; simp [h0, hnm, hm])
  | (refine V_scond ?_; simp [h0, hnm, hm])
  | (refine HD_nil ?_)
  | (refine hk _ ?_; clear hk k; simp only [RunK])
  | (refine V_drawV rfl (by kernel_rfl) (by kernel_rfl) fun k hk => ?_; simp [h0, hnm, hm])
  | (refine V_sblock ?_; simp [h0, hnm, hm])
  | (refine V_ret ?_; simp only [RunK])
  | fail)
    (refine EndOK.val (.inr rfl) ?_; simp [resD, oneOrTup, pureD, Tryd.results91])
    simp [sF, hma]
   | none =>
    rw [hma] at hm
    simp only [Option.map_none] at hm
    (refine Fun.of_body Tryd.func91 rfl (by simp) fun Γ hn => ?_); simp only [entry, List.zipIdx_cons, List.zipIdx_nil, List.map_cons, List.map_nil, Nat.zero_add, Tryd.ntmps91]
    simp only [eagg, jU]
    repeat' (first
  | (refine H_cons ?_; simp [h0, hnm, hm])
  | (refine HD_cons ?_; simp [h0, hnm, hm])
  | (refine H_nil ?_; simp [h0, hnm, hm])
  | (refine V_sseq ?_; simp [h0, hnm, hm])
  | (refine V_scond ?_; simp [h0, hnm, hm])
  | (refine HD_nil ?_)
  | (refine hk _ ?_; clear hk k; simp only [RunK])
  | (refine V_drawV rfl (by kernel_rfl) (by kernel_rfl) fun k hk => ?_; simp [h0, hnm, hm])
  | (refine V_sblock ?_; simp [h0, hnm, hm])
  | (refine V_ret ?_; simp only [RunK])
  | fail)
    (refine EndOK.val (.inr rfl) ?_; simp [resD, oneOrTup, pureD, Tryd.results91])
    simp [sF, hma]
  rw [if_neg hnm]
  have hr := h4 h0 hnm
  by_cases hA : e.op = 2 ∨ e.op = 3 ∨ e.op = 6 ∨ e.op = 7
  ·rw [if_pos hA]
   have hl : e.args.length = 2 := by
    rcases hA with ha | ha | ha | ha <;> rw [ha] at h1 <;> simp [operandsI] at h1 <;> omega
   obtain ⟨a, b, hab⟩ : ∃ a b, e.args = [a, b] := by
    match hq : e.args, hl with
    | [a, b], _ => exact ⟨a, b, rfl⟩
   have h5 := share_fun g m d a (hr a (by simp [hab]))
   simp only [eagg, jU] at h5
   rw [hab, shareN]
   rcases hA with ha | ha | ha | ha
   all_goals
    (refine Fun.of_body Tryd.func91 rfl (by simp) fun Γ hn => ?_); simp only [entry, List.zipIdx_cons, List.zipIdx_nil, List.map_cons, List.map_nil, Nat.zero_add, Tryd.ntmps91]
    simp only [eagg, jU]
    repeat' (first
  | (refine H_cons ?_; simp [ha, hab, a.row_eq, b.row_eq])
  | (refine H_nil ?_; simp [ha, hab, a.row_eq, b.row_eq])
  | (refine V_sseq ?_; simp [ha, hab, a.row_eq, b.row_eq])
  | (refine V_scond ?_; simp [ha, hab, a.row_eq, b.row_eq])
  | (refine V_sblock ?_; simp [ha, hab, a.row_eq, b.row_eq])
  | (refine V_sregion ?_; simp [ha, hab, a.row_eq, b.row_eq])
  | (refine V_ret ?_; simp only [RunK])
  | (refine V_skip ?_; simp only [RunK])
  | (refine CallP.fun_ (h5) (by first | rfl | fail) (by first | assumption | (simp; done) | fail) (by first | (simp [ha, hab, a.row_eq, b.row_eq]; done) | (simp [ha, hab, a.row_eq, b.row_eq]; rfl) | fail) (by first | (simp; done) | fail) (fun d hd => ?_); subst hd; (try simp [ha, hab, a.row_eq, b.row_eq]))
  | fail)
    (refine EndOK.val (.inr rfl) ?_; simp [resD, oneOrTup, pureD, Tryd.results91])
  rw [if_neg hA]
  by_cases hB : e.op = 4
  ·rw [if_pos hB]
   have hl : e.args.length = 2 := by rw [hB] at h1; simp [operandsI] at h1; omega
   obtain ⟨a, b, hab⟩ : ∃ a b, e.args = [a, b] := by
    match hq : e.args, hl with
    | [a, b], _ => exact ⟨a, b, rfl⟩
   have h5 := share_fun g m d a (hr a (by simp [hab]))
   have h6 := share_fun g m d b (hr b (by simp [hab]))
   simp only [eagg, jU] at h5 h6
   rw [hab, shareN, shareN, shareN]
   generalize shareS (sF m) a = x1 at h5 ⊢
   generalize shareS (sF m) b = x2 at h6 ⊢
   (refine Fun.of_body Tryd.func91 rfl (by simp) fun Γ hn => ?_); simp only [entry, List.zipIdx_cons, List.zipIdx_nil, List.map_cons, List.map_nil, Nat.zero_add, Tryd.ntmps91]
   simp only [eagg, jU]
   repeat' (first
  | (refine H_cons ?_; simp [hB, hab, a.row_eq, b.row_eq])
  | (refine H_nil ?_; simp [hB, hab, a.row_eq, b.row_eq])
  | (refine V_sseq ?_; simp [hB, hab, a.row_eq, b.row_eq])
  | (refine V_scond ?_; simp [hB, hab, a.row_eq, b.row_eq])
  | (refine V_sblock ?_; simp [hB, hab, a.row_eq, b.row_eq])
  | (refine V_sregion ?_; simp [hB, hab, a.row_eq, b.row_eq])
  | (refine V_ret ?_; simp only [RunK])
  | (refine ⟨fun hc => ?_, fun hc => ?_⟩ <;> (try (exfalso; omega)))
  | (refine CallP.fun_ (h5) (by first | rfl | fail) (by first | assumption | (simp; done) | fail) (by first | (simp [hB, hab, a.row_eq, b.row_eq]; done) | (simp [hB, hab, a.row_eq, b.row_eq]; rfl) | fail) (by first | (simp; done) | fail) (fun d hd => ?_); subst hd; (try simp [hB, hab, a.row_eq, b.row_eq]))
  | (refine CallP.fun_ (h6) (by first | rfl | fail) (by first | assumption | (simp; done) | fail) (by first | (simp [hB, hab, a.row_eq, b.row_eq]; done) | (simp [hB, hab, a.row_eq, b.row_eq]; rfl) | fail) (by first | (simp; done) | fail) (fun d hd => ?_); subst hd; (try simp [hB, hab, a.row_eq, b.row_eq]))
  | fail)
   all_goals
    (refine EndOK.val (.inr rfl) ?_; simp [resD, oneOrTup, pureD, Tryd.results91])
   all_goals (simp_all; done)
  rw [if_neg hB]
  by_cases hC : e.op = 13
  ·rw [if_pos hC]
   have hl : e.args.length = 3 := by rw [hC] at h1; simp [operandsI] at h1; omega
   obtain ⟨a, b, c, hab⟩ : ∃ a b c, e.args = [a, b, c] := by
    match hq : e.args, hl with
    | [a, b, c], _ => exact ⟨a, b, c, rfl⟩
   have h5 := share_fun g m d b (hr b (by simp [hab]))
   simp only [eagg, jU] at h5
   rw [hab, shareN, shareN]
   (refine Fun.of_body Tryd.func91 rfl (by simp) fun Γ hn => ?_); simp only [entry, List.zipIdx_cons, List.zipIdx_nil, List.map_cons, List.map_nil, Nat.zero_add, Tryd.ntmps91]
   simp only [eagg, jU]
   repeat' (first
  | (refine H_cons ?_; simp [hC, hab, a.row_eq, b.row_eq, c.row_eq])
  | (refine H_nil ?_; simp [hC, hab, a.row_eq, b.row_eq, c.row_eq])
  | (refine V_sseq ?_; simp [hC, hab, a.row_eq, b.row_eq, c.row_eq])
  | (refine V_scond ?_; simp [hC, hab, a.row_eq, b.row_eq, c.row_eq])
  | (refine V_sblock ?_; simp [hC, hab, a.row_eq, b.row_eq, c.row_eq])
  | (refine V_sregion ?_; simp [hC, hab, a.row_eq, b.row_eq, c.row_eq])
  | (refine V_ret ?_; simp only [RunK])
  | (refine CallP.fun_ (h5) (by first | rfl | fail) (by first | assumption | (simp; done) | fail) (by first | (simp [hC, hab, a.row_eq, b.row_eq, c.row_eq]; done) | (simp [hC, hab, a.row_eq, b.row_eq, c.row_eq]; rfl) | fail) (by first | (simp; done) | fail) (fun d hd => ?_); subst hd; (try simp [hC, hab, a.row_eq, b.row_eq, c.row_eq]))
  | fail)
   (refine EndOK.val (.inr rfl) ?_; simp [resD, oneOrTup, pureD, Tryd.results91])
  rw [if_neg hC]
  have hD : ¬ e.op = 2 ∧ ¬ e.op = 3 ∧ ¬ e.op = 6 ∧ ¬ e.op = 7 := by omega
  (refine Fun.of_body Tryd.func91 rfl (by simp) fun Γ hn => ?_); simp only [entry, List.zipIdx_cons, List.zipIdx_nil, List.map_cons, List.map_nil, Nat.zero_add, Tryd.ntmps91]
  simp only [eagg, jU]
  repeat' (first
  | (refine H_cons ?_; simp [h0, hnm, hB, hC, hD.1, hD.2.1, hD.2.2.1, hD.2.2.2])
  | (refine H_nil ?_; simp [h0, hnm, hB, hC, hD.1, hD.2.1, hD.2.2.1, hD.2.2.2])
  | (refine V_sseq ?_; simp [h0, hnm, hB, hC, hD.1, hD.2.1, hD.2.2.1, hD.2.2.2])
  | (refine V_scond ?_; simp [h0, hnm, hB, hC, hD.1, hD.2.1, hD.2.2.1, hD.2.2.2])
  | (refine V_sblock ?_; simp [h0, hnm, hB, hC, hD.1, hD.2.1, hD.2.2.1, hD.2.2.2])
  | (refine V_sregion ?_; simp [h0, hnm, hB, hC, hD.1, hD.2.1, hD.2.2.1, hD.2.2.2])
  | (refine V_ret ?_; simp only [RunK])
  | (refine V_skip ?_; simp only [RunK])
  | fail)
  (refine EndOK.val (.inr rfl) ?_; simp [resD, oneOrTup, pureD, Tryd.results91])
theorem nj1_fun (l : Let) : Fun Tryd.prog 90 (lagg l :: [].map .u) (· = .u (.bool (!rightB 12 l.body))) := by
 have h1 := rightExp_fun l.body
 simp only [lagg, List.map_nil, eagg] at h1 ⊢
 (refine Fun.of_body Tryd.func90 rfl (by simp) fun Γ hn => ?_); simp only [entry, List.zipIdx_cons, List.zipIdx_nil, List.map_cons, List.map_nil, Nat.zero_add, Tryd.ntmps90]
 repeat' (first
  | (refine H_cons ?_; simp)
  | (refine H_nil ?_; simp)
  | (refine V_sseq ?_; simp)
  | (refine V_ret ?_; simp only [RunK])
  | (refine CallP.fun_ (h1) (by first | rfl | fail) (by first | assumption | (simp; done) | fail) (by first | (simp; done) | (simp; rfl) | fail) (by first | (simp; done) | fail) (fun d hd => ?_); subst hd; (try simp))
  | fail)
 (refine EndOK.val (.inr rfl) ?_; simp [resD, oneOrTup, pureD, Tryd.results90])
def varsU (l : List Var) : U := .sl (l.map fun v => [.str v.name, .int .i64 v.unit, .int .i64 v.n])
/-- What the given names mean. -/
def gOf (names : List Var) : GM := names.foldl (fun g v => if asc g v.name = none then ascPut g v.name v.unit else g) []
/-- What the lets mean. -/
def mOf (g : GM) (lets : List Let) : LM := lets.foldl (fun m l => ascPut m l.name ((unitS (gF g) (mF m) l.body).1, (unitS (gF g) (mF m) l.body).2, shareS (sF m) l.body)) []
def unitOK (v : Var) : Bool := decide (0 ≤ v.unit) && decide (v.unit < 5)
def rightAll (lets : List Let) (e : Exp) : Bool := decide (lets.length ≤ 20) && rightB 12 e && !lets.any (fun l => !rightB 12 l.body)
def okJ (lets : List Let) (names : List Var) (e : Exp) : Bool := rightAll lets e && names.all unitOK
def judgeD (lets : List Let) (names : List Var) (e : Exp) : D := if okJ lets names e = true then .tup [.u (jU (gOf names) (mOf (gOf names) lets)), .u (.bool true)] else .tup [.u (.oth (.pointer none)), .u (.bool false)]
theorem upd_g (g : GM) (x : List UInt8) (u : Int) : updK (gmap g) (.s x) [U.int .i64 u] = gmap (ascPut g x u) := updK_asc (fun u : Int => [U.int .i64 u]) x u g
theorem upd_m (g : LM) (x : List UInt8) (u e : Int) (b : Bool) : updK (lmap g) (.s x) [U.int .i64 u, .int .i64 e, .bool b] = lmap (ascPut g x (u, e, b)) := updK_asc (fun q : Int × Int × Bool => [U.int .i64 q.1, .int .i64 q.2.1, .bool q.2.2]) x (u, e, b) g
theorem foldl_succ {α β : Type} (f : β → α → β) (b : β) {l : List α} {i : Nat} {x : α} (h : l[i]? = some x) : (l.take (i + 1)).foldl f b = f ((l.take i).foldl f b) x := by
 obtain ⟨hi, rfl⟩ := List.getElem?_eq_some_iff.1 h
 rw [List.take_succ_eq_append_getElem hi, List.foldl_append]
 rfl
theorem gOf_succ {names : List Var} {i : Nat} {v : Var} (h : names[i]? = some v) : gOf (names.take (i + 1)) = if asc (gOf (names.take i)) v.name = none then ascPut (gOf (names.take i)) v.name v.unit else gOf (names.take i) := foldl_succ _ _ h
theorem mOf_succ {g : GM} {lets : List Let} {i : Nat} {l : Let} (h : lets[i]? = some l) : mOf g (lets.take (i + 1)) = ascPut (mOf g (lets.take i)) l.name ((unitS (gF g) (mF (mOf g (lets.take i))) l.body).1, (unitS (gF g) (mF (mOf g (lets.take i))) l.body).2, shareS (sF (mOf g (lets.take i))) l.body) := foldl_succ _ _ h
theorem judge_fun (lets : List Let) (names : List Var) (e : Exp) : Fun Tryd.prog 64 [.u (letsU lets), .u (varsU names), eagg e] (· = judgeD lets names e) := by
 have h1 := rightExp_fun e
 have h2 := containsL_fun lets 90 [] _ (fun x _ => nj1_fun x) (by simp) (fun _ => rfl) (fun _ => rfl)
 simp only [List.map_nil, letsU, eagg] at h1 h2
 generalize hre : rightB 12 e = re at h1
 generalize hrl : (lets.any fun l => !rightB 12 l.body) = rl at h2
 have hok0 : okJ lets names e = (decide (lets.length ≤ 20) && re && !rl && names.all unitOK) := by rw [okJ, rightAll, hre, hrl]
 have hre' := hre
 have hrl' := hrl
 clear hre hrl
 unfold judgeD
 generalize okJ lets names e = K at hok0 ⊢
 (refine Fun.of_bodyW Tryd.func64 rfl (by simp) fun Γ hn => ?_); simp only [entry, List.zipIdx_cons, List.zipIdx_nil, List.map_cons, List.map_nil, Nat.zero_add, Tryd.ntmps64]
 simp only [eagg, letsU, varsU]
 refine V_len (x := 0) rfl fun hl0 => ?_
 refine V_len (x := 1) rfl fun hl1 => ?_
 simp only [List.length_map] at hl0 hl1
 repeat' (first
  | (refine H_cons ?_; simp)
  | (refine H_nil ?_; simp)
  | (refine V_sseq ?_; simp)
  | (refine V_scond ?_; simp)
  | (refine V_sblock ?_; simp)
  | (refine V_ret ?_; simp only [RunK])
  | (refine V_skip ?_; simp only [RunK])
  | (refine ⟨fun hc => ?_, fun hc => ?_⟩ <;> (try (exfalso; omega)))
  | (refine CallP.fun_ (h1) (by first | rfl | fail) (by first | assumption | (simp; done) | fail) (by first | (simp; done) | (simp; rfl) | fail) (by first | (simp; done) | fail) (fun d hd => ?_); subst hd; (try simp))
  | (refine CallP.fun_ (h2) (by first | rfl | fail) (by first | assumption | (simp; done) | fail) (by first | (simp; done) | (simp; rfl) | fail) (by first | (simp; done) | fail) (fun d hd => ?_); subst hd; (try simp))
  | fail)
 all_goals try (refine EndW.here ?_; have hKf : K = false := (by first | (rw [hok0]; clear h1 h2 hok0 hre' hrl'; simp; intros; simp_all; done) | (rw [hok0]; clear h1 h2 hok0 hre' hrl'; simp; intros; omega) | fail); subst hKf; (refine EndOK.val (.inr rfl) ?_; simp [resD, oneOrTup, pureD, Tryd.results64]); done)
 refine V_loopO (α := { i : Nat // i ≤ names.length ∧ ∀ v ∈ names.take i, unitOK v = true }) [0, 8, 33, 34] (fun i => [(35, .u (.int .i64 i.1))])
  (fun i => [(3, .box [.mp 1, .mp 2]), (2, .map .s true []), (1, .map .s false (entD (gmap (gOf (names.take i.1))))), (0, .box [.u (.int .i64 e.op), .u (.int .i64 e.n), .u (.int .i64 e.unit), .u (.str e.s), .u (.sl (e.args.map Exp.row))])]) 4
  (fun i => names.length - i.1) ⟨0, by omega, by simp⟩ ?_ ?_
 ·exact (Wk.cut rfl (by simp [hn, St.lp]) (by simp [wkO, St.lp, getK_cons, getK, Ob.under, D.under, under_rowsD, under_entD, gOf, gmap, entD_nil, Ob.under]) (by simp [wkU, St.lp, keepE, getK_cons, getK, D.under, gOf, gmap, entD_nil, Ob.under]) (by simp [wkE, St.lp, keepE, getK_cons, getK, gOf, gmap, entD_nil, Ob.under] <;> (try (intros; simp_all; done)) <;> (try (intros; omega)) <;> (try grind)))
 rintro ⟨i, hi, hb⟩
 simp [St.lp, St.only, keepE, getK_cons, getK]
 rcases hx : names[i]? with _ | v
 ·have hge : names.length ≤ i := by simpa using hx
  obtain rfl : i = names.length := by omega
  rw [List.take_length] at hb
  have hall : names.all unitOK = true := by simpa [List.all_eq_true] using hb
  repeat' (first
  | (refine H_cons ?_; simp [hx])
  | (refine H_nil ?_; simp [hx])
  | (refine V_sseq ?_; simp [hx])
  | (refine V_sblock ?_; simp [hx])
  | (refine V_exit ?_; simp [RunK])
  | fail)
  refine V_loopO (α := { i : Nat // i ≤ lets.length }) [8, 68, 69] (fun i => [(70, .u (.int .i64 i.1))])
   (fun i => [(3, .box [.mp 1, .mp 2]), (2, .map .s true (entD (lmap (mOf (gOf names) (lets.take i.1))))), (1, .map .s false (entD (gmap (gOf names)))), (0, .box [.u (.int .i64 e.op), .u (.int .i64 e.n), .u (.int .i64 e.unit), .u (.str e.s), .u (.sl (e.args.map Exp.row))])]) 4
   (fun i => lets.length - i.1) ⟨0, by omega⟩ ?_ ?_
  ·exact (Wk.cut rfl (by simp [hn, St.lp]) (by simp [wkO, St.lp, getK_cons, getK, Ob.under, D.under, under_rowsD, under_entD, mOf, lmap, entD_nil, Ob.under]) (by simp [wkU, St.lp, keepE, getK_cons, getK, D.under, mOf, lmap, entD_nil, Ob.under]) (by simp [wkE, St.lp, keepE, getK_cons, getK, mOf, lmap, entD_nil, Ob.under] <;> (try (intros; simp_all; done)) <;> (try (intros; omega)) <;> (try grind)))
  rintro ⟨k, hk0⟩
  simp [St.lp, St.only, keepE, getK_cons, getK]
  rcases hy : lets[k]? with _ | l
  ·have hgk : lets.length ≤ k := by simpa using hy
   obtain rfl : k = lets.length := by omega
   obtain rfl : K = true := by
    rw [hok0, hall]
    have : lets.length ≤ 20 := by omega
    clear h1 h2
    simp_all
   repeat' (first
  | (refine H_cons ?_; simp [hy])
  | (refine H_nil ?_; simp [hy])
  | (refine V_sseq ?_; simp [hy])
  | (refine V_ret ?_; simp only [RunK])
  | (refine V_exit ?_; simp [RunK])
  | fail)
   (refine EndW.frzN 2 ?_; simp [frzN, frz1, frz_env, frz_obs, St.frz, St.frzS, frzS, fv, fzVec, fzMap, fzBox, frzObS, frz_entD, frz_rowsD, del, frz, frzOb])
   (refine EndW.frzB 3 ?_; simp [frzB, frz_env, frz_obs, St.frzS, frzS, fv, fzVec, fzMap, fzBox, frzObS, frz_entD, frz_rowsD, del])
   refine EndW.here ?_
   (refine EndOK.val (.inr rfl) ?_; simp [resD, oneOrTup, pureD, Tryd.results64])
   rfl
  ·have hltk : k < lets.length := (List.getElem?_eq_some_iff.1 hy).1
   have hsu := mOf_succ (g := gOf names) hy
   have hrl : rightB 12 l.body = true := by
    have h7 : (lets.any fun l => !rightB 12 l.body) = false := by rw [hrl']; assumption
    rw [List.any_eq_false] at h7
    simpa using h7 l (List.mem_of_getElem? hy)
   have h5 := unit_fun (gOf names) (mOf (gOf names) (lets.take k)) 12 l.body hrl
   have h6 := share_fun (gOf names) (mOf (gOf names) (lets.take k)) 12 l.body hrl
   simp only [eagg, jU] at h5 h6
   repeat' (first
  | (refine H_cons ?_; simp [hy, upd_m])
  | (refine HD2_val rfl ?_; simp [hy, upd_m])
  | (refine HD2_chg rfl ?_; simp [hy, upd_m])
  | (refine H_nil ?_; simp [hy, upd_m])
  | (refine ⟨by omega, ?_⟩)
  | (refine V_sseq ?_; simp [hy, upd_m])
  | (refine HD2_nil (hC _ (by kernel_rfl)) (hk _ ?_); clear hC hk C k; simp only [RunK])
  | (refine V_drawE rfl (by kernel_rfl) (by kernel_rfl) (by simp [hn]) fun C k hC hk => ?_; simp [hy, upd_m])
  | (refine V_sregion ?_; simp [hy, upd_m])
  | (refine V_skip ?_; simp only [RunK])
  | (refine ⟨?_, by omega⟩)
  | (intro hc <;> (try (exfalso; omega)))
  | (refine CallP.fun_ (h5) (by first | rfl | fail) (by first | assumption | (simp; done) | fail) (by first | (simp [hy, upd_m]; done) | (simp [hy, upd_m]; rfl) | fail) (by first | (simp; done) | fail) (fun d hd => ?_); subst hd; (try simp [hy, upd_m]))
  | (refine CallV.fun_ (h6) (by first | rfl | fail) (by first | assumption | (simp; done) | fail) (by first | (simp [hy, upd_m]; done) | (simp [hy, upd_m]; rfl) | fail) (by first | (simp; done) | fail) ?_ <;> (try simp [hy, upd_m]))
  | fail)
   refine LoopW.next ⟨k + 1, by omega⟩ (by simp; omega) ?_
   exact (Wk.cut rfl (by simp [hn, St.lp]) (by simp [wkO, St.lp, getK_cons, getK, Ob.under, D.under, under_rowsD, under_entD, hsu]) (by simp [wkU, St.lp, keepE, getK_cons, getK, D.under, hsu]) (by simp [wkE, St.lp, keepE, getK_cons, getK, hsu] <;> (try (intros; simp_all; done)) <;> (try (intros; omega)) <;> (try grind)))
 ·have hlt : i < names.length := (List.getElem?_eq_some_iff.1 hx).1
  have hg := look_g (gOf (names.take i)) v.name
  have hsu := gOf_succ hx
  have hok : unitOK v = (decide (0 ≤ v.unit) && decide (v.unit < 5)) := rfl
  have hbad : unitOK v = false → names.all unitOK = false := fun h => by
   rw [List.all_eq_false]
   exact ⟨v, List.mem_of_getElem? hx, by simp [h]⟩
  cases hga : asc (gOf (names.take i)) v.name with
  | some u =>
   rw [hga] at hg hsu
   simp only [Option.map_some] at hg
   repeat' (first
  | (refine H_cons ?_; simp [hx, hg])
  | (refine HD_cons ?_; simp [hx, hg])
  | (refine H_nil ?_; simp [hx, hg])
  | (refine ⟨by omega, ?_⟩)
  | (refine V_sseq ?_; simp [hx, hg])
  | (refine V_scond ?_; simp [hx, hg])
  | (refine HD_nil ?_)
  | (refine hk _ ?_; clear hk k; simp only [RunK])
  | (refine V_drawV rfl (by kernel_rfl) (by kernel_rfl) fun k hk => ?_; simp [hx, hg])
  | (refine V_sregion ?_; simp [hx, hg])
  | (refine V_ret ?_; simp only [RunK])
  | (refine V_skip ?_; simp only [RunK])
  | (refine ⟨?_, by omega⟩)
  | (refine ⟨fun hc => ?_, fun hc => ?_⟩ <;> (try (exfalso; omega)))
  | (intro hc <;> (try (exfalso; omega)))
  | fail)
   all_goals first
    | (refine LoopW.next ⟨i + 1, by omega, take_succ_all hx hb (by rw [hok]; simp; omega)⟩ (by simp; omega) ?_; exact (Wk.cut rfl (by simp [hn, St.lp]) (by simp [wkO, St.lp, getK_cons, getK, Ob.under, D.under, under_rowsD, under_entD, hsu]) (by simp [wkU, St.lp, keepE, getK_cons, getK, D.under, hsu]) (by simp [wkE, St.lp, keepE, getK_cons, getK, hsu] <;> (try (intros; simp_all; done)) <;> (try (intros; omega)) <;> (try grind))))
    | (refine EndW.here ?_; have hKf : K = false := (by first | (rw [hok0, hbad (by rw [hok]; simp; omega)]; simp; done) | fail); subst hKf; (refine EndOK.val (.inr rfl) ?_; simp [resD, oneOrTup, pureD, Tryd.results64]))
  | none =>
   rw [hga] at hg hsu
   simp only [Option.map_none] at hg
   repeat' (first
  | (refine H_cons ?_; simp [hx, hg, upd_g])
  | (refine HD2_val rfl ?_; simp [hx, hg, upd_g])
  | (refine HD_cons ?_; simp [hx, hg, upd_g])
  | (refine HD2_chg rfl ?_; simp [hx, hg, upd_g])
  | (refine H_nil ?_; simp [hx, hg, upd_g])
  | (refine ⟨by omega, ?_⟩)
  | (refine V_sseq ?_; simp [hx, hg, upd_g])
  | (refine V_scond ?_; simp [hx, hg, upd_g])
  | (refine HD2_nil (hC _ (by kernel_rfl)) (hk _ ?_); clear hC hk C k; simp only [RunK])
  | (refine HD_nil ?_)
  | (refine hk _ ?_; clear hk k; simp only [RunK])
  | (refine V_drawV rfl (by kernel_rfl) (by kernel_rfl) fun k hk => ?_; simp [hx, hg, upd_g])
  | (refine V_drawE rfl (by kernel_rfl) (by kernel_rfl) (by simp [hn]) fun C k hC hk => ?_; simp [hx, hg, upd_g])
  | (refine V_sregion ?_; simp [hx, hg, upd_g])
  | (refine V_ret ?_; simp only [RunK])
  | (refine V_skip ?_; simp only [RunK])
  | (refine ⟨?_, by omega⟩)
  | (refine ⟨fun hc => ?_, fun hc => ?_⟩ <;> (try (exfalso; omega)))
  | (intro hc <;> (try (exfalso; omega)))
  | fail)
   all_goals first
    | (refine LoopW.next ⟨i + 1, by omega, take_succ_all hx hb (by rw [hok]; simp; omega)⟩ (by simp; omega) ?_; exact (Wk.cut rfl (by simp [hn, St.lp]) (by simp [wkO, St.lp, getK_cons, getK, Ob.under, D.under, under_rowsD, under_entD, hsu]) (by simp [wkU, St.lp, keepE, getK_cons, getK, D.under, hsu]) (by simp [wkE, St.lp, keepE, getK_cons, getK, hsu] <;> (try (intros; simp_all; done)) <;> (try (intros; omega)) <;> (try grind))))
    | (refine EndW.here ?_; have hKf : K = false := (by first | (rw [hok0, hbad (by rw [hok]; simp; omega)]; simp; done) | fail); subst hKf; (refine EndOK.val (.inr rfl) ?_; simp [resD, oneOrTup, pureD, Tryd.results64]))
end Go.Proofs.YtfcopibncpkdoaaDoor
namespace Go.Proofs.YtfcopibncpkdoaaDoor
open Go Go.VL
theorem rights_out {lets : List Let} {e : Exp} (h : rightAll lets e = true) : lets.length ≤ 20 ∧ rightB 12 e = true ∧ ∀ l ∈ lets, rightB 12 l.body = true := by
 simp only [rightAll, Bool.and_eq_true, decide_eq_true_eq, Bool.not_eq_true', List.any_eq_false, Bool.not_eq_true] at h
 exact ⟨h.1.1, h.1.2, fun l hl => by have := h.2 l hl; simpa using this⟩
def shareP (lets : List Let) (e : Exp) : Bool := rightAll lets e && shareS (sF (mOf [] lets)) e
abbrev Tab := List (Int × Int × Bool)
/-- A number that is not too great. -/
def keptX (n : Int) : Except Int Int := if 1099511627776 < n ∨ n < -1099511627776 then .error 3 else .ok n
def floorX (a b : Int) : Int := if a.tdiv b * b ≠ a ∧ ¬ (a < 0 ↔ b < 0) then a.tdiv b - 1 else a.tdiv b
def prodX (a b c : Int) : Except Int Int :=
 if a ≠ 0 ∧ ((1099511627777 * c).tdiv (max a (-a)) < b ∨ b < (-(1099511627777 * c)).tdiv (max a (-a))) then .error 3 else keptX (floorX (a * b) c)
def truthX (b : Bool) : Int := if b = true then 1 else 0
def binX (op : Int) (sh : Bool) (a b : Int) : Except Int Int :=
 if op = 2 then keptX (a + b) else if op = 3 then keptX (a - b) else if op = 4 then prodX a b (if sh = true then 1000 else 1)
 else if op = 5 then (if b = 0 then .error 15 else keptX (floorX a b))
 else if op = 6 then .ok (min a b) else if op = 7 then .ok (max a b) else if op = 8 then .ok (truthX (decide (a < b))) else .ok (truthX (decide (a = b)))
abbrev TM := Tab → Except Int Int × Tab
def TM.bind (f : TM) (g : Int → TM) : TM := fun t => match f t with | (.ok v, t') => g v t' | (.error e, t') => (.error e, t')
def TM.ret (x : Except Int Int) : TM := fun t => (x, t)
theorem TM.bind_ok {f : TM} {g : Int → TM} {t t' : Tab} {v : Int} (h : f t = (.ok v, t')) : f.bind g t = g v t' := by unfold TM.bind; rw [h]
theorem TM.bind_err {f : TM} {g : Int → TM} {t t' : Tab} {e : Int} (h : f t = (.error e, t')) : f.bind g t = (.error e, t') := by unfold TM.bind; rw [h]
mutual
def valT (nm : List UInt8 → TM) (sh : Exp → Bool) : Exp → TM
 | .mk op n _ s args =>
  if op = 0 then .ret (keptX n)
  else if op = 1 then nm s
  else if op = 10 then (valN nm sh args 0).bind fun a => if a = 0 then .ret (.ok 0) else (valN nm sh args 1).bind fun b => .ret (.ok (truthX (decide (b ≠ 0))))
  else if op = 11 then (valN nm sh args 0).bind fun a => if a ≠ 0 then .ret (.ok 1) else (valN nm sh args 1).bind fun b => .ret (.ok (truthX (decide (b ≠ 0))))
  else if op = 12 then (valN nm sh args 0).bind fun a => .ret (.ok (truthX (decide (a = 0))))
  else if op = 13 then (valN nm sh args 0).bind fun a => if a ≠ 0 then valN nm sh args 1 else valN nm sh args 2
  else (valN nm sh args 0).bind fun a => (valN nm sh args 1).bind fun b => .ret (binX op ((args.take 2).any sh) a b)
def valN (nm : List UInt8 → TM) (sh : Exp → Bool) : List Exp → Nat → TM
 | [], _ => .ret (.error 0)
 | e :: _, 0 => valT nm sh e
 | _ :: r, i + 1 => valN nm sh r i
end
theorem valN_at {nm sh} : ∀ {l : List Exp} {i : Nat} {e : Exp}, l[i]? = some e → valN nm sh l i = valT nm sh e
 | [], _, _, h => by simp at h
 | a :: r, 0, e, h => by simp at h; subst h; rw [valN]
 | a :: r, i + 1, e, h => by rw [valN]; exact valN_at (by simpa using h)
theorem valT_eq (nm sh) (e : Exp) : valT nm sh e = if e.op = 0 then .ret (keptX e.n)
  else if e.op = 1 then nm e.s
  else if e.op = 10 then (valN nm sh e.args 0).bind fun a => if a = 0 then .ret (.ok 0) else (valN nm sh e.args 1).bind fun b => .ret (.ok (truthX (decide (b ≠ 0))))
  else if e.op = 11 then (valN nm sh e.args 0).bind fun a => if a ≠ 0 then .ret (.ok 1) else (valN nm sh e.args 1).bind fun b => .ret (.ok (truthX (decide (b ≠ 0))))
  else if e.op = 12 then (valN nm sh e.args 0).bind fun a => .ret (.ok (truthX (decide (a = 0))))
  else if e.op = 13 then (valN nm sh e.args 0).bind fun a => if a ≠ 0 then valN nm sh e.args 1 else valN nm sh e.args 2
  else (valN nm sh e.args 0).bind fun a => (valN nm sh e.args 1).bind fun b => .ret (binX e.op ((e.args.take 2).any sh) a b) := by
 cases e with | mk op n u s args => rw [valT]; rfl
/-- The value and the error that a let's entry holds. -/
def entX : Except Int Int → Int × Int × Bool
 | .ok v => (v, 0, true)
 | .error e => (0, e, true)
def outX (v e : Int) : Except Int Int := if e = 0 then .ok v else .error e
def nmT (lets : List Let) (given : List UInt8 → Option Int) : Nat → List UInt8 → TM
 | 0, s => .ret (match given s with | some v => .ok v | none => .error 13)
 | n + 1, s => match given s with
  | some v => .ret (.ok v)
  | none => match lets[n]? with
   | none => .ret (.error 13)
   | some l => if l.name = s then fun t => match t[n]? with
          | some (v, e, true) => (outX v e, t)
          | _ => match valT (nmT lets given n) (shareP (lets.take n)) l.body t with
           | (r, t') => (outX (entX r).1 (entX r).2.1, t'.set n (entX r))
    else nmT lets given n s
/-- The value of an expression, for the first n lets. -/
def valL (lets : List Let) (given : List UInt8 → Option Int) (n : Nat) (e : Exp) : TM := valT (nmT lets given n) (shareP (lets.take n)) e
def inC (v : Int) : Prop := -1099511627776 ≤ v ∧ v ≤ 1099511627776
theorem keptX_in {n v : Int} (h : keptX n = .ok v) : inC v ∧ v = n := by
 unfold keptX at h
 split at h
 ·cases h
 ·cases h; exact ⟨by unfold inC; omega, rfl⟩
theorem keptX_err {n e : Int} (h : keptX n = .error e) : e = 3 := by
 unfold keptX at h
 split at h <;> cases h
 rfl
theorem prodX_in {a b c v : Int} (h : prodX a b c = .ok v) : inC v := by
 unfold prodX at h
 split at h
 ·cases h
 ·exact (keptX_in h).1
theorem prodX_err {a b c e : Int} (h : prodX a b c = .error e) : e = 3 := by
 unfold prodX at h
 split at h
 ·cases h; rfl
 ·exact keptX_err h
theorem truthX_in (b : Bool) : inC (truthX b) := by unfold inC truthX; split <;> omega
theorem binX_in {op sh a b v} (ha : inC a) (hb : inC b) (h : binX op sh a b = .ok v) : inC v := by
 unfold binX at h
 repeat' split at h
 all_goals first
  | exact (keptX_in h).1
  | exact prodX_in h
  | (cases h; done)
  | (cases h; exact truthX_in _)
  | (cases h; unfold inC at *; omega)
theorem binX_err {op sh a b e} (h : binX op sh a b = .error e) : e = 3 ∨ e = 15 := by
 unfold binX at h
 repeat' split at h
 all_goals first
  | exact .inl (keptX_err h)
  | exact .inl (prodX_err h)
  | (cases h; done)
  | (cases h; exact .inr rfl)
/-- What is known of a table: as many entries as lets, and small values. -/
structure TabOK (L : Nat) (t : Tab) : Prop where
 len : t.length = L
 small : ∀ (i : Nat) (v e : Int) (d : Bool), t[i]? = some (v, e, d) → inC v
def TMok (L : Nat) (f : TM) : Prop := ∀ t, TabOK L t → TabOK L (f t).2 ∧ (∀ v, (f t).1 = .ok v → inC v) ∧ (∀ e, (f t).1 = .error e → e ≠ 0)
theorem TMok.bind {L f g} (hf : TMok L f) (hg : ∀ a, inC a → TMok L (g a)) : TMok L (TM.bind f g) := fun t ht => by
 obtain ⟨h1, h2, h3⟩ := hf t ht
 unfold TM.bind
 rcases hft : f t with ⟨r | v, t'⟩
 ·rw [hft] at h1 h3
  refine ⟨h1, ?_, ?_⟩
  ·intro v h; cases h
  ·intro e h; exact h3 e h
 ·rw [hft] at h1 h2
  exact hg v (h2 v rfl) t' h1
theorem TMok.ret {L} {x : Except Int Int} (h : ∀ v, x = .ok v → inC v) (he : ∀ e, x = .error e → e ≠ 0) : TMok L (TM.ret x) := fun t ht => ⟨ht, h, he⟩
theorem TMok.ok {L} {v : Int} (h : inC v) : TMok L (TM.ret (.ok v)) := .ret (fun w hw => by cases hw; exact h) (fun e he => by cases he)
theorem valT_ok {L nm sh} (hn : ∀ s, TMok L (nm s)) : ∀ (d : Nat) (e : Exp), rightB d e = true → TMok L (valT nm sh e)
 | 0, e, h => by simp [rightB] at h
 | d + 1, e, h => by
  obtain ⟨h1, h2, h3, h4⟩ := right_args h
  rw [valT_eq]
  by_cases c0 : e.op = 0
  ·rw [if_pos c0]
   exact .ret (fun v hv => (keptX_in hv).1) (fun e he => by rw [keptX_err he]; decide)
  rw [if_neg c0]
  by_cases c1 : e.op = 1
  ·rw [if_pos c1]
   exact hn _
  rw [if_neg c1]
  have hA : ∀ i : Nat, (i : Int) < operandsI e.op → TMok L (valN nm sh e.args i) := fun i hi => by
   have hlt : i < e.args.length := by omega
   rw [valN_at (List.getElem?_eq_getElem hlt)]
   exact valT_ok hn d _ (h4 c0 c1 _ (List.getElem_mem hlt))
  have i0 : inC 0 := by unfold inC; omega
  have i1 : inC 1 := by unfold inC; omega
  by_cases c2 : e.op = 10
  ·rw [if_pos c2]
   rw [c2] at hA
   refine .bind (hA 0 (by decide)) fun a ha => ?_
   split
   ·exact .ok i0
   ·exact .bind (hA 1 (by decide)) fun b hb => .ok (truthX_in _)
  rw [if_neg c2]
  by_cases c3 : e.op = 11
  ·rw [if_pos c3]
   rw [c3] at hA
   refine .bind (hA 0 (by decide)) fun a ha => ?_
   split
   ·exact .ok i1
   ·exact .bind (hA 1 (by decide)) fun b hb => .ok (truthX_in _)
  rw [if_neg c3]
  by_cases c4 : e.op = 12
  ·rw [if_pos c4]
   rw [c4] at hA
   exact .bind (hA 0 (by decide)) fun a ha => .ok (truthX_in _)
  rw [if_neg c4]
  by_cases c5 : e.op = 13
  ·rw [if_pos c5]
   rw [c5] at hA
   refine .bind (hA 0 (by decide)) fun a ha => ?_
   split
   ·exact hA 1 (by decide)
   ·exact hA 2 (by decide)
  rw [if_neg c5]
  have ho : operandsI e.op = 2 := by unfold operandsI; split <;> first | omega | (split <;> first | omega | (split <;> first | omega | (split <;> omega)))
  rw [ho] at hA
  exact .bind (hA 0 (by decide)) fun a ha => .bind (hA 1 (by decide)) fun b hb => .ret (fun v hv => binX_in ha hb hv) (fun e he => by rcases binX_err he with h | h <;> omega)
theorem entX_in {r : Except Int Int} (h : ∀ v, r = .ok v → inC v) : inC (entX r).1 := by
 cases r with
 | ok v => exact h v rfl
 | error e => show inC 0; unfold inC; omega
theorem outX_in {v e : Int} (h : inC v) : ∀ w, outX v e = .ok w → inC w := fun w hw => by
 unfold outX at hw
 split at hw
 ·cases hw; exact h
 ·cases hw
theorem outX_err {v e w : Int} (hw : outX v e = .error w) : w ≠ 0 := by
 unfold outX at hw
 split at hw
 ·cases hw
 ·rename_i h; cases hw; exact h
theorem nmT_ok {lets : List Let} {given : List UInt8 → Option Int} (hl : ∀ l ∈ lets, rightB 12 l.body = true) (hg : ∀ s v, given s = some v → inC v) : ∀ n s, TMok lets.length (nmT lets given n s)
 | 0, s => by
  rw [nmT]
  cases hgs : given s with
  | some v => exact .ok (hg s v hgs)
  | none => exact .ret (fun v hv => by cases hv) (fun e he => by cases he; decide)
 | n + 1, s => by
  rw [nmT]
  cases hgs : given s with
  | some v => exact .ok (hg s v hgs)
  | none =>
   simp only
   cases hx : lets[n]? with
   | none => exact .ret (fun v hv => by cases hv) (fun e he => by cases he; decide)
   | some l =>
    simp only
    split
    ·intro t ht
     have main : TabOK lets.length ((valT (nmT lets given n) (shareP (lets.take n)) l.body t).2.set n (entX (valT (nmT lets given n) (shareP (lets.take n)) l.body t).1)) ∧
       (∀ v, outX (entX (valT (nmT lets given n) (shareP (lets.take n)) l.body t).1).1 (entX (valT (nmT lets given n) (shareP (lets.take n)) l.body t).1).2.1 = .ok v → inC v) ∧
       (∀ e, outX (entX (valT (nmT lets given n) (shareP (lets.take n)) l.body t).1).1 (entX (valT (nmT lets given n) (shareP (lets.take n)) l.body t).1).2.1 = .error e → e ≠ 0) := by
      obtain ⟨g1, g2, g3⟩ := valT_ok (nmT_ok hl hg n) 12 l.body (hl l (List.mem_of_getElem? hx)) (sh := shareP (lets.take n)) t ht
      refine ⟨⟨by rw [List.length_set]; exact g1.len, fun i v e d hi => ?_⟩, outX_in (entX_in g2), fun e he => outX_err he⟩
      rw [List.getElem?_set] at hi
      split at hi
      ·split at hi
       ·have h5 := entX_in g2
        have h6 := Option.some.inj hi
        rw [h6] at h5
        exact h5
       ·cases hi
      ·exact g1.small i v e d hi
     rcases hti : t[n]? with _ | ⟨v, e, d⟩
     ·simp only [hti]; exact main
     ·cases d
      ·simp only [hti]; exact main
      ·simp only [hti]
       exact ⟨ht, outX_in (ht.small n v e true hti), fun e he => outX_err he⟩
    ·exact nmT_ok hl hg n s
theorem valL_ok {lets : List Let} {given : List UInt8 → Option Int} (hl : ∀ l ∈ lets, rightB 12 l.body = true) (hg : ∀ s v, given s = some v → inC v) (n d : Nat) (e : Exp) (h : rightB d e = true) : TMok lets.length (valL lets given n e) :=
 valT_ok (nmT_ok hl hg n) d e h
end Go.Proofs.YtfcopibncpkdoaaDoor
namespace Go.VL
open Go
/-- An entry put into a map. -/
abbrev InsE := Nat × Key × List D
def putE (o : List (Nat × Ob)) (e : InsE) : List (Nat × Ob) := match getK o e.1 with | some (.map kk ag es) => setOb o e.1 (.map kk ag (updK es e.2.1 e.2.2)) | _ => o
def insL : List InsE → List (Nat × Ob) → List (Nat × Ob)
 | [], o => o
 | e :: L, o => insL L (putE o e)
def obE (e : InsE) (x : Option Ob) : Option Ob := match x with | some (.map kk ag es) => some (.map kk ag (updK es e.2.1 e.2.2)) | x => x
def insO : List InsE → Nat → Option Ob → Option Ob
 | [], _, x => x
 | e :: L, z, x => insO L z (if z = e.1 then obE e x else x)
theorem fm_congr {α β : Type} {f g : α → Option β} : ∀ {l : List α}, (∀ x ∈ l, f x = g x) → l.filterMap f = l.filterMap g
 | [], _ => rfl
 | a :: l, h => by rw [List.filterMap_cons, List.filterMap_cons, h a (by simp), fm_congr fun x hx => h x (by simp [hx])]
theorem getK_insL : ∀ (L : List InsE) (o : List (Nat × Ob)) (z : Nat), getK (insL L o) z = insO L z (getK o z)
 | [], _, _ => rfl
 | e :: L, o, z => by
  rw [insL, getK_insL L, insO]
  congr 1
  unfold putE obE
  by_cases hz : z = e.1
  ·subst hz
   rw [if_pos rfl]
   cases hg : getK o e.1 with
   | none => exact hg
   | some ob => cases ob <;> simp [hg, getK_setOb, getK_cons]
  ·rw [if_neg hz]
   cases hg : getK o e.1 with
   | none => rfl
   | some ob => cases ob <;> simp [getK_setOb, getK_cons, hz]
theorem insO_none : ∀ {L : List InsE} {z : Nat} {x : Option Ob}, (∀ e ∈ L, e.1 ≠ z) → insO L z x = x
 | [], _, _, _ => rfl
 | e :: L, z, x, h => by
  rw [insO, if_neg (fun q => h e (by simp) q.symm)]
  exact insO_none fun e he => h e (by simp [he])
theorem insO_append : ∀ (L : List InsE) (e : InsE) (z : Nat) (x : Option Ob), insO (L ++ [e]) z x = insO [e] z (insO L z x)
 | [], _, _, _ => rfl
 | a :: L, e, z, x => by rw [List.cons_append, insO, insO_append L e]; rfl
theorem insO_map : ∀ (L : List InsE) (z : Nat) (kk : KK) (ag : Bool) (es : List (Key × List D)), ∃ es', insO L z (some (.map kk ag es)) = some (.map kk ag es')
 | [], _, _, _, es => ⟨es, rfl⟩
 | e :: L, z, kk, ag, es => by
  rw [insO]
  split
  ·exact insO_map L z kk ag _
  ·exact insO_map L z kk ag es
/-- What is put into the map z. -/
def entZ (z : Nat) (L : List InsE) : List (Key × List D) := L.filterMap fun e => if e.1 = z then some (e.2.1, e.2.2) else none
theorem insO_nil {z : Nat} {kk : KK} {ag : Bool} : ∀ (L : List InsE) (es : List (Key × List D)), L.Pairwise (fun a b => a.1 = b.1 → a.2.1 ≠ b.2.1) → (∀ e ∈ L, e.1 = z → ∀ p ∈ es, p.1 ≠ e.2.1) → insO L z (some (.map kk ag es)) = some (.map kk ag (es ++ entZ z L))
 | [], es, _, _ => by simp [insO, entZ]
 | e :: L, es, hp, h => by
  rw [List.pairwise_cons] at hp
  rw [insO]
  by_cases hz : z = e.1
  ·rw [if_pos hz]
   unfold obE
   simp only
   rw [updK_none (h e (by simp) hz.symm), insO_nil L _ hp.2 fun a ha haz p hp' => ?_]
   ·simp [entZ, hz]
   ·rcases List.mem_append.1 hp' with hp' | hp'
    ·exact h a (by simp [ha]) haz p hp'
    ·simp at hp'
     subst hp'
     exact hp.1 a ha (by rw [← hz, haz])
  ·rw [if_neg hz, insO_nil L _ hp.2 fun a ha haz p hp' => h a (by simp [ha]) haz p hp']
   simp [entZ, Ne.symm hz]
def stX (ops : List Oper) (T : Nat → D) (W : Nat → Wr) (s : St) (M : Nat) (S : Nat → Bool) (L : List InsE) : St :=
 { stW ops T W s M S with obs := insL L (stW ops T W s M S).obs }
/-- This operation puts this entry into a map that was empty. -/
def InsOK (P : Program) (st : St) (op : Op) (e : InsE) : Prop :=
 ∃ t x ki v kk ag z ku, (op = .mapUpdate t x ki v ∨ op = .insert t x ki v) ∧ mapInf P t = some (kk, ag, z) ∧ opd st x = .mp e.1 ∧ opd st ki = .u ku ∧ keyU ku = some e.2.1 ∧ e.2.1.kk = kk ∧ valM ag (opd st v) = some e.2.2 ∧ getK st.obs e.1 = some (.map kk ag [])
theorem InsOK.base {P st op e} (h : InsOK P st op e) : ∃ kk ag, getK st.obs e.1 = some (.map kk ag []) := by
 obtain ⟨t, x, ki, v, kk, ag, z, ku, _, _, _, _, _, _, _, h⟩ := h
 exact ⟨kk, ag, h⟩
theorem Sat.permO {k own o o' w} (h : Sat k own o w) (e : ∀ z, getK o' z = getK o z ∨ ∃ kk ag es es', getK o z = some (.map kk ag es) ∧ getK o' z = some (.map kk ag es') ∧ es.Perm es') : Sat k own o' w := by
 have conv : ∀ z ob, getK o' z = some ob → ∃ ob0, getK o z = some ob0 := fun z ob hz => by
  rcases e z with h1 | ⟨kk, ag, es, es', h1, h2, h3⟩
  ·exact ⟨ob, by rw [← h1]; exact hz⟩
  ·exact ⟨_, h1⟩
 refine ⟨h.mem, fun i ob hi => ?_, fun i j x y g g' b hi hj => ?_⟩
 ·rcases e i with h1 | ⟨kk, ag, es, es', h1, h2, h3⟩
  ·exact h.ob i ob (by rw [← h1]; exact hi)
  ·rw [h2] at hi
   cases hi
   obtain ⟨g, g1, g2, b, ents, clock, es0, g3, g4, g5, g6⟩ := h.ob i _ h1
   exact ⟨g, g1, g2, b, ents, clock, es0, g3, g4, g5.trans h3, g6⟩
 ·obtain ⟨x', hx⟩ := conv i x hi
  obtain ⟨y', hy⟩ := conv j y hj
  exact h.apart i j x' y' g g' b hx hy
theorem pairwise_perm_ins {L L' : List InsE} (hp : L.Perm L') (h : L.Pairwise fun a b => a.1 = b.1 → a.2.1 ≠ b.2.1) : L'.Pairwise fun a b => a.1 = b.1 → a.2.1 ≠ b.2.1 :=
 hp.pairwise h fun q e => (q e.symm).symm
theorem Sat.permL {k own w} {L L' : List InsE} {o : List (Nat × Ob)} (h : Sat k own (insL L o) w) (hp : L.Perm L') (hd : L.Pairwise fun a b => a.1 = b.1 → a.2.1 ≠ b.2.1) (hb : ∀ e ∈ L, ∃ kk ag, getK o e.1 = some (.map kk ag [])) : Sat k own (insL L' o) w := by
 refine h.permO fun z => ?_
 rw [getK_insL, getK_insL]
 by_cases hz : ∃ e ∈ L, e.1 = z
 ·obtain ⟨e, he, rfl⟩ := hz
  obtain ⟨kk, ag, hg⟩ := hb e he
  rw [hg, insO_nil L [] hd (by simp), insO_nil L' [] (pairwise_perm_ins hp hd) (by simp)]
  exact .inr ⟨kk, ag, _, _, rfl, rfl, by simpa [entZ] using hp.filterMap _⟩
 ·have h1 : ∀ e ∈ L, e.1 ≠ z := fun e he q => hz ⟨e, he, q⟩
  rw [insO_none h1, insO_none fun e he => h1 e (hp.mem_iff.2 he)]
  exact .inl rfl
theorem mapUpd_keep {P : Program} {Γ : Ctx} {o : Oper} {s : St} {t : TypeId} {x i v : Operand} {m : Nat} {kk : KK} {ag : Bool} {z : List U} {ku : U} {ky : Key} {cells : List D} {es : List (Key × List D)} (ho : o.op = .mapUpdate t x i v ∨ o.op = .insert t x i v) (hd : o.dst = none)
  (hinf : mapInf P t = some (kk, ag, z)) (hx : opd s x = .mp m) (hi : opd s i = .u ku) (hg : getK s.obs m = some (.map kk ag es)) (hky : keyU ku = some ky) (hkk2 : ky.kk = kk) (hvm : valM ag (opd s v) = some cells) {K : Kr} {a : Act} {w : World} (hin : In Γ K w) (hs : Sim K Γ.own s a w) :
  ∃ w', (execOp a.eval o).run P w = .ok .skip w' ∧ In Γ K w' ∧ Sim K Γ.own { s with obs := setOb s.obs m (.map kk ag (updK es ky cells)) } (a.put o.dst undef) w' := by
 obtain ⟨kt, e, hu, hkk, _⟩ := mapInf_some hinf
 obtain ⟨b, c, ents, clock, es0, hh, hown, hheap, hpm, hm, hno⟩ := (hs.sat.ob m _ hg).map
 have hrx := opd_rep hs x
 rw [hx] at hrx
 obtain ⟨b', c', hh', hxv⟩ := rep_mp hrx
 rw [hh] at hh'
 cases hh'
 have hri := opd_rep hs i
 rw [hi] at hri
 have hiv : a.eval i = ky.val := by cases hri with | u _ _ hri => exact keyU_rep hky hri
 obtain ⟨ents', clock', hrun, hm'⟩ := mapUpd_run (w := w) hu hkk hkk2 hm hheap (valM_rep hvm (opd_rep hs v))
 have hrun' : (execOp a.eval o).run P w = .ok .skip (w.putMap b ents' clock') := by
  obtain ⟨dst, op, type, pos, after, guard⟩ := o
  simp only at ho
  rcases ho with rfl | rfl
  ·simp [execOp, hxv, hiv, hrun]
  ·simp [execOp, hxv, hiv, hrun]
 have hsame := MapKept.heap_set (o' := .map ents' clock') hheap
 have hin' : In Γ K (w.putMap b ents' clock') := hin.step (.refl K) (fun _ _ _ e => .inl e) rfl rfl rfl (by simp [World.putMap]) (fun b' hb' => hsame.2 b' fun e => hb' (by rw [e]; exact hown))
 refine ⟨_, hrun', hin', ?_⟩
 rw [hd]
 exact ⟨Sat.congr (Sat.set (h := (some b, c)) hs.sat hg hh (fun b' hb' => hsame.2 b' fun e => hb' (by rw [e])) (ob' := .map kk ag (updK es ky cells)) ⟨b, ents', clock', _, rfl, hsame.1, updK_perm hpm hm.once, hm'⟩) (getK_setOb _ _ _), hs.defers, hs.size, hs.env, hs.hdr⟩
theorem bef_lt {ops : List Oper} (hord : ordOK ops = true) : ∀ {n i j : Nat}, befB ops n i j = true → i < j
 | 0, _, _, h => by cases h
 | n + 1, i, j, h => by
  unfold befB at h
  split at h
  ·rename_i o ho
   rw [List.any_eq_true] at h
   obtain ⟨p, hp, hpi⟩ := h
   have hlt := (ord_pred hord ho).1 p hp
   simp only [Bool.or_eq_true, beq_iff_eq] at hpi
   rcases hpi with rfl | hpi
   ·exact hlt
   ·have := bef_lt hord hpi; omega
  ·cases h
theorem filterMap_skip {n i : Nat} {N : Nat → Option InsE} {S : Nat → Bool} (h : N i = none) : ((List.range n).filterMap fun j => if (S j || j == i) = true then N j else none) = (List.range n).filterMap fun j => if S j = true then N j else none :=
 fm_congr fun j _ => by
  by_cases hj : j = i
  ·subst hj; simp [h]
  ·simp [hj]
theorem filterMap_put {n i : Nat} {N : Nat → Option InsE} {S : Nat → Bool} {L : List InsE} {e : InsE} (hp : L.Perm ((List.range n).filterMap fun j => if S j = true then N j else none)) (hi : i < n) (hS : S i = false) (h : N i = some e) :
  (L ++ [e]).Perm ((List.range n).filterMap fun j => if (S j || j == i) = true then N j else none) := by
 have : ∀ (l : List Nat), l.Nodup → i ∈ l → ((l.filterMap fun j => if S j = true then N j else none) ++ [e]).Perm (l.filterMap fun j => if (S j || j == i) = true then N j else none) := by
  intro l
  induction l with
  | nil => intro _ hm; cases hm
  | cons a l ih =>
   intro hnd hm
   rw [List.nodup_cons] at hnd
   by_cases ha : a = i
   ·subst ha
    have hsame : (l.filterMap fun j => if (S j || j == a) = true then N j else none) = l.filterMap fun j => if S j = true then N j else none :=
     fm_congr fun j hj => by
           have : j ≠ a := fun q => hnd.1 (q ▸ hj)
           simp [this]
    simp only [List.filterMap_cons, hS, Bool.false_eq_true, if_false, Bool.false_or, beq_self_eq_true, if_true, h]
    rw [hsame]
    exact List.perm_append_comm
   ·have hm' : i ∈ l := by rcases List.mem_cons.1 hm with rfl | hm; exact absurd rfl ha; exact hm
    have := ih hnd.2 hm'
    have hai : (a == i) = false := by simp [ha]
    simp only [List.filterMap_cons, hai, Bool.or_false]
    split
    ·exact this
    ·exact this.cons _
 exact (hp.append_right [e]).trans (this _ List.nodup_range (List.mem_range.2 hi))
set_option maxHeartbeats 4000000 in
theorem V_draw2N {P Γ} {Q : Exit → St → Prop} {kt : Kt} {id : Nat} {ops : List Oper} {T : Nat → D} {W : Nat → Wr} {cr : Nat → Option Nat} {R : Nat → List Nat} {N : Nat → Option InsE} {s : St} {M : Nat}
  (hm : P.follows .mixedOrders = true) (hord : ordOK ops = true) (hn0 : Γ.n0 ≤ s.next) (hM : s.next ≤ M)
  (hcr : ∀ i x, cr i = some x → s.next ≤ x ∧ x < M) (hcr1 : ∀ i j x, cr i = some x → cr j = some x → i = j)
  (hpair : ∀ i j, i < j → j < ops.length → befB ops ops.length i j = false → (∀ y ∈ keys (W i), y ∉ R j ∧ y ∉ keys (W j)) ∧ ∀ y ∈ keys (W j), y ∉ R i)
  (hins : ∀ i o e, ops[i]? = some o → N i = some e → W i = [] ∧ cr i = none ∧ o.guard = none ∧ o.dst = none ∧ InsOK P (stW ops T W s M fun j => decide (j < i)) o.op e)
  (hNR : ∀ i j e, i < ops.length → j < ops.length → N i = none → N j = some e → e.1 ∉ R i ∧ (e.1 ∈ keys (W i) → befB ops ops.length i j = true))
  (hdist : ∀ i j e e', i ≠ j → N i = some e → N j = some e' → e.1 = e'.1 → e.2.1 ≠ e'.2.1)
  (hval : ∀ i o, ops[i]? = some o → N i = none → putOK o.dst s ∧ OpG P ops.toArray (stW ops T W s M fun j => decide (j < i)) o (T i) (W i) (cr i) (R i))
  (hfin : ∃ s', (stX ops T W s M (fun _ => true) ((List.range ops.length).filterMap N)).Eqo s' ∧ RunK P Γ Q kt .normal s') : V P Γ (.region id ops.toArray true) s (RunK P Γ Q kt) := by
 intro K a w hin hs
 refine wp_region_any hm ?_
 have hin0 : In Γ K { w with drawn := w.drawn + 1 } := ⟨hin.le, hin.none0, hin.memNew, hin.fresh, hin.os, hin.tape, hin.output, hin.size, hin.block⟩
 have hs0 : Sim K Γ.own s a { w with drawn := w.drawn + 1 } := ⟨⟨hs.sat.mem, fun i ob hi => by
   obtain ⟨h, h1, h2, h3⟩ := hs.sat.ob i ob hi
   exact ⟨h, h1, h2, h3.keep (.refl _) fun b e => rfl⟩, hs.sat.apart⟩, hs.defers, hs.size, hs.env, hs.hdr⟩
 generalize ({ w with drawn := w.drawn + 1 } : World) = w0 at hin0 hs0
 have hLdist : ∀ L : List InsE, L.Perm ((List.range ops.length).filterMap N) → L.Pairwise fun a b => a.1 = b.1 → a.2.1 ≠ b.2.1 := fun L hp => by
  refine pairwise_perm_ins hp.symm ?_
  rw [List.pairwise_filterMap]
  refine List.nodup_range.imp fun {a b} hab e he e' he' hid => ?_
  exact hdist a b e e' hab he he' hid
 have key : ∀ (fuel : Nat) (listed : Array Bool) (L : List InsE) (K : Kr) (a : Act) (w : World), listed.size = ops.length → (listed.toList.filter (! ·)).length ≤ fuel →
   (∀ j y, ops[j]? = some y → listed.getD j false = true → ∀ p ∈ dirPred y, listed.getD p false = true) → In Γ K w → Sim K Γ.own (stX ops T W s M (fun j => listed.getD j false) L) a w →
   L.Perm ((List.range ops.length).filterMap fun j => if listed.getD j false = true then N j else none) →
   (∀ j x, j < ops.length → listed.getD j false = false → cr j = some x → K.hdr x = none) →
   wpAny P .any ops.toArray (VPost Γ (RunK P Γ Q kt)) fuel listed a w := by
  have allDone : ∀ (listed : Array Bool) (L : List InsE) (K : Kr) (a : Act) (w : World), (∀ j, j < ops.length → listed.getD j false = true) → In Γ K w → Sim K Γ.own (stX ops T W s M (fun j => listed.getD j false) L) a w →
    L.Perm ((List.range ops.length).filterMap fun j => if listed.getD j false = true then N j else none) →
    ∃ K' s', In Γ K' w ∧ Sim K' Γ.own s' a w ∧ RunK P Γ Q kt .normal s' := fun listed L K a w hall hin hs hLp => by
   obtain ⟨s', he, hfin⟩ := hfin
   have hLc : ((List.range ops.length).filterMap fun j => if listed.getD j false = true then N j else none) = (List.range ops.length).filterMap N :=
    fm_congr fun j hj => by rw [if_pos (hall j (List.mem_range.1 hj))]
   rw [hLc] at hLp
   have h1 : Sim K Γ.own (stX ops T W s M (fun _ => true) L) a w := by
    refine hs.eqo ⟨rfl, fun x => ?_, rfl, fun x => ?_⟩
    ·simp only [stX, stW, getK_insL, getK_applyW]
     rw [wlog_congr W _ (fun _ => true) x ops.length fun j hj _ => hall j hj]
    ·exact envF_congr T _ _ x ops 0 s.env s.env rfl fun j o hj _ => by
      have hl := (List.getElem?_eq_some_iff.1 hj).1
      simp only [Nat.zero_add]
      exact hall j hl
   ·refine ⟨K, _, hin, Sim.eqo (⟨h1.sat.permL hLp ?_ ?_, h1.defers, h1.size, h1.env, h1.hdr⟩ : Sim K Γ.own (stX ops T W s M (fun _ => true) ((List.range ops.length).filterMap N)) a w) he, hfin⟩
    ·exact hLdist _ hLp
    ·intro e he
     obtain ⟨j, hj, hNj⟩ := List.mem_filterMap.1 (hLp.mem_iff.1 he)
     have hjl := List.mem_range.1 hj
     obtain ⟨g1, g2, g3, g4, g5⟩ := hins j _ e (List.getElem?_eq_getElem hjl) hNj
     obtain ⟨kk, ag, g6⟩ := g5.base
     refine ⟨kk, ag, ?_⟩
     rw [← g6]
     simp only [stW, getK_applyW]
     rw [wlog_congr W (fun _ => true) (fun q => decide (q < j)) e.1 ops.length fun q hq hk => ?_]
     have hqn : N q = none := by
      cases hN : N q with
      | none => rfl
      | some e' =>
       rw [(hins q _ e' (List.getElem?_eq_getElem hq) hN).1] at hk
       cases hk
     have := bef_lt hord ((hNR q j e hq hjl hqn hNj).2 hk)
     simp [this]
  have least : ∀ (listed : Array Bool), listed.size = ops.length → ∀ i, i < ops.length → listed.getD i false = false → ∃ i0, i0 ∈ Region.ready .any ops.toArray listed := fun listed hsz i hi hu => by
   induction i using Nat.strongRecOn with
   | _ i ih =>
    have ho : ops[i]? = some ops[i] := List.getElem?_eq_getElem hi
    by_cases hp : ∀ p ∈ dirPred ops[i], listed.getD p false = true
    ·refine ⟨i, mem_ready.2 ⟨?_, ops[i], by simp, fun e he hb => hp e.on ?_⟩⟩
     ·have hi' : i < listed.size := by omega
      simp [hi'] at hu ⊢
      exact hu
     ·simp only [dirPred, List.mem_map, List.mem_filter]
      exact ⟨e, ⟨by simpa using he, hb⟩, rfl⟩
    ·simp only [Classical.not_forall] at hp
     obtain ⟨p, hpm, hpu⟩ := hp
     have hlt := (ord_pred hord ho).1 p hpm
     exact ih p hlt (by omega) (by simpa using hpu)
  intro fuel
  induction fuel with
  | zero =>
   intro listed L K a w hsz hcnt hcl hin hs hLp _
   have hall : ∀ j, j < ops.length → listed.getD j false = true := fun j hj => by
    have hj' : j < listed.size := by omega
    have h0 : (listed.toList.filter (! ·)) = [] := List.eq_nil_of_length_eq_zero (by omega)
    have := (List.filter_eq_nil_iff.1 h0) listed[j] (by simp)
    simp only [Bool.not_eq_true', Bool.not_eq_false] at this
    simp [hj', this]
   refine ⟨?_, .inl (allDone listed L K a w hall hin hs hLp)⟩
   refine List.eq_nil_iff_forall_not_mem.2 fun i hi => ?_
   obtain ⟨h1, o, ho, _⟩ := mem_ready.1 hi
   have hl : i < ops.length := by
    have := (Array.getElem?_eq_some_iff.1 ho).1
    simpa using this
   have := hall i hl
   have hi' : i < listed.size := by omega
   simp [hi'] at h1 this
   rw [h1] at this
   cases this
  | succ fuel ih =>
   intro listed L K a w hsz hcnt hcl hin hs hLp hfr
   refine ⟨fun hnil => .inl (allDone listed L K a w (fun j hj => ?_) hin hs hLp), fun i hi => ?_⟩
   ·cases hu : listed.getD j false with
    | true => rfl
    | false =>
     obtain ⟨i0, h0⟩ := least listed hsz j hj hu
     rw [hnil] at h0
     cases h0
   ·obtain ⟨hun, o, ho, hall⟩ := mem_ready.1 hi
    have ho' : ops[i]? = some o := by simpa using ho
    have hil := (List.getElem?_eq_some_iff.1 ho').1
    have hil' : i < listed.size := by omega
    have hunf : listed.getD i false = false := by simp [hil'] at hun ⊢; exact hun
    have hpred : ∀ p ∈ dirPred o, listed.getD p false = true := fun p hp => by
     simp only [dirPred, List.mem_map, List.mem_filter] at hp
     obtain ⟨e, ⟨he, hb⟩, rfl⟩ := hp
     exact hall e (by simpa using he) hb
    have bef1 : ∀ j, befB ops ops.length j i = true → listed.getD j false = true := fun j hb => bef_closed hcl _ j i o ho' hpred hb
    have bef2 : ∀ j x, ops[j]? = some x → befB ops ops.length i j = true → listed.getD j false = false := fun j x hj hb => by
     cases hu : listed.getD j false with
     | false => rfl
     | true =>
      have := bef_closed hcl _ i j x hj (hcl j x hj hu) hb
      rw [hunf] at this
      cases this
    have hLm : ∀ e ∈ L, ∃ j, j < ops.length ∧ listed.getD j false = true ∧ N j = some e := fun e he => by
     obtain ⟨j, hj, hNj⟩ := List.mem_filterMap.1 (hLp.mem_iff.1 he)
     split at hNj
     ·rename_i hl; exact ⟨j, List.mem_range.1 hj, hl, hNj⟩
     ·cases hNj
    -- who writes a slot that this operation looks at, or writes
    have before : ∀ j x, ops[j]? = some x → j < i → meets ops.toArray x o = true ∨ meets ops.toArray o x = true → listed.getD j false = true := fun j x hj hlt hmm =>
     bef1 j ((ord_pred hord ho').2.2 j x hlt hj hmm)
    have behind : ∀ j x, ops[j]? = some x → i < j → meets ops.toArray x o = true ∨ meets ops.toArray o x = true → listed.getD j false = false := fun j x hj hlt hmm =>
     bef2 j x hj ((ord_pred hord hj).2.2 i o hlt ho' hmm.symm)
    have agree : ∀ t, t ∈ o.looksAt ops.toArray → getK (envF T (fun j => listed.getD j false) ops 0 s.env) t = getK (envF T (fun j => decide (j < i)) ops 0 s.env) t := fun t ht => by
     refine envF_congr T _ _ t ops 0 s.env s.env rfl fun j x hj hx => ?_
     simp only [Nat.zero_add]
     have hmm : meets ops.toArray x o = true := by simp [meets, hx, ht]
     rcases Nat.lt_trichotomy j i with h | h | h
     ·rw [before j x hj h (.inl hmm)]; simp [h]
     ·subst h; rw [hunf]; simp
     ·rw [behind j x hj h (.inl hmm)]; simp; omega
    have hopd : ∀ x ∈ o.op.operands, opd (stW ops T W s M fun j => decide (j < i)) x = opd (stX ops T W s M (fun j => listed.getD j false) L) x := fun x hx => by
     cases x with
     | tmp t =>
      simp only [opd, St.at, stX, stW]
      rw [agree t (List.mem_append_left _ (List.mem_filterMap.2 ⟨.tmp t, by simpa using hx, rfl⟩))]
     | _ => rfl
    have hNn : ∀ j y, j < ops.length → y ∈ keys (W j) → N j = none := fun j y hj hk => by
     cases hN : N j with
     | none => rfl
     | some e => rw [(hins j _ e (List.getElem?_eq_getElem hj) hN).1] at hk; cases hk
    -- who changes an object that this operation looks at
    have hloc0 : ∀ y, (y ∈ R i ∨ (∃ e, N i = some e ∧ y = e.1)) → getK (stW ops T W s M fun j => decide (j < i)).obs y = getK (stW ops T W s M fun j => listed.getD j false).obs y := fun y hy => by
     simp only [stW, getK_applyW]
     rw [wlog_congr W (fun j => decide (j < i)) (fun j => listed.getD j false) y ops.length fun j hj hk => ?_]
     rcases Nat.lt_trichotomy j i with h | h | h
     ·have hb : befB ops ops.length j i = true := by
       cases hb : befB ops ops.length j i with
       | true => rfl
       | false =>
               rcases hy with hy | ⟨e, hNe, rfl⟩
               ·exact absurd hy (((hpair j i h hil hb).1 y hk).1)
               ·have := (hNR j i e hj hil (hNn j _ hj hk) hNe).2 hk
                rw [hb] at this
                exact this
      rw [bef1 j hb]
      simp [h]
     ·subst h; rw [hunf]; simp
     ·have hb : befB ops ops.length i j = true := by
       cases hb : befB ops ops.length i j with
       | true => rfl
       | false =>
               rcases hy with hy | ⟨e, hNe, rfl⟩
               ·exact absurd hy ((hpair i j h hj hb).2 y hk)
               ·have := bef_lt hord ((hNR j i e hj hil (hNn j _ hj hk) hNe).2 hk)
                omega
      rw [bef2 j _ (List.getElem?_eq_getElem hj) hb]
      simp; omega
    have hlast : ∀ y ∈ keys (W i), ∀ j, j < ops.length → i < j → y ∈ keys (W j) → listed.getD j false = false := fun y hy j hj hlt hk => by
     have hb : befB ops ops.length i j = true := by
      cases hb : befB ops ops.length i j with
      | true => rfl
      | false => exact absurd hk ((hpair i j hlt hj hb).1 y hy).2
     exact bef2 j _ (List.getElem?_eq_getElem hj) hb
    have hS : (fun j => (listed.setIfInBounds i true).getD j false) = fun j => listed.getD j false || j == i := funext fun j => by
     by_cases hji : j = i
     ·subst hji; simp [hil']
     ·simp [Array.getElem?_setIfInBounds_ne (Ne.symm hji), hji]
    -- the slots behind this operation
    have henv : ∀ (x : Nat), o.dst = some x → getK (envF T (fun j => listed.getD j false || j == i) ops 0 s.env) x = some (T i) := fun x hdx =>
     envF_put T _ i x ops 0 s.env i o ho' (by omega) hdx fun j o' hj hlt hd' => by
      rw [Nat.zero_add]
      exact behind j o' hj hlt (.inl (by simp [meets, hd', hdx]))
    have henv' : ∀ (x : Nat), o.dst ≠ some x → getK (envF T (fun j => listed.getD j false || j == i) ops 0 s.env) x = getK (envF T (fun j => listed.getD j false) ops 0 s.env) x := fun x hdx =>
     envF_congr T _ (fun j => listed.getD j false) x ops 0 s.env s.env rfl fun j o' hj hd' => by
      simp only [Nat.zero_add]
      have : j ≠ i := fun e => by subst e; rw [ho'] at hj; cases hj; exact hdx hd'
      simp [this]
    have go : ∀ K' a' w' (L : List InsE), In Γ K' w' → Sim K' Γ.own (stX ops T W s M (fun j => listed.getD j false || j == i) L) a' w' →
      L.Perm ((List.range ops.length).filterMap fun j => if (listed.getD j false || j == i) = true then N j else none) →
      (∀ j x, j < ops.length → (listed.getD j false || j == i) = false → cr j = some x → K'.hdr x = none) →
      wpAny P .any ops.toArray (VPost Γ (RunK P Γ Q kt)) fuel (listed.setIfInBounds i true) a' w' := fun K' a' w' L h1 h2 hLq h3 => by
     have hS' : ∀ j, (listed.setIfInBounds i true).getD j false = (listed.getD j false || j == i) := fun j => congrFun hS j
     refine ih (listed.setIfInBounds i true) L K' a' w' (by simp [hsz]) ?_ (fun j y hj hSj p hp => ?_) h1 (by rw [hS]; exact h2) (by simp only [hS']; exact hLq) (fun j x hj hu => h3 j x hj (by rw [← hS']; exact hu))
     ·have cnt : ∀ (l : List Bool) (n : Nat), l[n]? = some false → ((l.set n true).filter (! ·)).length + 1 = (l.filter (! ·)).length := by
       intro l
       induction l with
       | nil => intro n h; simp at h
       | cons b l ih =>
               intro n h
               cases n with
               | zero => simp at h; subst h; simp
               | succ n =>
                have := ih n (by simpa using h)
                cases b <;> simp at this ⊢ <;> omega
      have := cnt listed.toList i (by
       rw [Array.getElem?_toList, Array.getElem?_eq_getElem hil']
       simp [hil'] at hunf
       rw [hunf])
      rw [Array.toList_setIfInBounds]
      omega
     ·rw [hS'] at hSj ⊢
      simp only [Bool.or_eq_true, beq_iff_eq] at hSj ⊢
      rcases hSj with hSj | rfl
      ·exact .inl (hcl j y hj hSj p hp)
      ·rw [ho'] at hj
       cases hj
       exact .inl (hpred p hp)
    cases hNi : N i with
    | some e0 =>
     obtain ⟨hW, hcn, hg, hd0, hok⟩ := hins i o e0 ho' hNi
     obtain ⟨tt, x, ki, v, kk, ag, z, ku, hop, hinf, hx, hki, hkey, hkk, hvm, hg0⟩ := hok
     rw [hopd x (by rcases hop with hop | hop <;> simp [hop, Op.operands])] at hx
     rw [hopd ki (by rcases hop with hop | hop <;> simp [hop, Op.operands])] at hki
     rw [hopd v (by rcases hop with hop | hop <;> simp [hop, Op.operands])] at hvm
     have hcur : ∃ es, getK (stX ops T W s M (fun j => listed.getD j false) L).obs e0.1 = some (.map kk ag es) := by
      have h1 := hloc0 e0.1 (.inr ⟨e0, hNi, rfl⟩)
      rw [hg0] at h1
      obtain ⟨es, h2⟩ := insO_map L e0.1 kk ag []
      refine ⟨es, ?_⟩
      simp only [stX, getK_insL]
      rw [← h2]
      exact congrArg _ h1.symm
     obtain ⟨es, hes⟩ := hcur
     obtain ⟨w1, hrun, h1, h2⟩ := mapUpd_keep hop hd0 hinf hx hki hes hkey hkk hvm hin hs
     unfold wpOp
     rw [ho]
     simp only
     have hw : Region.wanted o (yielded ops.toArray a.tmps) = true := by simp [Region.wanted, hg]
     rw [if_pos hw]
     refine .inl ?_
     unfold Oper.wp
     rw [hrun]
     refine go K _ w1 (L ++ [e0]) h1 (h2.eqo ⟨rfl, fun y => ?_, rfl, fun y => ?_⟩) (filterMap_put hLp hil hunf hNi) fun j x hj hu hc => ?_
     ·have hsame : getK (wlog W (fun j => listed.getD j false || j == i) ops.length) y = getK (wlog W (fun j => listed.getD j false) ops.length) y := wlog_congr W _ _ y ops.length fun j hj hk => by
       by_cases hji : j = i
       ·subst hji; rw [hW] at hk; cases hk
       ·simp [hji]
      simp only [getK_setOb, getK_cons]
      simp only [stX, stW, getK_insL, getK_applyW, hsame, insO_append] at hes ⊢
      by_cases hy : y = e0.1
      ·subst hy
       rw [if_pos rfl, hes]
       simp [insO, obE]
      ·rw [if_neg hy]
       simp [insO, hy]
     ·simp only [stX, stW]
      exact (henv' y (by rw [hd0]; simp)).symm
     ·simp only [Bool.or_eq_false_iff] at hu
      exact hfr j x hj hu.1 hc
    | none =>
    obtain ⟨hpo, hv⟩ := hval i o ho' hNi
    have hloc : ∀ y ∈ R i, getK (stW ops T W s M fun j => decide (j < i)).obs y = getK (stX ops T W s M (fun j => listed.getD j false) L).obs y := fun y hy => by
     rw [hloc0 y (.inl hy)]
     simp only [stX, getK_insL]
     rw [insO_none fun e he => ?_]
     obtain ⟨j, hj, _, hNj⟩ := hLm e he
     exact fun h => (hNR i j e hil hj hNi hNj).1 (h ▸ hy)
    have hLi : ∀ y ∈ keys (W i), ∀ e ∈ L, e.1 ≠ y := fun y hy e he h => by
     obtain ⟨j, hj, hl, hNj⟩ := hLm e he
     have hb := (hNR i j e hil hj hNi hNj).2 (by rw [h]; exact hy)
     have := bef2 j _ (List.getElem?_eq_getElem hj) hb
     rw [hl] at this
     cases this
    have hLp' : L.Perm ((List.range ops.length).filterMap fun j => if (listed.getD j false || j == i) = true then N j else none) := by
     rw [filterMap_skip hNi]
     exact hLp
    -- an operation that changes nothing
    have next : W i = [] → ∀ K' v w', In Γ K' w' → K.le K' → K'.hdr = K.hdr → Sat K' Γ.own (stX ops T W s M (fun j => listed.getD j false) L).obs w' → Rep K' (T i) v →
      wpAny P .any ops.toArray (VPost Γ (RunK P Γ Q kt)) fuel (listed.setIfInBounds i true) (a.put o.dst v) w' := fun hW K' v w' h1 h2 h3 h4 h5 => by
     refine go K' _ w' L h1 ?_ hLp' fun j x hj hu hc => by
      rw [h3]
      simp only [Bool.or_eq_false_iff] at hu
      exact hfr j x hj hu.1 hc
     have hdef : (a.put o.dst v).defers = Γ.own.dfr := by cases o.dst <;> exact hs.defers
     have hsize : (a.put o.dst v).tmps.size = s.n := by
      have hsz2 : a.tmps.size = s.n := hs.size
      cases o.dst <;> simp [Act.put, hsz2]
     refine ⟨h4.eqo fun y => ?_, hdef, hsize, fun x d hx => ?_, fun j hj => by rw [h3]; exact hs.hdr j hj⟩
     ·simp only [stX, stW, getK_insL, getK_applyW]
      rw [wlog_congr W (fun j => listed.getD j false) (fun j => listed.getD j false || j == i) y ops.length fun j hj hk => ?_]
      by_cases hji : j = i
      ·subst hji; rw [hW] at hk; cases hk
      ·simp [hji]
     ·simp only [stX, stW] at hx
      by_cases hdx : o.dst = some x
      ·rw [henv x hdx] at hx
       cases hx
       have hlt : x < s.n := by rw [hdx] at hpo; exact hpo
       refine ⟨hlt, ?_⟩
       have hsz' : a.tmps.size = s.n := hs.size
       rw [hdx]
       simpa [Act.put, hsz', hlt] using h5
      ·rw [henv' x hdx] at hx
       obtain ⟨g1, g2⟩ := hs.env x d hx
       refine ⟨g1, ?_⟩
       have e : (a.put o.dst v).tmps.getD x undef = a.tmps.getD x undef := by
               cases hd : o.dst with
               | none => rfl
               | some y =>
                have hne : y ≠ x := fun e => hdx (by rw [hd, e])
                simp [Act.put, Array.getElem?_setIfInBounds_ne hne]
       rw [e]
       exact g2.mono h2
    unfold wpOp
    rw [ho]
    simp only
    have two : (Region.wanted o (yielded ops.toArray a.tmps) = true ∧ Op1 P (stW ops T W s M fun j => decide (j < i)) o.op o.dst (T i) (W i) (cr i) (R i)) ∨ (Region.wanted o (yielded ops.toArray a.tmps) = false ∧ T i = .un ∧ W i = []) := by
     unfold OpG at hv
     split at hv
     ·rename_i hg
      exact .inl ⟨by simp [Region.wanted, hg], hv⟩
     ·rename_i j want hg
      obtain ⟨t, ht, hv⟩ := hv
      have lift : ∀ dd, getK (stW ops T W s M fun j => decide (j < i)).env t = some dd → getK (stX ops T W s M (fun j => listed.getD j false) L).env t = some dd := fun dd hb => by
       simp only [stX, stW] at hb ⊢
       rw [agree t (by
               refine List.mem_append_right _ ?_
               unfold guardTmp at ht
               simp only [hg]
               rw [ht]
               simp)]
       exact hb
      rcases hv with ⟨b, hb, hv⟩ | ⟨hb, hv⟩
      ·have hb' := lift _ hb
       obtain ⟨hlt, hr⟩ := hs.getK hb'
       have hbv := rep_bool hr
       have hyd : yielded ops.toArray a.tmps j = some b := by
               unfold yielded
               unfold guardTmp at ht
               rw [ht]
               simp only [Option.bind_some]
               have : a.tmps[t]? = some (.bool b) := by
                rw [Array.getElem?_eq_getElem hlt]
                simp [hlt] at hbv
                rw [hbv]
               rw [this]
       by_cases hbw : b = want
       ·rw [if_pos hbw] at hv
        exact .inl ⟨by simp [Region.wanted, hg, hyd, hbw], hv⟩
       ·rw [if_neg hbw] at hv
        exact .inr ⟨by simp [Region.wanted, hg, hyd, hbw], hv.1, hv.2.1⟩
      ·have hb' := lift _ hb
       obtain ⟨hlt, hr⟩ := hs.getK hb'
       have hbv := rep_oth hr
       have hyd : yielded ops.toArray a.tmps j = none := by
               unfold yielded
               unfold guardTmp at ht
               rw [ht]
               simp only [Option.bind_some]
               have : a.tmps[t]? = some undef := by
                rw [Array.getElem?_eq_getElem hlt]
                simp [hlt] at hbv
                rw [hbv]
               rw [this]
               try rfl
       exact .inr ⟨by simp [Region.wanted, hg, hyd], hv.1, hv.2.1⟩
    rcases two with ⟨hw, hv⟩ | ⟨hw, hv⟩
    ·rw [if_pos hw]
     rcases hv with ⟨hv, hW, hcn, hR⟩ | ⟨e, he, hR, hcase⟩
     ·replace hv := valD_loc (s := stW ops T W s M fun j => decide (j < i)) (s' := stX ops T W s M (fun j => listed.getD j false) L) (by rw [← hR]; exact hloc) hopd hv
      exact .inl (valD_run hv hin hs fun K' v w' h1 h2 h3 h4 h5 => next hW K' v w' h1 h2 h3 h4 h5)
     ·
      replace he := effD_loc (s := stW ops T W s M fun j => decide (j < i)) (s' := stX ops T W s M (fun j => listed.getD j false) L) (by rw [← hR]; exact hloc) hopd he
      let un : Nat → Prop := fun y => ∃ j, j < ops.length ∧ (listed.getD j false || j == i) = false ∧ cr j = some y
      let ρ : Nat → Nat := fun y => open Classical in if cr i = some y then M else if un y then M + 1 + y else y
      have hknown : ∀ y h, K.hdr y = some h → ρ y = y ∧ y < M := fun y h hy => by
       have h1 : cr i ≠ some y := fun e => by rw [hfr i y hil hunf e] at hy; cases hy
       have h2 : ¬ un y := fun ⟨j, hj, hu, hc⟩ => by
               simp only [Bool.or_eq_false_iff] at hu
               rw [hfr j y hj hu.1 hc] at hy
               cases hy
       refine ⟨by simp only [ρ]; rw [if_neg h1, if_neg h2], ?_⟩
       rcases Nat.lt_or_ge y M with h | h
       ·exact h
       ·rw [hs.hdr y h] at hy; cases hy
      have hobs : ∀ y ob, getK (stX ops T W s M (fun j => listed.getD j false) L).obs y = some ob → (ρ y = y ∧ y < M) ∧ ob.all (Good ρ M) := fun y ob hy => by
       have hok := hs.sat.ob y ob hy
       obtain ⟨h, h1, _⟩ := hok
       exact ⟨hknown y h h1, (hs.sat.ob y ob hy).good hknown⟩
      have hgood := effD_all (g := Good ρ M) (fun _ => ⟨by simp [D.ren], by simp [D.under]⟩) (fun cs h => h.agg) he (fun x hx => (opd_rep hs x).good hknown) (fun y ob hy => (hobs y ob hy).2)
      obtain ⟨e', he', ⟨rfl, hgU, hgN⟩⟩ := Lin.effD.2 _ hgood
      have he2 : effD P (stX ops T W s M (fun j => listed.getD j false) L) o.op fun e => putOK o.dst (stX ops T W s M (fun j => listed.getD j false) L) ∧ (e.nw = none → o.dst = none) ∧
               ((stX ops T W s M (fun j => listed.getD j false) L).effS e o.dst) = (stX ops T W s M (fun j => listed.getD j false) L).effS e' o.dst :=
       Lin.effD.1 _ _ (fun e hee => by
               subst hee
               refine ⟨hpo, fun hn => ?_, rfl⟩
               rw [hn] at hcase
               exact hcase.1) he
      refine .inl (hstep_effG (k := fun s' => s' = (stX ops T W s M (fun j => listed.getD j false) L).effS e' o.dst) (effD_hstep he2) K a w hin hs _ _ (fun K' a' w' s' h1 h2 h3 => ?_) fun ch K' a' w' s' h1 h2 h3 => .inl ⟨K', s', h1, h2, h3⟩)
      subst h3
      have hle : St.Le Γ.n0 ρ ((stX ops T W s M (fun j => listed.getD j false) L).effS e' o.dst) (stX ops T W s M (fun j => listed.getD j false || j == i) L) := by
       have hWi : ∀ y, y ∈ keys (W i) → getK (wlog W (fun j => listed.getD j false || j == i) ops.length) y = getK (W i) y := fun y hy =>
               wlog_put W _ i y hy ops.length hil fun j hj hlt hk => hlast y hy j hj hlt hk
       have hWn : ∀ y, y ∉ keys (W i) → getK (wlog W (fun j => listed.getD j false || j == i) ops.length) y = getK (wlog W (fun j => listed.getD j false) ops.length) y := fun y hy =>
               wlog_congr W _ _ y ops.length fun j hj hk => by
                by_cases hji : j = i
                ·subst hji; exact absurd hk hy
                ·simp [hji]
       have hinj : ∀ y1 y2, y1 < M → y2 < M → ρ y1 = ρ y2 → y1 = y2 := fun y1 y2 g1 g2 hr => by
               simp only [ρ] at hr
               by_cases c1 : cr i = some y1 <;> by_cases c2 : cr i = some y2
               ·rw [c1] at c2; cases c2; rfl
               ·rw [if_pos c1, if_neg c2] at hr
                split at hr <;> omega
               ·rw [if_neg c1, if_pos c2] at hr
                split at hr <;> omega
               ·rw [if_neg c1, if_neg c2] at hr
                split at hr <;> split at hr <;> omega
       have hobs2 : ∀ y ob', getK (stX ops T W s M (fun j => listed.getD j false || j == i) L).obs y = some ob' → y < M ∧
                ∃ ob, getK ((stX ops T W s M (fun j => listed.getD j false) L).effS e' o.dst).obs (ρ y) = some ob ∧ Ob.le ρ ob ob' ∧ ob'.under M = true := fun y ob' hy => by
               simp only [stX, stW, getK_insL, getK_applyW] at hy
               cases hn : e'.nw with
               | none =>
                rw [hn] at hcase
                obtain ⟨hd0, hWU, hcn⟩ := hcase
                have hob : ∀ z, getK ((stX ops T W s M (fun j => listed.getD j false) L).effS e' o.dst).obs z = match getK (W i) z with | some x => x | none => getK (stX ops T W s M (fun j => listed.getD j false) L).obs z := fun z => by
                 simp only [St.effS, hn, getK_applyW, hWU]
                 try rfl
                by_cases hk : y ∈ keys (W i)
                ·rw [hWi y hk, insO_none (hLi y hk)] at hy
                 obtain ⟨x, hx⟩ := getK_isKey (W i) y hk
                 rw [hx] at hy
                 simp only at hy
                 subst hy
                 have hmem : (y, some ob') ∈ e'.U := by
                  rw [← hWU]
                  have : ∀ (l : Wr), getK l y = some (some ob') → (y, some ob') ∈ l := by
                   intro l
                   induction l with
                   | nil => intro h; cases h
                   | cons p l ih =>
                    obtain ⟨k', d'⟩ := p
                    intro h
                    rw [getK_cons] at h
                    by_cases hyk : y = k'
                    ·rw [if_pos hyk] at h; cases h; subst hyk; simp
                    ·rw [if_neg hyk] at h; exact List.mem_cons_of_mem _ (ih h)
                  exact this _ hx
                 obtain ⟨hga, o0, ho0⟩ := hgU _ hmem ob' rfl
                 obtain ⟨⟨hr, hlt⟩, _⟩ := hobs y o0 ho0
                 refine ⟨hlt, ob', ?_, (Ob.all_le hga).1, (Ob.all_le hga).2⟩
                 rw [hr, hob, hx]
                ·rw [hWn y hk] at hy
                 obtain ⟨⟨hr, hlt⟩, hga⟩ := hobs y ob' (by simp only [stX, stW, getK_insL, getK_applyW]; exact hy)
                 refine ⟨hlt, ob', ?_, (Ob.all_le hga).1, (Ob.all_le hga).2⟩
                 rw [hr, hob, getK_keys (W i) y hk]
                 simp only [stX, stW, getK_insL, getK_applyW]
                 exact hy
               | some nb =>
                rw [hn] at hcase
                obtain ⟨x0, hcx, hWU, hTi⟩ := hcase
                have hx0 := hcr i x0 hcx
                have hob : ∀ z, z ≠ M → getK ((stX ops T W s M (fun j => listed.getD j false) L).effS e' o.dst).obs z = match getK e'.U z with | some x => x | none => getK (stX ops T W s M (fun j => listed.getD j false) L).obs z := fun z hz => by
                 have : ∀ (q : St) (d : D), (q.put o.dst d).obs = q.obs := fun q d => by cases o.dst <;> rfl
                 simp only [St.effS, hn, this, getK_cons]
                 rw [if_neg (by simpa [stX, stW] using hz), getK_applyW]
                 try rfl
                have hobM : getK ((stX ops T W s M (fun j => listed.getD j false) L).effS e' o.dst).obs M = some nb := by
                 have : ∀ (q : St) (d : D), (q.put o.dst d).obs = q.obs := fun q d => by cases o.dst <;> rfl
                 simp only [St.effS, hn, this, getK_cons]
                 rw [if_pos (by simp [stX, stW])]
                by_cases hyx : y = x0
                ·subst hyx
                 have hk : y ∈ keys (W i) := by rw [hWU]; simp [keys]
                 rw [insO_none (hLi y hk), hWi y hk, hWU, getK_cons, if_pos rfl] at hy
                 simp only at hy
                 cases hy
                 have hga := hgN ob' hn
                 refine ⟨hx0.2, ob', ?_, (Ob.all_le hga).1, (Ob.all_le hga).2⟩
                 simp only [ρ]
                 rw [if_pos hcx]
                 exact hobM
                ·by_cases hk : y ∈ keys (W i)
                 ·rw [insO_none (hLi y hk), hWi y hk, hWU, getK_cons, if_neg hyx] at hy
                  have hk' : y ∈ e'.U.map (·.1) := by
                   rw [hWU] at hk
                   simp only [keys, List.map_cons, List.mem_cons] at hk
                   exact hk.resolve_left hyx
                  obtain ⟨x, hx⟩ := getK_isKey e'.U y hk'
                  rw [hx] at hy
                  simp only at hy
                  subst hy
                  have hmem : (y, some ob') ∈ e'.U := by
                   have : ∀ (l : Wr), getK l y = some (some ob') → (y, some ob') ∈ l := by
                    intro l
                    induction l with
                    | nil => intro h; cases h
                    | cons p l ih =>
                     obtain ⟨k', d'⟩ := p
                     intro h
                     rw [getK_cons] at h
                     by_cases hyk : y = k'
                     ·rw [if_pos hyk] at h; cases h; subst hyk; simp
                     ·rw [if_neg hyk] at h; exact List.mem_cons_of_mem _ (ih h)
                   exact this _ hx
                  obtain ⟨hga, o0, ho0⟩ := hgU _ hmem ob' rfl
                  obtain ⟨⟨hr, hlt⟩, _⟩ := hobs y o0 ho0
                  refine ⟨hlt, ob', ?_, (Ob.all_le hga).1, (Ob.all_le hga).2⟩
                  rw [hr, hob y (by omega), hx]
                 ·rw [hWn y hk] at hy
                  obtain ⟨⟨hr, hlt⟩, hga⟩ := hobs y ob' (by simp only [stX, stW, getK_insL, getK_applyW]; exact hy)
                  refine ⟨hlt, ob', ?_, (Ob.all_le hga).1, (Ob.all_le hga).2⟩
                  have hk' : y ∉ e'.U.map (·.1) := by
                   rw [hWU] at hk
                   simp only [keys, List.map_cons, List.mem_cons, not_or] at hk
                   exact hk.2
                  rw [hr, hob y (by omega), getK_keys e'.U y hk']
                  simp only [stX, stW, getK_insL, getK_applyW]
                  exact hy
       have henv2 : ∀ x d', getK (stX ops T W s M (fun j => listed.getD j false || j == i) L).env x = some d' →
                (D.le ρ (((stX ops T W s M (fun j => listed.getD j false) L).effS e' o.dst).at x) d' ∧ d'.under M = true) ∧ x < s.n := fun x d' hx => by
               simp only [stX, stW] at hx
               by_cases hdx : o.dst = some x
               ·rw [henv x hdx] at hx
                cases hx
                have hlt : x < s.n := by rw [hdx] at hpo; exact hpo
                cases hn : e'.nw with
                | none =>
                 rw [hn] at hcase
                 rw [hcase.1] at hdx
                 cases hdx
                | some nb =>
                 rw [hn] at hcase
                 obtain ⟨x0, hcx, hWU, hTi⟩ := hcase
                 have hx0 := hcr i x0 hcx
                 have hρ : ρ x0 = M := by simp only [ρ]; rw [if_pos hcx]
                 refine ⟨⟨.inr (.inl ?_), ?_⟩, hlt⟩
                 ·rw [hTi]
                  simp only [St.effS, hn, hdx, St.put, St.at, getK_cons, if_true, Option.getD_some]
                  cases e'.how <;> simp [mkD, D.ren, hρ, stX, stW]
                 ·rw [hTi]
                  cases e'.how <;> simp [mkD, D.under, hx0.2]
               ·rw [henv' x hdx] at hx
                obtain ⟨g1, g2⟩ := hs.env x d' hx
                have hgd := g2.good hknown
                have hat : ((stX ops T W s M (fun j => listed.getD j false) L).effS e' o.dst).at x = d' := by
                 have : ∀ (q : St) (d : D), getK (q.put o.dst d).env x = getK q.env x := fun q d => by
                  cases hd : o.dst with
                  | none => rfl
                  | some y =>
                   have hne : ¬ x = y := fun e => hdx (by rw [hd, e])
                   simp only [St.put, getK_cons, if_neg hne]
                 simp only [St.at, St.effS]
                 cases hn : e'.nw with
                 | none => simp only [stX, stW, hx]; rfl
                 | some nb => simp only [this, stX, stW, hx]; rfl
                rw [hat]
                exact ⟨⟨.inr (.inl hgd.1.symm), hgd.2⟩, g1⟩
       refine ⟨?_, fun x d' hx => (henv2 x d' hx).1, fun x d' hx => ?_, hobs2, fun y1 y2 o1 o2 g1 g2 hr => hinj y1 y2 (hobs2 y1 o1 g1).1 (hobs2 y2 o2 g2).1 hr, fun j hj => ?_⟩
       ·have : ∀ (q : St) (d : D), (q.put o.dst d).n = q.n := fun q d => by cases o.dst <;> rfl
        simp only [St.effS]
        cases e'.nw <;> simp only [this] <;> rfl
       ·have : ∀ (q : St) (d : D), (q.put o.dst d).n = q.n := fun q d => by cases o.dst <;> rfl
        have e2 : ((stX ops T W s M (fun j => listed.getD j false) L).effS e' o.dst).n = s.n := by
         simp only [St.effS]
         cases e'.nw <;> simp only [this] <;> rfl
        rw [e2]
        exact (henv2 x d' hx).2
       ·have c1 : cr i ≠ some j := fun e => by have := (hcr i j e).1; omega
        have c2 : ¬ un j := fun ⟨q, _, _, hc⟩ => by have := (hcr q j hc).1; omega
        refine ⟨by simp only [ρ]; rw [if_neg c1, if_neg c2], ?_⟩
        show j < M
        omega
      obtain ⟨g1, g2⟩ := Sim.weak h1 h2 hle
      refine go _ a' w' L g1 g2 hLp' fun j x hj hu hc => ?_
      simp only [Kr.ren]
      split
      ·have c1 : cr i ≠ some x := fun e => by
               have := hcr1 i j x e hc
               subst this
               simp at hu
       have c2 : un x := ⟨j, hj, hu, hc⟩
       simp only [ρ]
       rw [if_neg c1, if_pos c2]
       refine h2.hdr _ ?_
       have : ∀ (q : St) (d : D), (q.put o.dst d).next = q.next := fun q d => by cases o.dst <;> rfl
       simp only [St.effS]
       cases e'.nw <;> simp only [this, stX, stW] <;> omega
      ·rfl
    ·rw [if_neg (by rw [hw]; simp)]
     exact next hv.2 K undef w hin (.refl _) rfl hs.sat (by rw [hv.1]; exact .u _ _ (.oth _))
 have h0 : (fun j => (Array.replicate ops.toArray.size false).getD j false) = fun _ => false := funext fun j => by
  by_cases hj : j < ops.length <;> simp [hj]
 refine key _ _ [] K a w0 (by simp) (by simp) (fun j y hj hS => ?_) hin0 ?_ ?_ fun j x _ _ hc => hs.hdr x (hcr j x hc).1
 ·have : (Array.replicate ops.toArray.size false).getD j false = false := congrFun h0 j
  rw [this] at hS
  cases hS
 ·rw [h0]
  have none : ∀ (l : List Oper) (i : Nat) (e : List (Nat × D)), envF T (fun _ => false) l i e = e := by
   intro l
   induction l with
   | nil => intro i e; rfl
   | cons o l ih => intro i e; simp [envF, ih]
  have wn : ∀ m, wlog W (fun _ => false) m = [] := by
   intro m
   induction m with
   | zero => rfl
   | succ m ih => simp [wlog, ih]
  refine ⟨hs0.sat.eqo fun y => ?_, hs0.defers, hs0.size, fun x d hx => hs0.env x d ?_, fun y hy => hs0.hdr y (Nat.le_trans hM hy)⟩
  ·simp only [stX, stW, wn, insL]; rfl
  ·simp only [stX, stW, none] at hx; exact hx
 ·have : ((List.range ops.length).filterMap fun j => if (Array.replicate ops.toArray.size false).getD j false = true then N j else none) = [] := by
   rw [List.filterMap_eq_nil_iff]
   intro j _
   rw [congrFun h0 j]
   simp
  rw [this]
end Go.VL
namespace Go.VL
open Go
def tN (N : Nat → Option InsE) (n : Nat) : List (Option InsE) := (List.range n).map N
abbrev Ent.no : Ent := (.un, [], none, [])
def Op3 (P : Program) (s : St) (o : O1) (e : Ent) : Option InsE → Prop
 | none => putOK o.dst s ∧ Op2 P s o e
 | some q => e = Ent.no ∧ o.guard = none ∧ o.dst = none ∧ InsOK P s o.op q
def chain3 (P : Program) : List O1 → St → Fp → List (Option InsE) → (St → Fp → List (Option InsE) → Prop) → Prop
 | [], s, fp, ins, k => k s fp ins
 | o :: rest, s, fp, ins, k => ∃ (e : Ent) (q : Option InsE), Op3 P s o e q ∧ (∀ x, e.2.2.1 = some x → x = s.next) ∧ chain3 P rest (s.app o.dst e) (fp ++ [(e.2.2.2, keys e.2.1)]) (ins ++ [q]) k
def St.ins (s : St) (ins : List (Option InsE)) : St := { s with obs := insL (ins.filterMap id) s.obs }
def HD3 (P : Program) (l : List O1) (s : St) (fp : Fp) (ins : List (Option InsE)) (C : Fp → List (Option InsE) → Prop) (k : St → Prop) : Prop :=
 ∀ s0 : St, s0.Eqo s → chain3 P l s0 fp ins fun s1 fp ins => C fp ins ∧ ∃ s', (s1.ins ins).Eqo s' ∧ k s'
theorem St.Eqo.ins {s s' : St} (h : s.Eqo s') (L : List (Option InsE)) : (s.ins L).Eqo (s'.ins L) :=
 ⟨h.1, fun x => by simp only [St.ins, getK_insL, h.2.1 x], h.2.2.1, h.2.2.2⟩
theorem InsOK.eqo {P : Program} {s s' : St} {op : Op} {q : InsE} (e : s'.Eqo s) (h : InsOK P s op q) : InsOK P s' op q := by
 obtain ⟨t, x, ki, v, kk, ag, z, ku, h1, h2, h3, h4, h5, h6, h7, h8⟩ := h
 have ho : ∀ x, opd s' x = opd s x := fun x => by cases x <;> simp [opd, St.at, e.2.2.2]
 exact ⟨t, x, ki, v, kk, ag, z, ku, h1, h2, by rw [ho]; exact h3, by rw [ho]; exact h4, h5, h6, by rw [ho]; exact h7, by rw [e.2.1]; exact h8⟩
theorem HD3_nil {P s fp ins C k} (hC : C fp ins) (h : k (s.ins ins)) : HD3 P [] s fp ins C k := fun _ e => ⟨hC, s.ins ins, e.ins ins, h⟩
theorem HD3_ins {P s op rest fp ins C k} {q : InsE} (hq : InsOK P s op q) (h : HD3 P rest s (fp ++ [([], [])]) (ins ++ [some q]) C k) : HD3 P (⟨none, op, none⟩ :: rest) s fp ins C k := fun s0 e =>
 ⟨Ent.no, some q, ⟨rfl, rfl, rfl, hq.eqo e⟩, fun x hx => (by cases hx), h _ (show (s0.app none Ent.no).Eqo s by simpa [St.app, St.put, applyW] using e)⟩
theorem HD3_cons {P s dst op rest fp ins C k} (h : valD P s op fun d => putOK dst s ∧ HD3 P rest (s.put dst d) (fp ++ [(rdIds s op, [])]) (ins ++ [none]) C k) : HD3 P (⟨dst, op, none⟩ :: rest) s fp ins C k := fun s0 e => by
 obtain ⟨d, hv, hp, hr⟩ := Lin.valD.2 _ h
 refine ⟨(d, [], none, rdIds s op), none, ⟨by cases dst <;> simp_all [putOK, e.1], .inl ⟨?_, rfl, rfl, (rdIds_eqo e op).symm⟩⟩, fun x hx => (by cases hx), ?_⟩
 ·rw [valD_eqo e]; exact hv
 ·exact hr _ (e.put dst d)
theorem HD3_eff {P s dst op rest fp ins C k} (h : effD P s op fun e => putOK dst s ∧ (e.nw = none → dst = none) ∧
  HD3 P rest (s.effS e dst) (fp ++ [(rdIds s op, match e.nw with | none => e.U.map (·.1) | some _ => s.next :: e.U.map (·.1))]) (ins ++ [none]) C k) : HD3 P (⟨dst, op, none⟩ :: rest) s fp ins C k := by
 intro s0 e0
 obtain ⟨e, hv, hp, hd, hr⟩ := Lin.effD.2 _ h
 have h2 : HD2 P (⟨dst, op, none⟩ :: []) s fp (fun _ => True) (fun _ => True) := HD2_eff (Lin.effD.1 _ _ (fun e' he => by subst he; exact ⟨hp, hd, HD2_nil trivial trivial⟩) hv)
 have hp0 : putOK dst s0 := by cases dst <;> simp_all [putOK, e0.1]
 have hv0 : effD P s0 op (· = e) := by rw [effD_eqo e0]; exact hv
 cases hn : e.nw with
 | none =>
  rw [hn] at hr
  obtain rfl := hd hn
  refine ⟨(.un, e.U, none, rdIds s op), none, ⟨hp0, .inr ⟨e, hv0, (rdIds_eqo e0 op).symm, ?_⟩⟩, fun x hx => (by cases hx), ?_⟩
  ·rw [hn]; exact ⟨rfl, rfl, rfl⟩
  ·have : (s0.app none (.un, e.U, none, rdIds s op)).Eqo (s.effS e none) := by
    refine ⟨?_, fun x => ?_, ?_, fun x => ?_⟩
    ·simp only [St.app, St.effS, hn, St.put, e0.1]
    ·simp only [St.app, St.effS, hn, St.put, getK_applyW, e0.2.1]
    ·simp only [St.app, St.effS, hn, St.put, e0.2.2.1]; simp
    ·simp only [St.app, St.effS, hn, St.put, e0.2.2.2]
   exact hr _ this
 | some ob =>
  rw [hn] at hr
  refine ⟨(mkD e.how s0.next, (s0.next, some ob) :: e.U, some s0.next, rdIds s op), none, ⟨hp0, .inr ⟨e, hv0, (rdIds_eqo e0 op).symm, ?_⟩⟩, fun x hx => (by cases hx; rfl), ?_⟩
  ·rw [hn]; exact ⟨s0.next, rfl, rfl, rfl⟩
  ·have hobs : ∀ (q : St) (d : D), (q.put dst d).obs = q.obs := fun q d => by cases dst <;> rfl
   have hnx : ∀ (q : St) (d : D), (q.put dst d).next = q.next := fun q d => by cases dst <;> rfl
   have hnn : ∀ (q : St) (d : D), (q.put dst d).n = q.n := fun q d => by cases dst <;> rfl
   have henv : ∀ (q q' : St) (d : D), (∀ x, getK q.env x = getK q'.env x) → ∀ x, getK (q.put dst d).env x = getK (q'.put dst d).env x := fun q q' d hq x => by
    cases dst with
    | none => exact hq x
    | some y => simp only [St.put, getK_cons, hq x]
   have : (s0.app dst (mkD e.how s0.next, (s0.next, some ob) :: e.U, some s0.next, rdIds s op)).Eqo (s.effS e dst) := by
    refine ⟨?_, fun x => ?_, ?_, fun x => ?_⟩
    ·simp only [St.app, St.effS, hn, hnn, e0.1]
    ·simp only [St.app, St.effS, hn, hobs, getK_cons, getK_applyW, e0.2.1, e0.2.2.1]
     by_cases hx : x = s.next <;> simp [hx]
    ·simp only [St.app, St.effS, hn, hnx, e0.2.2.1]; rfl
    ·simp only [St.app, St.effS, hn, e0.2.2.1]
     refine henv _ _ _ ?_ x
     intro x
     exact e0.2.2.2 x
   have hk : keys ((s0.next, some ob) :: e.U) = s.next :: e.U.map (·.1) := by simp [keys, e0.2.2.1]
   rw [hk]
   exact hr _ this
def isIns : Op → Bool
 | .mapUpdate .. | .insert .. => true
 | _ => false
theorem tN_congr {N N' : Nat → Option InsE} {i : Nat} (h : ∀ j, j < i → N j = N' j) : tN N i = tN N' i :=
 List.map_congr_left fun j hj => h j (List.mem_range.1 hj)
theorem chain3_T {P : Program} {all : Array Oper} {s0 : St} {ops : List Oper} {k : St → Fp → List (Option InsE) → Prop} : ∀ (l : List O1) (tail : List Oper) (i : Nat) (E : Nat → Ent) (N : Nat → Option InsE), stripL all tail = some l → (∀ j, tail[j]? = ops[i + j]?) →
  chain3 P l (stE ops s0 E i) (tF E i) (tN N i) k → ∃ (E' : Nat → Ent) (N' : Nat → Option InsE), (∀ j, j < i → E' j = E j ∧ N' j = N j) ∧
   (∀ j o, i ≤ j → ops[j]? = some o → (N' j = none → putOK o.dst s0 ∧ OpG P all (stE ops s0 E' j) o (tT E' j) (tW E' j) (tC E' j) (tR E' j)) ∧ (∀ e, N' j = some e → E' j = Ent.no ∧ o.guard = none ∧ o.dst = none ∧ InsOK P (stE ops s0 E' j) o.op e) ∧ ∀ x, tC E' j = some x → x = s0.next + cnt E' j) ∧
   k (stE ops s0 E' (i + tail.length)) (tF E' (i + tail.length)) (tN N' (i + tail.length))
 | [], tail, i, E, N, hs, ht, h => by
  cases tail with
  | nil => exact ⟨E, N, fun _ _ => ⟨rfl, rfl⟩, fun j o hj ho => by have := ht (j - i); rw [show i + (j - i) = j by omega, ho] at this; simp at this, by simpa [chain3] using h⟩
  | cons x l => simp only [stripL] at hs; split at hs <;> simp at hs
 | o1 :: l, tail, i, E, N, hs, ht, h => by
  obtain ⟨x, tl, rfl, hx, hr⟩ := stripL_cons hs
  obtain ⟨e, q, hv, hnx, hc⟩ := h
  have hxi : ops[i]? = some x := by have := ht 0; simpa using this.symm
  have hdst : o1.dst = x.dst := by
   unfold strip at hx
   split at hx
   ·simp at hx; subst hx; rfl
   ·split at hx
    ·simp at hx; subst hx; rfl
    ·cases hx
  let E1 : Nat → Ent := fun j => if j = i then e else E j
  let N1 : Nat → Option InsE := fun j => if j = i then q else N j
  have h1 : ∀ j, j < i → E j = E1 j := fun j hj => by simp only [E1]; rw [if_neg (by omega)]
  have n1 : ∀ j, j < i → N j = N1 j := fun j hj => by simp only [N1]; rw [if_neg (by omega)]
  have hi : E1 i = e := by simp [E1]
  have ni : N1 i = q := by simp [N1]
  have hstep : (stE ops s0 E i).app o1.dst e = stE ops s0 E1 (i + 1) := by
   rw [stE_congr h1, hdst]
   simp only [stE, St.app]
   rw [envF_step (tT E1) i ops 0 s0.env x (Nat.zero_le _) (by simpa using hxi)]
   have hw : wlog (tW E1) (fun _ => true) (i + 1) = e.2.1 ++ wlog (tW E1) (fun _ => true) i := by
    rw [wlog, if_pos rfl, show tW E1 i = e.2.1 by simp only [tW, hi]]
   have hcn : cnt E1 (i + 1) = cnt E1 i + if e.2.2.1.isSome then 1 else 0 := by
    rw [cnt, show tC E1 i = e.2.2.1 by simp only [tC, hi]]
   rw [hw, applyW_append, hcn]
   have hT : tT E1 i = e.1 := by simp only [tT, hi]
   cases x.dst with
   | none => simp only [St.put, Nat.add_assoc]
   | some y => simp only [St.put, hT, Nat.add_assoc]
  have hfp : tF E i ++ [(e.2.2.2, keys e.2.1)] = tF E1 (i + 1) := by
   rw [tF_congr h1]
   simp only [tF, List.range_succ, List.map_append, List.map_cons, List.map_nil]
   rw [show tR E1 i = e.2.2.2 by simp only [tR, hi], show tW E1 i = e.2.1 by simp only [tW, hi]]
  have hin : tN N i ++ [q] = tN N1 (i + 1) := by
   rw [tN_congr n1]
   simp only [tN, List.range_succ, List.map_append, List.map_cons, List.map_nil, ni]
  rw [hstep, hfp, hin] at hc
  obtain ⟨E', N', g1, g2, g3⟩ := chain3_T l tl (i + 1) E1 N1 hr (fun j => by have := ht (j + 1); rw [show i + 1 + j = i + (j + 1) by omega, ← this]; simp) hc
  refine ⟨E', N', fun j hj => ⟨by rw [(g1 j (by omega)).1, h1 j hj], by rw [(g1 j (by omega)).2, n1 j hj]⟩, fun j o hj ho => ?_, ?_⟩
  ·rcases Nat.lt_or_ge i j with h' | h'
   ·exact g2 j o h' ho
   ·obtain rfl : i = j := by omega
    rw [hxi] at ho
    cases ho
    have hEi : E' i = e := by rw [(g1 i (by omega)).1, hi]
    have hNi : N' i = q := by rw [(g1 i (by omega)).2, ni]
    have hst : stE ops s0 E' i = stE ops s0 E i := stE_congr fun j hj => by rw [(g1 j (by omega)).1, ← h1 j hj]
    refine ⟨fun hN => ?_, fun e' hN => ?_, fun y hy => ?_⟩
    ·rw [hNi] at hN
     subst hN
     obtain ⟨hp, hv⟩ := hv
     refine ⟨by rw [hdst] at hp; exact hp, ?_⟩
     rw [hst]
     simp only [tT, tW, tC, tR, hEi]
     unfold strip at hx
     unfold OpG
     unfold Op2 at hv
     split at hx
     ·rename_i hg
      simp at hx
      subst hx
      try rw [hg]
      exact hv
     ·rename_i q want hg
      split at hx
      ·rename_i t ht'
       simp at hx
       subst hx
       try rw [hg]
       exact ⟨t, ht', hv⟩
      ·cases hx
    ·rw [hNi] at hN
     subst hN
     obtain ⟨rfl, hg, hd, hok⟩ := hv
     rw [hst]
     unfold strip at hx
     split at hx
     ·rename_i hg'
      simp at hx
      subst hx
      exact ⟨hEi, hg', hd, hok⟩
     ·split at hx
      ·simp at hx; subst hx; cases hg
      ·cases hx
    ·have : tC E' i = e.2.2.1 := by simp only [tC, hEi]
     rw [this] at hy
     have := hnx y hy
     rw [this, cnt_congr E' E i fun j hj => by rw [(g1 j (by omega)).1, ← h1 j hj]]
     try rfl
  ·rw [show i + (x :: tl).length = i + 1 + tl.length by simp; omega]
   exact g3
/-- Maps that are filled are touched by nothing else, but by what comes ahead; keys are put once. -/
def okI (ops : List Oper) (fp : Fp) (ins : List (Option InsE)) : Bool :=
 (List.range ops.length).all fun j => match ins.getD j none with
   | none => true
   | some e => (List.range ops.length).all fun i => match ins.getD i none with
    | none => !(fp.getD i ([], [])).1.contains e.1 && (!(fp.getD i ([], [])).2.contains e.1 || befB ops ops.length i j)
    | some e' => i == j || !(e'.1 == e.1) || !decide (e'.2.1 = e.2.1)
theorem V_draw3N {P Γ s} {Q : Exit → St → Prop} {kt : Kt} {id : Nat} {l : List Oper} (hm : P.follows .mixedOrders = true) (hord : ordOK l = true) (hn0 : Γ.n0 ≤ s.next)
  (h : ∀ (C : Fp → List (Option InsE) → Prop) (k : St → Prop), (∀ fp ins, okP l fp = true → okI l fp ins = true → C fp ins) → (∀ s', RunK P Γ Q kt .normal s' → k s') → match stripL l.toArray l with | some l' => HD3 P l' s [] [] C k | none => False) :
  V P Γ (.region id l.toArray true) s (RunK P Γ Q kt) := by
 have := h (fun fp ins => okP l fp = true ∧ okI l fp ins = true) _ (fun _ _ h g => ⟨h, g⟩) fun _ h => h
 split at this
 ·rename_i l' hl
  have h0 : stE l s (fun _ => default) 0 = s := by
   have hnone : ∀ (l : List Oper) (i : Nat) (e : List (Nat × D)), envF (tT fun _ => default) (fun j => decide (j < 0)) l i e = e := by
    intro l
    induction l with
    | nil => intro i e; rfl
    | cons o l ih => intro i e; exact ih (i + 1) e
   simp only [stE, hnone]
   try rfl
  have hc := this s (.refl s)
  rw [← h0] at hc
  obtain ⟨E, N, _, h2, ⟨hok, hoi⟩, s', h3, h4⟩ := chain3_T l' l 0 (fun _ => default) (fun _ => none) hl (fun j => by rw [Nat.zero_add]) hc
  rw [Nat.zero_add] at hok hoi h3
  have hlen : ∀ i, i < l.length → (tF E l.length).getD i ([], []) = (tR E i, keys (tW E i)) := fun i hi => by
   simp [tF, hi]
  have hlenN : ∀ i, i < l.length → (tN N l.length).getD i none = N i := fun i hi => by
   simp [tN, hi]
  have mono : ∀ i j, i ≤ j → cnt E i ≤ cnt E j := fun i j hij => by
   induction hij with
   | refl => exact Nat.le_refl _
   | step _ ih => simp only [cnt]; omega
  have hcr : ∀ i x, i < l.length → tC E i = some x → x = s.next + cnt E i ∧ cnt E (i + 1) = cnt E i + 1 := fun i x hi hx => by
   have := (h2 i _ (Nat.zero_le _) (List.getElem?_eq_getElem hi)).2.2 x hx
   exact ⟨this, by simp only [cnt, hx]; rfl⟩
  let cr : Nat → Option Nat := fun i => if i < l.length then tC E i else none
  have hN' : ∀ i e, (if i < l.length then N i else none) = some e → i < l.length ∧ N i = some e := fun i e hh => by
   split at hh
   ·rename_i hi; exact ⟨hi, hh⟩
   ·cases hh
  have hst : ∀ i, i < l.length → stW l (tT E) (tW E) s (s.next + cnt E l.length) (fun j => decide (j < i)) = { stE l s E i with next := s.next + cnt E l.length } := fun i hi => by
   simp only [stW, stE]
   rw [wlog_take (tW E) i l.length (by omega)]
  refine V_draw2N (T := tT E) (W := tW E) (cr := cr) (R := tR E) (N := fun i => if i < l.length then N i else none) (M := s.next + cnt E l.length) hm hord hn0 (by omega) (fun i x hx => ?_) (fun i j x hi hj => ?_) (fun i j hij hj hb => ?_) (fun i o e ho he => ?_) (fun i j e hi hj hni hnj => ?_) (fun i j e e' hij hni hnj hid => ?_) (fun i o ho hni => ?_) ⟨s', ?_, h4⟩
  ·simp only [cr] at hx
   split at hx
   ·rename_i hi
    obtain ⟨e1, e2⟩ := hcr i x hi hx
    have := mono (i + 1) l.length hi
    omega
   ·cases hx
  ·simp only [cr] at hi hj
   split at hi
   ·rename_i hil
    split at hj
    ·rename_i hjl
     obtain ⟨e1, e2⟩ := hcr i x hil hi
     obtain ⟨e3, e4⟩ := hcr j x hjl hj
     rcases Nat.lt_trichotomy i j with hlt | hlt | hlt
     ·have := mono (i + 1) j hlt
      omega
     ·exact hlt
     ·have := mono (j + 1) i hlt
      omega
    ·cases hj
   ·cases hi
  ·have := (List.all_eq_true.1 ((List.all_eq_true.1 hok) j (List.mem_range.2 hj))) i (List.mem_range.2 hij)
   rw [hb, hlen i (by omega), hlen j hj] at this
   simp only [Bool.false_or, Bool.and_eq_true] at this
   refine ⟨fun y hy => ?_, fun y hy => disjB_out this.2 y hy⟩
   have := disjB_out this.1 y hy
   rw [List.mem_append, not_or] at this
   exact this
  ·have hi := (List.getElem?_eq_some_iff.1 ho).1
   obtain ⟨_, he⟩ := hN' i e he
   obtain ⟨g1, g2, g3, g4⟩ := (h2 i o (Nat.zero_le _) ho).2.1 e he
   refine ⟨by simp only [tW, g1], by simp only [cr, tC, g1]; simp, g2, g3, ?_⟩
   rw [hst i hi]
   exact g4
  ·simp only [if_pos hi] at hni
   obtain ⟨_, hnj⟩ := hN' j e hnj
   have := (List.all_eq_true.1 hoi) j (List.mem_range.2 hj)
   rw [hlenN j hj, hnj] at this
   have := (List.all_eq_true.1 this) i (List.mem_range.2 hi)
   rw [hlenN i hi, hni, hlen i hi] at this
   simp only [Bool.and_eq_true, Bool.not_eq_true', Bool.or_eq_true] at this
   refine ⟨fun h => ?_, fun h => ?_⟩
   ·have h1 := this.1
    simp [h] at h1
   ·rcases this.2 with h1 | h1
    ·simp [h] at h1
    ·exact h1
  ·obtain ⟨hi, hni⟩ := hN' i e hni
   obtain ⟨hj, hnj⟩ := hN' j e' hnj
   have := (List.all_eq_true.1 hoi) j (List.mem_range.2 hj)
   rw [hlenN j hj, hnj] at this
   have := (List.all_eq_true.1 this) i (List.mem_range.2 hi)
   rw [hlenN i hi, hni] at this
   simp only [Bool.or_eq_true, beq_iff_eq, Bool.not_eq_true', decide_eq_false_iff_not] at this
   rcases this with (h1 | h1) | h1
   ·exact absurd h1 hij
   ·simp [hid] at h1
   ·exact h1
  ·have hi := (List.getElem?_eq_some_iff.1 ho).1
   simp only [if_pos hi] at hni
   obtain ⟨g1, g2⟩ := (h2 i o (Nat.zero_le _) ho).1 hni
   refine ⟨g1, ?_⟩
   have hcri : cr i = tC E i := by simp only [cr]; rw [if_pos hi]
   rw [hst i hi, hcri]
   have eqo : ∀ (op : Op) (r : D → Prop), valD P { stE l s E i with next := s.next + cnt E l.length } op r = valD P (stE l s E i) op r := fun op r => valD_congr rfl fun x _ => by cases x <;> rfl
   have ero : ∀ (op : Op), rdIds { stE l s E i with next := s.next + cnt E l.length } op = rdIds (stE l s E i) op := fun op => by
    have e : opd { stE l s E i with next := s.next + cnt E l.length } = opd (stE l s E i) := funext fun x => by cases x <;> rfl
    unfold rdIds lentIds argsV
    rw [e]
   have efo : ∀ (op : Op) (r : ERes → Prop), effD P { stE l s E i with next := s.next + cnt E l.length } op r = effD P (stE l s E i) op r := fun op r =>
    propext ⟨effD_loc (fun _ _ => rfl) fun x _ => by cases x <;> rfl, effD_loc (fun _ _ => rfl) fun x _ => by cases x <;> rfl⟩
   unfold OpG at g2 ⊢
   unfold Op1 at g2 ⊢
   simp only [eqo, ero, efo]
   exact g2
  ·have hfm : ((List.range l.length).filterMap fun i => if i < l.length then N i else none) = (tN N l.length).filterMap _root_.id := by
    rw [tN, List.filterMap_map]
    exact fm_congr fun j hj => by rw [if_pos (List.mem_range.1 hj)]; rfl
   rw [hfm]
   refine St.Eqo.trans (b := (stE l s E l.length).ins (tN N l.length)) ⟨rfl, fun x => ?_, rfl, fun x => ?_⟩ h3
   ·simp only [stX, stW, stE, St.ins]
   ·simp only [stX, stW, stE, St.ins]
    exact envF_congr (tT E) _ _ x l 0 s.env s.env rfl fun j o hj _ => by
     have := (List.getElem?_eq_some_iff.1 hj).1
     simp [this]
 ·exact this.elim
theorem HD3_val {P s dst op rest fp ins C k} (_ : isEffOp op = false) (h : valD P s op fun d => putOK dst s ∧ HD3 P rest (s.put dst d) (fp ++ [(rdIds s op, [])]) (ins ++ [none]) C k) : HD3 P (⟨dst, op, none⟩ :: rest) s fp ins C k := HD3_cons h
theorem HD3_put {P s t x i v rest fp ins C k} (h : match mapInf P t, opd s x, opd s i with
  | some (kk, ag, _), .mp m, .u ku => match keyU ku, valM ag (opd s v), getK s.obs m with
   | some ky, some cells, some (.map kk' ag' []) => ky.kk = kk ∧ kk = kk' ∧ ag = ag' ∧ HD3 P rest s (fp ++ [([], [])]) (ins ++ [some (m, ky, cells)]) C k
   | _, _, _ => False
  | _, _, _ => False) : HD3 P (⟨none, .insert t x i v, none⟩ :: rest) s fp ins C k := by
 split at h
 ·rename_i kk ag z m ku h1 h2 h3
  split at h
  ·rename_i ky cells kk' ag' h4 h5 h6
   obtain ⟨g1, rfl, rfl, g2⟩ := h
   exact HD3_ins ⟨t, x, i, v, kk, ag, z, ku, .inr rfl, h1, h2, h3, h4, g1, h5, h6⟩ g2
  ·exact h.elim
 ·exact h.elim
theorem HD3_chg {P s dst op rest fp ins C k} (_ : isEffOp op = true) (_ : isIns op = false) (h : effD P s op fun e => putOK dst s ∧ (e.nw = none → dst = none) ∧
  HD3 P rest (s.effS e dst) (fp ++ [(rdIds s op, match e.nw with | none => e.U.map (·.1) | some _ => s.next :: e.U.map (·.1))]) (ins ++ [none]) C k) : HD3 P (⟨dst, op, none⟩ :: rest) s fp ins C k := HD3_eff h
def nIns (l : List Oper) : Nat := (l.filter fun o => isIns o.op).length
theorem V_drawN {P Γ s} {Q : Exit → St → Prop} {kt : Kt} {id : Nat} {l : List Oper} (_ : decide (1 < nIns l) = true) (hm : P.follows .mixedOrders = true) (hord : ordOK l = true) (hn0 : Γ.n0 ≤ s.next)
  (h : ∀ (C : Fp → List (Option InsE) → Prop) (k : St → Prop), (∀ fp ins, okP l fp = true → okI l fp ins = true → C fp ins) → (∀ s', RunK P Γ Q kt .normal s' → k s') → match stripL l.toArray l with | some l' => HD3 P l' s [] [] C k | none => False) :
  V P Γ (.region id l.toArray true) s (RunK P Γ Q kt) := V_draw3N hm hord hn0 h
theorem cg_HD3 {P l s s' fp fp' ins ins' C k} (h : s = s') (h' : fp = fp') (h'' : ins = ins') : HD3 P l s fp ins C k = HD3 P l s' fp' ins' C k := by rw [h, h', h'']
attribute [congr] cg_HD3
end Go.VL
namespace Go.VL
open Go
def idOf : D → Option Nat
 | .ptr i _ => some i
 | .vec i _ => some i
 | .elt i _ _ _ => some i
 | .mp i => some i
 | _ => none
/-- Which object of the one state is which object of the other. -/
def rhoL (e : List (Nat × D)) : List (Nat × D) → List (Nat × Nat)
 | [] => []
 | p :: l => match idOf p.2, (getK e p.1).bind idOf with
  | some i, some m => (i, m) :: rhoL e l
  | _, _ => rhoL e l
def rhoF : List (Nat × Nat) → Nat → Nat
 | [], i => i
 | p :: l, i => if i = p.1 then p.2 else rhoF l i
theorem Wk.auto {Γ : Ctx} {s s' : St} (l : List (Nat × Nat)) (_ : rhoL s.env s'.env = l) (hn : s'.n = s.n) (hx : ∀ i, i < Γ.n0 → rhoF l i = i ∧ i < s'.next) (he : wkER s (rhoF l) s'.next s'.env) (ho : wkR s (rhoF l) s'.next s'.obs)
  (hi : ∀ i ∈ s'.obs.map (·.1), ∀ j ∈ s'.obs.map (·.1), rhoF l i = rhoF l j → i = j) : Wk Γ s s' := Wk.ren (rhoF l) hn hx he ho hi
end Go.VL
namespace Go.VL
open Go Go.Sort Go.Proofs
/-- A call that is handed nothing of the caller's own; one that is handed one object. -/
theorem CallP.ret0 {P : Program} {Γ : Ctx} {s : St} {k : St → Prop} {dst : Option Tmp} {fop : Operand} {args : List Operand} {f caps} {ds : List D} {post : D → List (Nat × Ob) → Nat → Prop} (hret : Ret P f ds [] s.next post)
  (hf : calleeOf (opd s fop) = some (f, caps)) (hc : callable P f = true) (hds : args.map (opd s) ++ caps = ds) (hp : putOK dst s)
  (hk : ∀ d o1 nx', s.next ≤ nx' → post d o1 nx' → k (({ s with obs := s.obs ++ o1, next := nx' } : St).put dst d)) : CallP P Γ fop args dst s k :=
 CallP.retF s.obs [] hret (fun i => by simp) (fun i ob _ => rfl) hf hc hds hp hk
end Go.VL
