/- Texts joined by a program of mine: Ty VLP Ua Ub Uc Ud Ue Uj Uf Ug Uh Fa VLR VLS VLT VLU VLV VLW. -/
import Derived.Test.YtfcopibncpkdoaaDoorJ2
import Derived.Test.YtfcopibncpkdoaaDoorRows
import Derived.ProofKit
import Derived.Below
import Derived.ChangeSame
import Derived.Deep.Slices
import Derived.Sort.OwnSortedInts
import Derived.Recover
set_option linter.all false
set_option maxRecDepth 100000
set_option maxHeartbeats 8000000
namespace Go.Proofs.YtfcopibncpkdoaaDoor
open Go Go.VL
@[simp] theorem ld3 : zex Tryd.prog 3 = some none := by kernel_rfl
@[simp] theorem ts3 : tsz Tryd.prog 3 = some 1 := by kernel_rfl
@[simp] theorem io3 : ziQ Tryd.prog 3 = some .i64 := by kernel_rfl
@[simp] theorem zc3 : zeA Tryd.prog 3 = some [.int .i64 0] := by kernel_rfl
@[simp] theorem sl3 : znt Tryd.prog 3 = false := by kernel_rfl
@[simp] theorem ld4 : zex Tryd.prog 4 = some none := by kernel_rfl
@[simp] theorem ts4 : tsz Tryd.prog 4 = some 1 := by kernel_rfl
@[simp] theorem sl4 : znt Tryd.prog 4 = false := by kernel_rfl
@[simp] theorem ld9 : zex Tryd.prog 9 = some none := by kernel_rfl
@[simp] theorem na9 : zfz Tryd.prog 9 = true := by kernel_rfl
@[simp] theorem sf9 : stT Tryd.prog 9 = none := by kernel_rfl
@[simp] theorem st9 : ziP Tryd.prog 9 = true := by kernel_rfl
@[simp] theorem sl9 : znt Tryd.prog 9 = false := by kernel_rfl
@[simp] theorem zui : zjE Tryd.prog 20 = true := by kernel_rfl
@[simp] theorem zsQ : zex Tryd.prog 22 = some none := by kernel_rfl
@[simp] theorem zrE : zhf Tryd.prog 22 = some (24, 5) := by kernel_rfl
@[simp] theorem zs3 : zd1 Tryd.prog 22 = some (24, 5, 64, [.int .i64 0, .int .i64 0, .int .i64 0, .string ⟨#[]⟩, .slice none 0 0]) := by kernel_rfl
@[simp] theorem zsP : zex Tryd.prog 24 = some (some 5) := by kernel_rfl
@[simp] theorem zst : tsz Tryd.prog 24 = some 5 := by kernel_rfl
@[simp] theorem zqD : stT Tryd.prog 24 = some [3, 3, 3, 9, 22] := by kernel_rfl
@[simp] theorem zsn : zeA Tryd.prog 24 = some [.int .i64 0, .int .i64 0, .int .i64 0, .string ⟨#[]⟩, .slice none 0 0] := by kernel_rfl
@[simp] theorem zrb : zbl Tryd.prog 24 0 = some (0, 1, none) := by kernel_rfl
@[simp] theorem zra : zbl Tryd.prog 24 1 = some (1, 1, none) := by kernel_rfl
@[simp] theorem zq9 : zbl Tryd.prog 24 2 = some (2, 1, none) := by kernel_rfl
@[simp] theorem zq8 : zbl Tryd.prog 24 3 = some (3, 1, none) := by kernel_rfl
@[simp] theorem zq7 : zbl Tryd.prog 24 4 = some (4, 1, none) := by kernel_rfl
@[simp] theorem zsh : zp Tryd.prog 24 = some ([.int .i64 0, .int .i64 0, .int .i64 0, .string ⟨#[]⟩, .slice none 0 0], [(0, 1), (1, 1), (2, 1), (3, 1), (4, 1)]) := by kernel_rfl
@[simp] theorem zsO : zex Tryd.prog 25 = some none := by kernel_rfl
@[simp] theorem zsy : zfz Tryd.prog 25 = true := by kernel_rfl
@[simp] theorem zsv : stT Tryd.prog 25 = none := by kernel_rfl
@[simp] theorem zrD : zhf Tryd.prog 25 = some (33, 3) := by kernel_rfl
@[simp] theorem zs2 : zd1 Tryd.prog 25 = some (33, 3, 32, [.string ⟨#[]⟩, .int .i64 0, .int .i64 0]) := by kernel_rfl
@[simp] theorem zsN : zex Tryd.prog 27 = some (some 6) := by kernel_rfl
@[simp] theorem zss : tsz Tryd.prog 27 = some 6 := by kernel_rfl
@[simp] theorem zrt : stT Tryd.prog 27 = some [9, 24] := by kernel_rfl
@[simp] theorem zsm : zeA Tryd.prog 27 = some [.string ⟨#[]⟩, .int .i64 0, .int .i64 0, .int .i64 0, .string ⟨#[]⟩, .slice none 0 0] := by kernel_rfl
@[simp] theorem zq6 : zbl Tryd.prog 27 0 = some (0, 1, none) := by kernel_rfl
@[simp] theorem zq5 : zbl Tryd.prog 27 1 = some (1, 5, some 5) := by kernel_rfl
@[simp] theorem zsg : zp Tryd.prog 27 = some ([.string ⟨#[]⟩, .int .i64 0, .int .i64 0, .int .i64 0, .string ⟨#[]⟩, .slice none 0 0], [(0, 1), (1, 5)]) := by kernel_rfl
@[simp] theorem zsM : zex Tryd.prog 30 = some none := by kernel_rfl
@[simp] theorem zsx : zfz Tryd.prog 30 = true := by kernel_rfl
@[simp] theorem zsu : stT Tryd.prog 30 = none := by kernel_rfl
@[simp] theorem zrc : zhf Tryd.prog 30 = some (27, 6) := by kernel_rfl
@[simp] theorem zs1 : zd1 Tryd.prog 30 = some (27, 6, 80, [.string ⟨#[]⟩, .int .i64 0, .int .i64 0, .int .i64 0, .string ⟨#[]⟩, .slice none 0 0]) := by kernel_rfl
@[simp] theorem zsL : zex Tryd.prog 33 = some (some 3) := by kernel_rfl
@[simp] theorem zsr : tsz Tryd.prog 33 = some 3 := by kernel_rfl
@[simp] theorem zrs : stT Tryd.prog 33 = some [9, 3, 3] := by kernel_rfl
@[simp] theorem zsl : zeA Tryd.prog 33 = some [.string ⟨#[]⟩, .int .i64 0, .int .i64 0] := by kernel_rfl
@[simp] theorem zq4 : zbl Tryd.prog 33 0 = some (0, 1, none) := by kernel_rfl
@[simp] theorem zq3 : zbl Tryd.prog 33 1 = some (1, 1, none) := by kernel_rfl
@[simp] theorem zq2 : zbl Tryd.prog 33 2 = some (2, 1, none) := by kernel_rfl
@[simp] theorem zsf : zp Tryd.prog 33 = some ([.string ⟨#[]⟩, .int .i64 0, .int .i64 0], [(0, 1), (1, 1), (2, 1)]) := by kernel_rfl
@[simp] theorem zsK : zex Tryd.prog 35 = some none := by kernel_rfl
@[simp] theorem zsq : tsz Tryd.prog 35 = some 1 := by kernel_rfl
@[simp] theorem zsk : zeA Tryd.prog 35 = some [.int .i64 0] := by kernel_rfl
@[simp] theorem zsJ : zex Tryd.prog 41 = some none := by kernel_rfl
@[simp] theorem zsV : zhf Tryd.prog 41 = some (3, 1) := by kernel_rfl
@[simp] theorem zs0 : zd1 Tryd.prog 41 = some (3, 1, 8, [.int .i64 0]) := by kernel_rfl
@[simp] theorem zsI : zex Tryd.prog 46 = some (some 37) := by kernel_rfl
@[simp] theorem zqC : stT Tryd.prog 46 = some [3, 3, 3, 3, 3, 3, 4, 3, 3, 3, 3, 30, 24, 24, 24, 24, 24] := by kernel_rfl
@[simp] theorem zq1 : zbl Tryd.prog 46 0 = some (0, 1, none) := by kernel_rfl
@[simp] theorem zq0 : zbl Tryd.prog 46 1 = some (1, 1, none) := by kernel_rfl
@[simp] theorem zqZ : zbl Tryd.prog 46 2 = some (2, 1, none) := by kernel_rfl
@[simp] theorem zqY : zbl Tryd.prog 46 3 = some (3, 1, none) := by kernel_rfl
@[simp] theorem zqX : zbl Tryd.prog 46 4 = some (4, 1, none) := by kernel_rfl
@[simp] theorem zqW : zbl Tryd.prog 46 5 = some (5, 1, none) := by kernel_rfl
@[simp] theorem zqV : zbl Tryd.prog 46 6 = some (6, 1, none) := by kernel_rfl
@[simp] theorem zqU : zbl Tryd.prog 46 7 = some (7, 1, none) := by kernel_rfl
@[simp] theorem zqT : zbl Tryd.prog 46 8 = some (8, 1, none) := by kernel_rfl
@[simp] theorem zqS : zbl Tryd.prog 46 9 = some (9, 1, none) := by kernel_rfl
@[simp] theorem zp9 : zbl Tryd.prog 46 10 = some (10, 1, none) := by kernel_rfl
@[simp] theorem zp8 : zbl Tryd.prog 46 11 = some (11, 1, none) := by kernel_rfl
@[simp] theorem zp7 : zbl Tryd.prog 46 12 = some (12, 5, some 5) := by kernel_rfl
@[simp] theorem zp6 : zbl Tryd.prog 46 13 = some (17, 5, some 5) := by kernel_rfl
@[simp] theorem zp5 : zbl Tryd.prog 46 14 = some (22, 5, some 5) := by kernel_rfl
@[simp] theorem zp4 : zbl Tryd.prog 46 15 = some (27, 5, some 5) := by kernel_rfl
@[simp] theorem zp3 : zbl Tryd.prog 46 16 = some (32, 5, some 5) := by kernel_rfl
@[simp] theorem zsH : zex Tryd.prog 59 = some none := by kernel_rfl
@[simp] theorem zsG : zex Tryd.prog 60 = some none := by kernel_rfl
@[simp] theorem zsU : zhf Tryd.prog 60 = some (153, 3) := by kernel_rfl
@[simp] theorem zsZ : zd1 Tryd.prog 60 = some (153, 3, 24, [.int .i64 0, .int .i64 0, .bool false]) := by kernel_rfl
@[simp] theorem zsF : zex Tryd.prog 61 = some none := by kernel_rfl
@[simp] theorem zsA : zdw Tryd.prog 61 = some (.s, false, [.int .i64 0]) := by kernel_rfl
@[simp] theorem zqR : zbl Tryd.prog 63 0 = some (0, 1, none) := by kernel_rfl
@[simp] theorem zqQ : zbl Tryd.prog 63 1 = some (1, 1, none) := by kernel_rfl
@[simp] theorem zqP : zbl Tryd.prog 63 2 = some (2, 1, none) := by kernel_rfl
@[simp] theorem zse : zp Tryd.prog 63 = some ([.slice none 0 0, .slice none 0 0, .map none], [(0, 1), (1, 1), (2, 1)]) := by kernel_rfl
@[simp] theorem zsE : zex Tryd.prog 68 = some none := by kernel_rfl
@[simp] theorem zsT : zhf Tryd.prog 68 = some (4, 1) := by kernel_rfl
@[simp] theorem zsY : zd1 Tryd.prog 68 = some (4, 1, 1, [.bool false]) := by kernel_rfl
@[simp] theorem zsD : zex Tryd.prog 69 = some none := by kernel_rfl
@[simp] theorem zsS : zhf Tryd.prog 69 = some (35, 1) := by kernel_rfl
@[simp] theorem zsX : zd1 Tryd.prog 69 = some (35, 1, 8, [.int .i64 0]) := by kernel_rfl
@[simp] theorem zqO : zbl Tryd.prog 71 0 = some (0, 1, none) := by kernel_rfl
@[simp] theorem zqN : zbl Tryd.prog 71 1 = some (1, 1, none) := by kernel_rfl
@[simp] theorem zqM : zbl Tryd.prog 71 2 = some (2, 1, none) := by kernel_rfl
@[simp] theorem zqL : zbl Tryd.prog 71 3 = some (3, 1, none) := by kernel_rfl
@[simp] theorem zqK : zbl Tryd.prog 71 4 = some (4, 1, none) := by kernel_rfl
@[simp] theorem zsd : zp Tryd.prog 71 = some ([.slice none 0 0, .slice none 0 0, .slice none 0 0, .slice none 0 0, .slice none 0 0], [(0, 1), (1, 1), (2, 1), (3, 1), (4, 1)]) := by kernel_rfl
@[simp] theorem zsz : zdw Tryd.prog 72 = some (.s, true, [.int .i64 0, .int .i64 0, .int .i64 0, .str [], .nil]) := by kernel_rfl
@[simp] theorem zsR : zhf Tryd.prog 75 = some (9, 1) := by kernel_rfl
@[simp] theorem zsW : zd1 Tryd.prog 75 = some (9, 1, 16, [.string ⟨#[]⟩]) := by kernel_rfl
@[simp] theorem zsC : zex Tryd.prog 81 = some none := by kernel_rfl
@[simp] theorem zsB : zex Tryd.prog 90 = some (some 4) := by kernel_rfl
@[simp] theorem zsp : tsz Tryd.prog 90 = some 4 := by kernel_rfl
@[simp] theorem zsj : zeA Tryd.prog 90 = some [.int .i64 0, .string ⟨#[]⟩, .int .i64 0, .int .i64 0] := by kernel_rfl
@[simp] theorem zqJ : zbl Tryd.prog 90 0 = some (0, 1, none) := by kernel_rfl
@[simp] theorem zqI : zbl Tryd.prog 90 1 = some (1, 1, none) := by kernel_rfl
@[simp] theorem zqH : zbl Tryd.prog 90 2 = some (2, 1, none) := by kernel_rfl
@[simp] theorem zqG : zbl Tryd.prog 90 3 = some (3, 1, none) := by kernel_rfl
@[simp] theorem zsc : zp Tryd.prog 90 = some ([.int .i64 0, .string ⟨#[]⟩, .int .i64 0, .int .i64 0], [(0, 1), (1, 1), (2, 1), (3, 1)]) := by kernel_rfl
@[simp] theorem zso : tsz Tryd.prog 93 = some 1 := by kernel_rfl
@[simp] theorem zsw : zjA Tryd.prog 93 = true := by kernel_rfl
@[simp] theorem zsi : zeA Tryd.prog 93 = some [.int .i64 0] := by kernel_rfl
@[simp] theorem zqF : zbl Tryd.prog 93 0 = some (0, 1, none) := by kernel_rfl
@[simp] theorem zsb : zp Tryd.prog 93 = some ([.int .i64 0], [(0, 1)]) := by kernel_rfl
@[simp] theorem zrC : zex Tryd.prog 113 = some none := by kernel_rfl
@[simp] theorem zrG : zhf Tryd.prog 113 = some (90, 4) := by kernel_rfl
@[simp] theorem zrI : zd1 Tryd.prog 113 = some (90, 4, 40, [.int .i64 0, .string ⟨#[]⟩, .int .i64 0, .int .i64 0]) := by kernel_rfl
@[simp] theorem zqo : zbl Tryd.prog 117 0 = some (0, 1, none) := by kernel_rfl
@[simp] theorem zqn : zbl Tryd.prog 117 1 = some (1, 1, none) := by kernel_rfl
@[simp] theorem zrl : zp Tryd.prog 117 = some ([.slice none 0 0, .int .i64 0], [(0, 1), (1, 1)]) := by kernel_rfl
@[simp] theorem zrr : tsz Tryd.prog 119 = some 2 := by kernel_rfl
@[simp] theorem zru : zjA Tryd.prog 119 = true := by kernel_rfl
@[simp] theorem zro : zeA Tryd.prog 119 = some [.int .i64 0, .int .i64 0] := by kernel_rfl
@[simp] theorem zqm : zbl Tryd.prog 119 0 = some (0, 1, none) := by kernel_rfl
@[simp] theorem zql : zbl Tryd.prog 119 1 = some (1, 1, none) := by kernel_rfl
@[simp] theorem zrk : zp Tryd.prog 119 = some ([.int .i64 0, .int .i64 0], [(0, 1), (1, 1)]) := by kernel_rfl
@[simp] theorem zrF : zhf Tryd.prog 124 = some (126, 3) := by kernel_rfl
@[simp] theorem zrH : zd1 Tryd.prog 124 = some (126, 3, 32, [.string ⟨#[]⟩, .int .i64 0, .int .i64 0]) := by kernel_rfl
@[simp] theorem zrB : zex Tryd.prog 126 = some (some 3) := by kernel_rfl
@[simp] theorem zrq : tsz Tryd.prog 126 = some 3 := by kernel_rfl
@[simp] theorem zrn : zeA Tryd.prog 126 = some [.string ⟨#[]⟩, .int .i64 0, .int .i64 0] := by kernel_rfl
@[simp] theorem zqk : zbl Tryd.prog 126 0 = some (0, 1, none) := by kernel_rfl
@[simp] theorem zqj : zbl Tryd.prog 126 1 = some (1, 1, none) := by kernel_rfl
@[simp] theorem zqi : zbl Tryd.prog 126 2 = some (2, 1, none) := by kernel_rfl
@[simp] theorem zrj : zp Tryd.prog 126 = some ([.string ⟨#[]⟩, .int .i64 0, .int .i64 0], [(0, 1), (1, 1), (2, 1)]) := by kernel_rfl
@[simp] theorem zrA : zex Tryd.prog 138 = some none := by kernel_rfl
@[simp] theorem zrv : zdw Tryd.prog 138 = some (.s, true, [.int .i64 0, .int .i64 0, .bool false]) := by kernel_rfl
@[simp] theorem zqh : zbl Tryd.prog 140 0 = some (0, 1, none) := by kernel_rfl
@[simp] theorem zqg : zbl Tryd.prog 140 1 = some (1, 1, none) := by kernel_rfl
@[simp] theorem zri : zp Tryd.prog 140 = some ([.map none, .map none], [(0, 1), (1, 1)]) := by kernel_rfl
@[simp] theorem zrp : tsz Tryd.prog 142 = some 3 := by kernel_rfl
@[simp] theorem zrm : zeA Tryd.prog 142 = some [.int .i64 0, .int .i64 0, .bool false] := by kernel_rfl
@[simp] theorem zqf : zbl Tryd.prog 142 0 = some (0, 1, none) := by kernel_rfl
@[simp] theorem zqe : zbl Tryd.prog 142 1 = some (1, 1, none) := by kernel_rfl
@[simp] theorem zqd : zbl Tryd.prog 142 2 = some (2, 1, none) := by kernel_rfl
@[simp] theorem zrh : zp Tryd.prog 142 = some ([.int .i64 0, .int .i64 0, .bool false], [(0, 1), (1, 1), (2, 1)]) := by kernel_rfl
@[simp] theorem zqc : zbl Tryd.prog 153 0 = some (0, 1, none) := by kernel_rfl
@[simp] theorem zqb : zbl Tryd.prog 153 1 = some (1, 1, none) := by kernel_rfl
@[simp] theorem zqa : zbl Tryd.prog 153 2 = some (2, 1, none) := by kernel_rfl
@[simp] theorem zrz : zex Tryd.prog 159 = some (some 11) := by kernel_rfl
@[simp] theorem zr7 : zpQ Tryd.prog 159 = some 11 := by kernel_rfl
@[simp] theorem ca9 : zao Tryd.prog 9 = true := by kernel_rfl
@[simp] theorem zuh : zao Tryd.prog 10 = true := by kernel_rfl
@[simp] theorem zug : zao Tryd.prog 11 = true := by kernel_rfl
@[simp] theorem zuf : zao Tryd.prog 13 = true := by kernel_rfl
@[simp] theorem zue : zao Tryd.prog 15 = true := by kernel_rfl
@[simp] theorem zud : zao Tryd.prog 17 = true := by kernel_rfl
@[simp] theorem zuc : zao Tryd.prog 18 = true := by kernel_rfl
@[simp] theorem zub : zao Tryd.prog 19 = true := by kernel_rfl
@[simp] theorem zua : zao Tryd.prog 20 = true := by kernel_rfl
@[simp] theorem zt9 : zao Tryd.prog 23 = true := by kernel_rfl
@[simp] theorem zt8 : zao Tryd.prog 24 = true := by kernel_rfl
@[simp] theorem zt7 : zao Tryd.prog 25 = true := by kernel_rfl
@[simp] theorem zt6 : zao Tryd.prog 26 = true := by kernel_rfl
@[simp] theorem zt5 : zao Tryd.prog 27 = true := by kernel_rfl
@[simp] theorem zt4 : zao Tryd.prog 28 = true := by kernel_rfl
@[simp] theorem zt3 : zao Tryd.prog 29 = true := by kernel_rfl
@[simp] theorem zt2 : zao Tryd.prog 30 = true := by kernel_rfl
@[simp] theorem zt1 : zao Tryd.prog 31 = true := by kernel_rfl
@[simp] theorem zt0 : zao Tryd.prog 32 = true := by kernel_rfl
@[simp] theorem ztZ : zao Tryd.prog 33 = true := by kernel_rfl
@[simp] theorem ztY : zao Tryd.prog 38 = true := by kernel_rfl
@[simp] theorem ztX : zao Tryd.prog 41 = true := by kernel_rfl
@[simp] theorem ztW : zao Tryd.prog 42 = true := by kernel_rfl
@[simp] theorem ztV : zao Tryd.prog 43 = true := by kernel_rfl
@[simp] theorem ztU : zao Tryd.prog 44 = true := by kernel_rfl
@[simp] theorem ztT : zao Tryd.prog 46 = true := by kernel_rfl
@[simp] theorem ztS : zao Tryd.prog 47 = true := by kernel_rfl
@[simp] theorem ztR : zao Tryd.prog 48 = true := by kernel_rfl
@[simp] theorem ztQ : zao Tryd.prog 49 = true := by kernel_rfl
@[simp] theorem ztP : zao Tryd.prog 50 = true := by kernel_rfl
@[simp] theorem ztO : zao Tryd.prog 51 = true := by kernel_rfl
@[simp] theorem ztN : zao Tryd.prog 52 = true := by kernel_rfl
@[simp] theorem ztM : zao Tryd.prog 53 = true := by kernel_rfl
@[simp] theorem ztL : zao Tryd.prog 54 = true := by kernel_rfl
@[simp] theorem ztK : zao Tryd.prog 55 = true := by kernel_rfl
@[simp] theorem ztJ : zao Tryd.prog 56 = true := by kernel_rfl
@[simp] theorem ztI : zao Tryd.prog 57 = true := by kernel_rfl
@[simp] theorem ztH : zao Tryd.prog 58 = true := by kernel_rfl
@[simp] theorem ztG : zao Tryd.prog 59 = true := by kernel_rfl
@[simp] theorem ztF : zao Tryd.prog 60 = true := by kernel_rfl
@[simp] theorem ztE : zao Tryd.prog 61 = true := by kernel_rfl
@[simp] theorem ztD : zao Tryd.prog 62 = true := by kernel_rfl
@[simp] theorem ztC : zao Tryd.prog 64 = true := by kernel_rfl
@[simp] theorem ztB : zao Tryd.prog 65 = true := by kernel_rfl
@[simp] theorem ztA : zao Tryd.prog 66 = true := by kernel_rfl
@[simp] theorem ztz : zao Tryd.prog 67 = true := by kernel_rfl
@[simp] theorem zty : zao Tryd.prog 68 = true := by kernel_rfl
@[simp] theorem ztx : zao Tryd.prog 69 = true := by kernel_rfl
@[simp] theorem ztw : zao Tryd.prog 71 = true := by kernel_rfl
@[simp] theorem ztv : zao Tryd.prog 72 = true := by kernel_rfl
@[simp] theorem ztu : zao Tryd.prog 73 = true := by kernel_rfl
@[simp] theorem ztt : zao Tryd.prog 74 = true := by kernel_rfl
@[simp] theorem zts : zao Tryd.prog 75 = true := by kernel_rfl
@[simp] theorem ztr : zao Tryd.prog 76 = true := by kernel_rfl
@[simp] theorem ztq : zao Tryd.prog 77 = true := by kernel_rfl
@[simp] theorem ztp : zao Tryd.prog 78 = true := by kernel_rfl
@[simp] theorem zto : zao Tryd.prog 79 = true := by kernel_rfl
@[simp] theorem ztn : zao Tryd.prog 80 = true := by kernel_rfl
@[simp] theorem ztm : zao Tryd.prog 81 = true := by kernel_rfl
@[simp] theorem ztl : zao Tryd.prog 82 = true := by kernel_rfl
@[simp] theorem ztk : zao Tryd.prog 83 = true := by kernel_rfl
@[simp] theorem ztj : zao Tryd.prog 84 = true := by kernel_rfl
@[simp] theorem zti : zao Tryd.prog 85 = true := by kernel_rfl
@[simp] theorem zth : zao Tryd.prog 86 = true := by kernel_rfl
@[simp] theorem ztg : zao Tryd.prog 87 = true := by kernel_rfl
@[simp] theorem ztf : zao Tryd.prog 88 = true := by kernel_rfl
@[simp] theorem zte : zao Tryd.prog 89 = true := by kernel_rfl
@[simp] theorem ztd : zao Tryd.prog 90 = true := by kernel_rfl
@[simp] theorem ztc : zao Tryd.prog 91 = true := by kernel_rfl
@[simp] theorem ztb : zao Tryd.prog 92 = true := by kernel_rfl
@[simp] theorem zta : zao Tryd.prog 93 = true := by kernel_rfl
@[simp] theorem zs9 : zao Tryd.prog 94 = true := by kernel_rfl
@[simp] theorem zs8 : zao Tryd.prog 95 = true := by kernel_rfl
@[simp] theorem zs7 : zao Tryd.prog 96 = true := by kernel_rfl
@[simp] theorem zs6 : zao Tryd.prog 97 = true := by kernel_rfl
@[simp] theorem zs5 : zao Tryd.prog 98 = true := by kernel_rfl
@[simp] theorem zs4 : zao Tryd.prog 99 = true := by kernel_rfl
@[simp] theorem zr2 : zao Tryd.prog 100 = true := by kernel_rfl
@[simp] theorem zr1 : zao Tryd.prog 101 = true := by kernel_rfl
@[simp] theorem zr0 : zao Tryd.prog 102 = true := by kernel_rfl
@[simp] theorem zrZ : zao Tryd.prog 103 = true := by kernel_rfl
@[simp] theorem zrY : zao Tryd.prog 104 = true := by kernel_rfl
@[simp] theorem zrX : zao Tryd.prog 105 = true := by kernel_rfl
@[simp] theorem zrW : zao Tryd.prog 106 = true := by kernel_rfl
@[simp] theorem zrV : zao Tryd.prog 107 = true := by kernel_rfl
@[simp] theorem zrU : zao Tryd.prog 108 = true := by kernel_rfl
@[simp] theorem zrT : zao Tryd.prog 109 = true := by kernel_rfl
@[simp] theorem zrS : zao Tryd.prog 110 = true := by kernel_rfl
@[simp] theorem zrR : zao Tryd.prog 111 = true := by kernel_rfl
@[simp] theorem zrQ : zao Tryd.prog 112 = true := by kernel_rfl
@[simp] theorem zrP : zao Tryd.prog 113 = true := by kernel_rfl
@[simp] theorem zrO : zao Tryd.prog 114 = true := by kernel_rfl
@[simp] theorem zrN : zao Tryd.prog 115 = true := by kernel_rfl
@[simp] theorem zrM : zao Tryd.prog 116 = true := by kernel_rfl
end Go.Proofs.YtfcopibncpkdoaaDoor
namespace Go.VL
open Go Go.ChangeShapes Go.WideShapes Go.ChangeAt Go.RowKit Go.Deep
/-- The memory of a world. -/
def zh6 (w : World) : Mem := fun b o => look w b o
inductive HasRow (P : Program) : TypeId → List U → Prop
 | bool {t b} (h : P.underlying t = some .bool) : HasRow P t [.bool b]
 | int {t k n} (h : P.underlying t = some (.int k)) (h1 : k.min ≤ n) (h2 : n ≤ k.max) : HasRow P t [.int k n]
 | str {t l} (h : P.underlying t = some .string) (h1 : l.length ≤ maxLen) : HasRow P t [.str l]
 | slice {t e rows} (h : P.underlying t = some (.slice e)) (h1 : rows.length ≤ maxLen) (h2 : ∀ r ∈ rows, HasRow P e r) : HasRow P t [.sl rows]
 | struct {t fs} (rs : List (List U)) (h : P.underlying t = some (.struct fs)) (h1 : rs.length = fs.size) (h2 : ∀ (i : Nat) (f : Field) (r : List U), fs[i]? = some f → rs[i]? = some r → HasRow P f.type r) : HasRow P t rs.flatten
 | other {t r} (h : match P.underlying t with | some .bool | some (.int _) | some .string | some (.struct _) => False | some (.slice e) => P.cellsOf e = 0 | _ => True) : HasRow P t r
/-- The fields lie one behind the other. -/
def zo7 (P : Program) : Nat → List Field → Nat → Bool
 | o, [], n => o == n
 | o, f :: l, n => f.offset == o && zo7 P (o + P.cellsOf f.type) l n
def zgT (P : Program) : Bool := (List.range P.types.size).all fun t => match P.underlying t with
 | some (.struct fs) => zo7 P 0 fs.toList (P.cellsOf t) && fs.toList.all fun f => decide (f.type < P.types.size)
 | some (.slice e) => decide (e < P.types.size)
 | _ => true
theorem zhy {P : Program} (h : zgT P = true) {t fs} (hlt : t < P.types.size) (ht : P.underlying t = some (.struct fs)) : zo7 P 0 fs.toList (P.cellsOf t) = true ∧ ∀ f ∈ fs.toList, f.type < P.types.size := by
 have := List.all_eq_true.1 h t (List.mem_range.2 hlt)
 simp only [ht, Bool.and_eq_true, List.all_eq_true, decide_eq_true_eq] at this
 exact this
theorem zil {P : Program} (h : zgT P = true) {t e} (hlt : t < P.types.size) (ht : P.underlying t = some (.slice e)) : e < P.types.size := by
 have := List.all_eq_true.1 h t (List.mem_range.2 hlt)
 simp only [ht, decide_eq_true_eq] at this
 exact this
/-- Cells az plain values. -/
def RepRow (m : Mem) (r : List U) (cs : List Value) : Prop := r.length = cs.length ∧ ∀ (j : Nat) (u : U), r[j]? = some u → RepU m u (cs.getD j undef)
theorem RepRow.one {m : Mem} {u : U} {v : Value} (h : RepU m u v) : RepRow m [u] [v] := ⟨rfl, fun j w hj => by
 cases j with
 | zero => simp at hj; subst hj; exact h
 | succ j => simp at hj⟩
theorem RepRow.append {m : Mem} {a b : List U} {x y : List Value} (h : RepRow m a x) (g : RepRow m b y) : RepRow m (a ++ b) (x ++ y) := by
 refine ⟨by simp [h.1, g.1], fun j u hj => ?_⟩
 rw [List.getElem?_append] at hj
 rw [List.getD_eq_getElem?_getD, List.getElem?_append, ← h.1]
 by_cases hl : j < a.length
 ·rw [if_pos hl] at hj ⊢
  rw [← List.getD_eq_getElem?_getD]
  exact h.2 j u hj
 ·rw [if_neg hl] at hj ⊢
  rw [← List.getD_eq_getElem?_getD]
  exact g.2 _ u hj
theorem RepRow.flatten {m : Mem} : ∀ {rs : List (List U)} {xs : List (List Value)}, rs.length = xs.length → (∀ (i : Nat) r x, rs[i]? = some r → xs[i]? = some x → RepRow m r x) → RepRow m rs.flatten xs.flatten
 | [], [], _, _ => ⟨rfl, by simp⟩
 | r :: rs, x :: xs, hl, h => by
  rw [List.flatten_cons, List.flatten_cons]
  exact (h 0 r x rfl rfl).append (RepRow.flatten (by simpa using hl) fun i r x h1 h2 => h (i + 1) r x (by simpa using h1) (by simpa using h2))
 | [], _ :: _, hl, _ => by simp at hl
 | _ :: _, [], hl, _ => by simp at hl
theorem zgS {P : Program} {cs : List Value} : ∀ (l : List Field) (o : Nat), zo7 P o l cs.length = true → cs.drop o = (l.map fun f => (cs.drop f.offset).take (P.cellsOf f.type)).flatten
 | [], o, h => by
  simp [zo7] at h
  subst h
  simp
 | f :: l, o, h => by
  simp only [zo7, Bool.and_eq_true, beq_iff_eq] at h
  obtain ⟨h1, h2⟩ := h
  rw [List.map_cons, List.flatten_cons, ← zgS l _ h2, h1]
  conv => lhs; rw [← List.take_append_drop (P.cellsOf f.type) (cs.drop o)]
  rw [List.drop_drop]
theorem zeI {α : Type} {p : Nat → α → Prop} : ∀ (n : Nat), (∀ i, i < n → ∃ x, p i x) → ∃ l : List α, l.length = n ∧ ∀ i x, l[i]? = some x → p i x
 | 0, _ => ⟨[], rfl, by simp⟩
 | n + 1, h => by
  obtain ⟨l, hl, hp⟩ := zeI n fun i hi => h i (by omega)
  obtain ⟨x, hx⟩ := h n (by omega)
  refine ⟨l ++ [x], by simp [hl], fun i y hy => ?_⟩
  rw [List.getElem?_append] at hy
  by_cases hi : i < l.length
  ·rw [if_pos hi] at hy; exact hp i y hy
  ·rw [if_neg hi] at hy
   have hi2 := (List.getElem?_eq_some_iff.1 hy).1
   simp at hi2
   have : i = n := by omega
   subst this
   rw [hl] at hy
   simp at hy
   subst hy
   exact hx
theorem zli {w : World} {base : Nat} {a : Addr} {n : Nat} {cs : List Value} (h : w.cells? base a n = some cs) (hn : 0 < n) : a.spot = none := by
 obtain ⟨_, hl, hc⟩ := World.cells?_some h
 have h0 := hc 0 hn
 have hlt : 0 < cs.length := by omega
 rw [List.getElem?_eq_getElem hlt] at h0
 simp only [Addr.add, if_true] at h0
 unfold World.cell? at h0
 cases hs : a.spot with
 | none => rfl
 | some x =>
  exfalso
  split at h0
  ·simp [hs] at h0
  ·simp at h0
theorem zhv {H : Type} {enc : TypeId × Value → H} {P : Program} (hseq : zgT P = true) {w : World} {base : Nat} {spare : Nat → Bool} {held : Bool} : ∀ (fuel : Nat) {t : TypeId} {cs : List Value} {x : DataW H × List MemPlace}, t < P.types.size →
  DataW.trod enc P w base spare held fuel t cs = some x → ∃ r, HasRow P t r ∧ RepRow (zh6 w) r cs
 | 0, t, cs, x, _, h => by simp [DataW.trod] at h
 | fuel + 1, t, cs, x, hts, h => by
  have h0 := h
  have oth : ∀ cs : List Value, RepRow (zh6 w) (cs.map .oth) cs := fun cs => ⟨by simp, fun j u hj => by
   rw [List.getElem?_map] at hj
   cases hc : cs[j]? with
   | none => rw [hc] at hj; cases hj
   | some v => rw [hc] at hj; cases hj; rw [List.getD_eq_getElem?_getD, hc]; exact .oth v⟩
  cases hu : P.underlying t with
  | none => exact ⟨_, .other (by rw [hu]; trivial), oth cs⟩
  | some td =>
   cases td with
   | bool =>
    unfold DataW.trod at h
    rw [hu] at h
    split at h <;> simp_all
    exact ⟨_, .bool hu, .one (.bool _)⟩
   | int k =>
    unfold DataW.trod at h
    rw [hu] at h
    split at h <;> simp_all [Lit.wf]
    rename_i hk
    obtain ⟨⟨hk1, h1, h2⟩, _⟩ := h
    subst hk1
    exact ⟨_, .int hu h1 h2, .one (.int _ _)⟩
   | string =>
    unfold DataW.trod at h
    rw [hu] at h
    split at h <;> simp_all
    rename_i s
    refine ⟨[.str s.data.toList], .str hu (by simpa using h.1), .one ?_⟩
    have h := RepU.str (m := zh6 w) s.data.toList
    simpa using h
   | slice e =>
    rcases DataW.trod_slice hu h with ⟨rfl, rfl⟩ | ⟨a, len, cap, elems, rest, n, hn, rfl, rfl, hb, hl, hm, hlen, hel, _, _⟩
    ·exact ⟨[.sl []], .slice hu (by simp) (by simp), .one (.slE none 0 fun _ => rfl)⟩
    ·have hnf : n = fuel := by omega
     subst hnf
     by_cases h0 : len = 0
     ·subst h0
      exact ⟨[.sl []], .slice hu (by simp) (by simp), .one (.slE (some a) cap fun e => by cases e)⟩
     ·have hrow : ∀ i, i < len → ∃ q, ∃ cs', w.cells? base (a.add (i * P.cellsOf e)) (P.cellsOf e) = some cs' ∧ HasRow P e q ∧ RepRow (zh6 w) q cs' := fun i hi => by
       have h1 := hel i hi
       rw [List.getElem?_eq_getElem (by omega)] at h1
       cases hc : w.cells? base (a.add (i * P.cellsOf e)) (P.cellsOf e) with
       | none => rw [hc] at h1; cases h1
       | some cs' =>
        rw [hc] at h1
        obtain ⟨q, h2, h3⟩ := zhv hseq n (zil hseq hts hu) (by simpa using h1)
        exact ⟨q, cs', rfl, h2, h3⟩
      obtain ⟨rows, hrl, hrows⟩ := zeI len hrow
      by_cases hz : P.cellsOf e = 0
      ·exact ⟨_, .other (by rw [hu]; exact hz), oth _⟩
      ·have hsp : a.spot = none := by
        obtain ⟨cs', h1, _⟩ := hrows 0 rows[0] (List.getElem?_eq_getElem (by omega))
        have := zli h1 (by omega)
        simpa [Addr.add] using this
       obtain ⟨b, o, sp⟩ := a
       simp only at hsp
       subst hsp
       refine ⟨[.sl rows], .slice hu (by omega) fun r hr => ?_, .one ?_⟩
       ·obtain ⟨i, hi⟩ := List.getElem?_of_mem hr
        obtain ⟨_, _, h2, _⟩ := hrows i r hi
        exact h2
       ·have hat : ∀ i r, rows[i]? = some r → r.length = P.cellsOf e ∧ ∀ j, j < P.cellsOf e → ∃ v, w.cell? ⟨b, o + i * P.cellsOf e + j, none⟩ = some v ∧ ∀ u, r[j]? = some u → RepU (zh6 w) u v := fun i r hi => by
         obtain ⟨cs', h1, _, h3⟩ := hrows i r hi
         obtain ⟨_, h4, h5⟩ := World.cells?_some h1
         refine ⟨by rw [h3.1, h4], fun j hj => ?_⟩
         have h6 := h5 j hj
         rw [zcE, zcE, List.getElem?_eq_getElem (by omega)] at h6
         refine ⟨_, h6, fun u hu => ?_⟩
         have := h3.2 j u hu
         rw [List.getD_eq_getElem?_getD, List.getElem?_eq_getElem (by omega)] at this
         exact this
        have := RepU.sl (m := zh6 w) rows b o (P.cellsOf e) cap (fun i j => (w.cell? ⟨b, o + i * P.cellsOf e + j, none⟩).getD undef) (by omega) hm (fun r hr => by
          obtain ⟨i, hi⟩ := List.getElem?_of_mem hr
          exact (hat i r hi).1)
         (fun i hi j hj => by
           obtain ⟨v, hv, _⟩ := (hat i rows[i] (List.getElem?_eq_getElem hi)).2 j hj
           exact zdq (by simp [hv]))
         (fun i r hi j u hj => by
           have hl := (hat i r hi).1
           obtain ⟨v, hv, hr⟩ := (hat i r hi).2 j (by have := (List.getElem?_eq_some_iff.1 hj).1; omega)
           rw [hv]
           exact hr u hj)
        rw [hrl] at this
        exact this
   | struct fs =>
    obtain ⟨xs, n, hn, rfl, hcl, hxl, hf⟩ := DataW.trod_struct hu h
    have hnf : n = fuel := by omega
    subst hnf
    obtain ⟨hs, hfl⟩ := zhy hseq hts hu
    rw [← hcl] at hs
    have hp := zgS fs.toList 0 hs
    rw [List.drop_zero] at hp
    have hrow : ∀ i, i < fs.size → ∃ q, ∃ f, fs[i]? = some f ∧ HasRow P f.type q ∧ RepRow (zh6 w) q ((cs.drop f.offset).take (P.cellsOf f.type)) := fun i hi => by
     have h1 := hf i fs[i] (Array.getElem?_eq_getElem hi)
     rw [List.getElem?_eq_getElem (by omega)] at h1
     obtain ⟨q, h2, h3⟩ := zhv hseq n (hfl _ (by rw [← Array.getElem_toList]; exact List.getElem_mem _)) h1
     exact ⟨q, fs[i], Array.getElem?_eq_getElem hi, h2, h3⟩
    obtain ⟨rs, hrl, hrs⟩ := zeI fs.size hrow
    refine ⟨rs.flatten, .struct rs hu hrl fun i f r hi hr => ?_, ?_⟩
    ·obtain ⟨f', h1, h2, _⟩ := hrs i r hr
     rw [hi] at h1
     cases h1
     exact h2
    ·rw [hp]
     refine RepRow.flatten (by simp [hrl]) fun i r x hr hx => ?_
     obtain ⟨f', h1, _, h3⟩ := hrs i r hr
     rw [List.getElem?_map, Array.getElem?_toList, h1] at hx
     cases hx
     exact h3
   | _ => exact ⟨_, .other (by rw [hu]; trivial), oth cs⟩
end Go.VL
namespace Go.VL
open Go Go.ChangeShapes Go.WideShapes Go.ChangeAt Go.RowKit Go.Deep
def zjR (P : Program) : List TypeId → List (List U) → Prop
 | [], [] => True
 | t :: ts, r :: rs => HasRow P t r ∧ zjR P ts rs
 | _, _ => False
section
variable {P : Program} {t : TypeId} {r : List U}
theorem HasRow.of_int {k : IntKind} (h : HasRow P t r) (ht : ziQ P t = some k) : ∃ n, r = [.int k n] ∧ k.min ≤ n ∧ n ≤ k.max := by
 have hu := zgk ht
 cases h with
 | int h h1 h2 => rw [hu] at h; cases h; exact ⟨_, rfl, h1, h2⟩
 | other h => rw [hu] at h; exact h.elim
 | struct rs h => rw [hu] at h; cases h
 | _ h => rw [hu] at h; cases h
theorem HasRow.of_bool (h : HasRow P t r) (hu : P.underlying t = some .bool) : ∃ b, r = [.bool b] := by
 cases h with
 | bool h => exact ⟨_, rfl⟩
 | other h => rw [hu] at h; exact h.elim
 | struct rs h => rw [hu] at h; cases h
 | _ h => rw [hu] at h; cases h
theorem HasRow.of_str (h : HasRow P t r) (ht : ziP P t = true) : ∃ l, r = [.str l] ∧ l.length ≤ maxLen := by
 have hu := zdO ht
 cases h with
 | str h h1 => exact ⟨_, rfl, h1⟩
 | other h => rw [hu] at h; exact h.elim
 | struct rs h => rw [hu] at h; cases h
 | _ h => rw [hu] at h; cases h
theorem HasRow.of_slice {e sz : Nat} (h : HasRow P t r) (ht : zhf P t = some (e, sz + 1)) : ∃ rows, r = [.sl rows] ∧ rows.length ≤ maxLen ∧ ∀ q ∈ rows, HasRow P e q := by
 obtain ⟨hu, hs⟩ := zeg ht
 cases h with
 | slice h h1 h2 => rw [hu] at h; cases h; exact ⟨_, rfl, h1, h2⟩
 | other h =>
  rw [hu] at h
  unfold tsz at hs
  unfold Program.cellsOf at h
  simp only at h
  rw [hs] at h
  simp at h
 | struct rs h => rw [hu] at h; cases h
 | _ h => rw [hu] at h; cases h
theorem HasRow.of_struct {ts : List TypeId} (h : HasRow P t r) (ht : stT P t = some ts) : ∃ rs, r = rs.flatten ∧ zjR P ts rs := by
 unfold stT at ht
 split at ht
 ·rename_i fs hu
  cases ht
  cases h with
  | struct rs h h1 h2 =>
   rw [hu] at h
   cases h
   refine ⟨rs, rfl, ?_⟩
   have key : ∀ (l : List Field) (rs : List (List U)), rs.length = l.length → (∀ (i : Nat) (f : Field) (r : List U), l[i]? = some f → rs[i]? = some r → HasRow P f.type r) → zjR P (l.map (·.type)) rs := by
    intro l
    induction l with
    | nil => intro rs hl _; simp at hl; subst hl; trivial
    | cons f l ih =>
     intro rs hl h
     cases rs with
     | nil => simp at hl
     | cons r rs => exact ⟨h 0 f r rfl rfl, ih rs (by simpa using hl) fun i f r h1 h2 => h (i + 1) f r (by simpa using h1) (by simpa using h2)⟩
   exact key fs.toList rs (by simpa using h1) fun i f r hf hr => h2 i f r (by simpa using hf) hr
  | other h => rw [hu] at h; exact h.elim
  | _ h => rw [hu] at h; cases h
 ·cases ht
end
/-- Rows that all come of a typed thing are those of a list of such things. -/
theorem rows_list {α : Type} (f : α → List U) (Q : α → Prop) : ∀ {rows : List (List U)}, (∀ r ∈ rows, ∃ x, r = f x ∧ Q x) → ∃ l : List α, rows = l.map f ∧ ∀ x ∈ l, Q x
 | [], _ => ⟨[], rfl, by simp⟩
 | r :: rows, h => by
  obtain ⟨x, rfl, hx⟩ := h r (by simp)
  obtain ⟨l, rfl, hl⟩ := rows_list f Q (rows := rows) fun r hr => h r (by simp [hr])
  exact ⟨x :: l, rfl, by simpa using ⟨hx, hl⟩⟩
def ArgU (P : Program) (t : TypeId) (u : U) : Prop := match P.underlying t with
 | some (.struct _) => ∃ r, u = .agg r ∧ HasRow P t r
 | some (.array _ _) => True
 | _ => HasRow P t [u]
theorem ArgU.one {P : Program} {t u} (h : ArgU P t u) (hn : stT P t = none) (ha : zfz P t = true) : HasRow P t [u] := by
 unfold ArgU at h
 unfold stT at hn
 unfold zfz at ha
 split at h <;> simp_all
theorem ArgU.agg {P : Program} {t u ts} (h : ArgU P t u) (hn : stT P t = some ts) : ∃ r, u = .agg r ∧ HasRow P t r := by
 unfold ArgU at h
 unfold stT at hn
 split at h <;> simp_all
def znU (P : Program) : List TypeId → List U → Prop
 | [], [] => True
 | t :: ts, u :: us => ArgU P t u ∧ znU P ts us
 | _, _ => False
theorem zkS {P : Program} {w r b t v} (h : Value.okWide P w r b t v) (h1 : ∀ fs, P.underlying t ≠ some (.struct fs)) (h2 : ∀ n e, P.underlying t ≠ some (.array n e)) : v.cells = #[v] := by
 unfold Value.okWide at h
 split at h
 ·rename_i fs hu; exact absurd hu (h1 fs)
 ·rename_i n e hu; exact absurd hu (h2 n e)
 ·cases v <;> first | rfl | (exfalso; unfold Cell.okWide at h; split at h <;> simp_all [Cell.ok])
theorem zkx {H : Type} {enc : TypeId × Value → H} {P : Program} (hseq : zgT P = true) {w : World} {spare : Nat → Bool} {held : Bool} {r : Reach} {b : Nat} : ∀ {ts : List TypeId} {vs : List Value} {ds : List (DataW H)} {p : List MemPlace},
  DataW.TrodAll enc P w 0 spare held ts vs ds p → (∀ t ∈ ts, t < P.types.size) → (∀ (j : Nat) t v, ts[j]? = some t → vs[j]? = some v → Value.okWide P w r b t v) → ∃ us, znU P ts us ∧ RepRow (zh6 w) us vs
 | [], [], [], _, _, _, _ => ⟨[], trivial, rfl, by simp⟩
 | t :: ts, v :: vs, d :: ds, p, h, hlt, hok => by
  obtain ⟨p1, q1, ⟨fuel, h1⟩, h2, _⟩ := h
  obtain ⟨us, h3, h4⟩ := zkx hseq h2 (fun t ht => hlt t (by simp [ht])) fun j t v ht hv => hok (j + 1) t v (by simpa using ht) (by simpa using hv)
  have hv := hok 0 t v rfl rfl
  obtain ⟨row, h5, h6⟩ := zhv hseq fuel (hlt t (by simp)) h1
  have hone : ∀ (_ : ∀ fs, P.underlying t ≠ some (.struct fs)) (_ : ∀ n e, P.underlying t ≠ some (.array n e)), ∃ u, HasRow P t [u] ∧ RepU (zh6 w) u v := fun n1 n2 => by
   have hc := zkS hv n1 n2
   rw [hc] at h6
   have hl := h6.1
   match row, hl with
   | [u], _ => exact ⟨u, h5, by simpa using h6.2 0 u rfl⟩
  have zcp : ∀ u, ArgU P t u → RepU (zh6 w) u v → ∃ us, znU P (t :: ts) us ∧ RepRow (zh6 w) us (v :: vs) := fun u hu hr => ⟨u :: us, ⟨hu, h3⟩, (RepRow.one hr).append h4⟩
  cases hu : P.underlying t with
  | none =>
   obtain ⟨u, h7, h8⟩ := hone (fun fs e => by rw [hu] at e; cases e) (fun n x e => by rw [hu] at e; cases e)
   exact zcp u (by unfold ArgU; rw [hu]; exact h7) h8
  | some td =>
   cases td with
   | struct fs =>
    unfold Value.okWide at hv
    rw [hu] at hv
    obtain ⟨cs, rfl, _⟩ := hv
    refine zcp (.agg row) (by unfold ArgU; rw [hu]; exact ⟨row, rfl, h5⟩) ?_
    have := RepU.agg (m := zh6 w) row cs.toList (by simpa [Value.cells] using h6.1) (by simpa [Value.cells] using h6.2)
    simpa using this
   | array n e => exact zcp (.oth v) (by unfold ArgU; rw [hu]; trivial) (.oth v)
   | _ =>
    obtain ⟨u, h7, h8⟩ := hone (fun fs e => by rw [hu] at e; cases e) (fun n x e => by rw [hu] at e; cases e)
    exact zcp u (by unfold ArgU; rw [hu]; exact h7) h8
/-- The call out of a contract by value. -/
theorem zi7 {P : Program} {f : FuncId} {us : List U} {b : Bool} (h : Fun P f (us.map .u) (· = .u (.bool b))) {W : World} {args : Array Value} (hg : GlobIn (zh6 W)) (ha : RepRow (zh6 W) us args.toList) :
  Calls P f args W fun e W' => e = .returned (.bool b) ∧ Below W.heap.size W W' := by
 have := h ⟨zh6 W, fun _ => none, hg⟩ (W.heap.size ≤ ·) W args ⟨fun _ _ _ h => h, by simp [getK], by simp [getK]⟩ (fun _ _ => rfl) (fun _ h => h)
  ⟨by simpa using ha.1.symm, fun j d hj => by
   rw [List.getElem?_map] at hj
   cases hu : us[j]? with
   | none => rw [hu] at hj; cases hj
   | some u =>
      rw [hu] at hj
      cases hj
      have := ha.2 j u hu
      have e : args.getD j undef = args.toList.getD j undef := by simp
      rw [e]
      exact Rep.u _ _ this⟩
 refine this.mono ?_
 rintro e W' ⟨v, d, o, n, k', rfl, hin, _, _, _, hr, _, rfl⟩
 exact ⟨by rw [zcC hr], ⟨hin.os, hin.tape, hin.output, hin.size, fun k hk => hin.block k (by omega)⟩⟩
theorem zeT {H : Type} {enc : TypeId × Value → H} {P : Program} (hl : laidOutB P = true) {W W' : World} (hb : Below W.heap.size W W') {sp : Nat → Bool} : ∀ {ts : List TypeId} {vs : List Value} {ds : List (DataW H)} {ps : List MemPlace},
  (∀ t ∈ ts, P.readableRec t = true ∧ t < P.types.size) → DataW.TrodAll enc P W 0 (fun _ => true) true ts vs ds ps → (∀ x ∈ ps, x.block < W.heap.size) → (∀ x ∈ ps, sp x.block = true) → DataW.TrodAll enc P W' 0 sp true ts vs ds ps
 | [], [], [], _, _, h, _, _ => h
 | t :: ts, v :: vs, d :: ds, ps, hr, h, hlt, hsp => by
  obtain ⟨p, q, h1, h2, rfl⟩ := h
  obtain ⟨h3, h4⟩ := hr t (by simp)
  refine ⟨p, q, WideElems.Trod_stays hl h3 h4 h1 (fun x hx => hb.same (hlt x (by simp [hx]))) (fun x hx => hsp x (by simp [hx])), zeT hl hb (fun t ht => hr t (by simp [ht])) h2 (fun x hx => hlt x (by simp [hx])) (fun x hx => hsp x (by simp [hx])), rfl⟩
theorem zkQ {H : Type} {enc : TypeId × Value → H} {P : Program} {f : Func} {s : ChangeSpec} {apart fresh handsOn again : Bool} {W W' : World} {args : Array Value} {v : Value} {ds gs : List (DataW H)} {before pa pv : List MemPlace}
  (hW : DataW.Whole enc P f.params.toList s.vars apart W args.toList ds gs before)
  (hres : ∀ (b : Nat) (sp : Nat → Bool) (hd : Bool), DataW.TrodAll enc P W' b sp hd f.resultTypes.toList (v.resultList f.resultTypes.size) (s.fn H (ds ++ gs)).results [])
  (hargs : ∀ sp : Nat → Bool, (∀ p ∈ before, sp p.block = true) → DataW.TrodAll enc P W' 0 sp true f.params.toList args.toList (s.fn H (ds ++ gs)).args pa)
  (hvars : ∀ sp : Nat → Bool, (∀ p ∈ before, sp p.block = true) → DataW.TrodVars enc P W' sp s.vars (s.fn H (ds ++ gs)).vars pv)
  (hps : before = pa ++ pv) (hb : Below W.heap.size W W')
  (hok : ∀ (j : Nat) (t : TypeId) (r : Value), f.resultTypes[j]? = some t → (v.resultList f.resultTypes.size)[j]? = some r → Value.okWide P W' .any 0 t r) :
  s.post enc P f apart fresh handsOn again W args v W' := by
 have hlt : ∀ p ∈ before, p.block < W.heap.size := fun p hp => hW.lt p hp
 have hold : ∀ p ∈ before, (fun b => decide (b < W.heap.size)) p.block = true := fun p hp => by simpa using hlt p hp
 refine ⟨ds, gs, before, [], pa, pv, hW, hres _ _ _, hargs _ hold, hvars _ hold, World.keptBut_mono (fun p hp => ⟨hp, ?_⟩) (hb.frame (· ∈ before)), fun _ => ?_⟩
 ·rw [hps, List.mem_append] at hp
  exact Or.inr hp
 ·obtain ⟨_, _, _, _, _, hz, hn⟩ := hW
  refine ⟨hok, _, _, ([] ++ pa) ++ pv, ⟨[] ++ pa, pv, trodAll_append (hargs _ (fun _ _ => rfl)) (hres _ _ _), hvars _ (fun _ _ => rfl), rfl, ?_, ?_⟩, ?_⟩
  ·intro b off hp
   have hin : MemPlace.cell b off ∈ before := by rw [hps]; simpa using hp
   rw [hb.frozen (hlt _ hin)]
   exact hz b off hin
  ·intro ha
   have := hn ha
   rw [hps] at this
   simpa using this
  ·intro p hp _
   rw [hps]
   simpa using hp
end Go.VL
namespace Go.VL
open Go
theorem zmu (obs : List (Nat × Ob)) (i : Nat) (σ : D → Option U) (js : List Nat) (x : Nat) : getK ((del obs i).map fun p => if js.contains p.1 then (p.1, zaY σ p.2) else p) x =
  if x = i then none else (getK obs x).map fun ob => if js.contains x then zaY σ ob else ob := by
 have e : ((del obs i).map fun p => if js.contains p.1 then (p.1, zaY σ p.2) else p) = (del obs i).map fun p => (p.1, if js.contains p.1 then zaY σ p.2 else p.2) := by
  apply List.map_congr_left
  intro p _
  split <;> rfl
 rw [e, zdh (fun x (o : Ob) => if js.contains x then zaY σ o else o), zac]
 by_cases h : x = i <;> simp [h]
theorem zaU (s : St) (i : Nat) (σ : D → Option U) (js : List Nat) (x : Nat) : getK (s.frzS i σ js).obs x = if x = i then none else (getK s.obs x).map fun ob => if js.contains x then zaY σ ob else ob := zmu s.obs i σ js x
theorem zaV (s : St) (i : Nat) (σ : D → Option U) (js : List Nat) (x : Nat) : getK (s.frzS i σ js).env x = (getK s.env x).map (VL.frzS σ) := zdh (fun _ d => VL.frzS σ d) s.env x
def zcz : U → U
 | .nil => .sl []
 | x => x
def zcy : U → U
 | .nil => .sl []
 | .agg cs => .agg (cs.map zcz)
 | x => x
def zcf : D → D
 | .u x => .u (zcy x)
 | d => d
def zbq : Ob → Ob
 | .box cs => .box (cs.map zcf)
 | ob => ob
def St.norm (s : St) : St := { s with env := s.env.map fun p => (p.1, zcf p.2), obs := s.obs.map fun p => (p.1, zbq p.2) }
theorem zlb (obs : List (Nat × Ob)) (x : Nat) : getK (obs.map fun p => (p.1, zbq p.2)) x = (getK obs x).map zbq := zdh (fun _ o => zbq o) obs x
theorem zdf (s : St) (x : Nat) : getK s.norm.obs x = (getK s.obs x).map zbq := zlb s.obs x
theorem zdg (s : St) (x : Nat) : getK s.norm.env x = (getK s.env x).map zcf := zdh (fun _ d => zcf d) s.env x
theorem zlY {m : Mem} {x : U} {v : Value} (h : RepU m x v) : RepU m (zcz x) v := by
 cases h with
 | nil => exact .slE none 0 fun _ => rfl
 | int k n => exact .int k n
 | bool b => exact .bool b
 | str l => exact .str l
 | oth v => exact .oth v
 | slE a c h => exact .slE a c h
 | sl rows b o sz c f h1 h2 h3 h4 h5 => exact .sl rows b o sz c f h1 h2 h3 h4 h5
 | row cells off b o f h1 h2 => exact .row cells off b o f h1 h2
 | agg cells vs h1 h2 => exact .agg cells vs h1 h2
 | map kk ag es0 es hp b ents clock f h1 h2 h3 h4 => exact .map kk ag es0 es hp b ents clock f h1 h2 h3 h4
theorem zlX {m : Mem} {x : U} {v : Value} (h : RepU m x v) : RepU m (zcy x) v := by
 cases h with
 | map kk ag es0 es hp b ents clock f h1 h2 h3 h4 => exact .map kk ag es0 es hp b ents clock f h1 h2 h3 h4
 | nil => exact .slE none 0 fun _ => rfl
 | int k n => exact .int k n
 | bool b => exact .bool b
 | str l => exact .str l
 | oth v => exact .oth v
 | slE a c h => exact .slE a c h
 | sl rows b o sz c f h1 h2 h3 h4 h5 => exact .sl rows b o sz c f h1 h2 h3 h4 h5
 | row cells off b o f h1 h2 => exact .row cells off b o f h1 h2
 | agg cells vs h1 h2 =>
  refine .agg _ vs (by simpa using h1) fun j u hj => ?_
  rw [List.getElem?_map] at hj
  cases hc : cells[j]? with
  | none => rw [hc] at hj; cases hj
  | some e => rw [hc] at hj; cases hj; exact zlY (h2 j e hc)
theorem ziG {k : Kr} {d : D} {v : Value} (h : Rep k d v) : Rep k (zcf d) v := by
 cases h with
 | u x v h => exact .u _ _ (zlX h)
 | any v => exact .any v
 | ptr i off b c h => exact .ptr i off b c h
 | vec i len h hh => exact .vec i len h hh
 | mp i b c h => exact .mp i b c h
 | elt i sz idx off b c h => exact .elt i sz idx off b c h
 | fnc f caps vs hl hr => exact .fnc f caps vs hl hr
 | agg cells vs hl hr => exact .agg cells vs hl hr
 | tup cells vs hl hr => exact .tup cells vs hl hr
theorem Wk.norm {Γ : Ctx} (s : St) : Wk Γ s s.norm := by
 intro k a w hin hs
 have ho : ∀ i ob, getK s.norm.obs i = some ob → ∃ ob0, getK s.obs i = some ob0 ∧ ob = zbq ob0 := fun i ob hi => by
  have : getK (s.obs.map fun p => (p.1, zbq p.2)) i = some ob := hi
  rw [zdh (fun _ o => zbq o)] at this
  cases hc : getK s.obs i with
  | none => rw [hc] at this; cases this
  | some o => rw [hc] at this; cases this; exact ⟨o, rfl, rfl⟩
 refine ⟨k, hin, ⟨⟨hs.sat.mem, fun i ob hi => ?_, fun i j x y g g' b hx hy hij => ?_⟩, hs.defers, hs.size, fun x d hx => ?_, hs.hdr⟩⟩
 ·obtain ⟨ob0, h1, rfl⟩ := ho i ob hi
  obtain ⟨g, h2, h3, h4⟩ := hs.sat.ob i ob0 h1
  refine ⟨g, h2, h3, ?_⟩
  cases ob0 with
  | box cs =>
   obtain ⟨b, vs, t, e, h5, h6, h7⟩ := h4
   refine ⟨b, vs, t, e, h5, by simpa using h6, fun j d hj => ?_⟩
   rw [List.getElem?_map] at hj
   cases hc : cs[j]? with
   | none => rw [hc] at hj; cases hj
   | some e => rw [hc] at hj; cases hj; exact ⟨(h7 j e hc).1, ziG (h7 j e hc).2⟩
  | vec e sz rows => exact h4
  | map kk ag es => exact h4
  | it => exact h4
 ·obtain ⟨o1, h1, _⟩ := ho i x hx
  obtain ⟨o2, h2, _⟩ := ho j y hy
  exact hs.sat.apart i j o1 o2 g g' b h1 h2 hij
 ·have hx' : getK (s.env.map fun p => (p.1, zcf p.2)) x = some d := hx
  rw [zdh (fun _ d => zcf d)] at hx'
  cases hc : getK s.env x with
  | none => rw [hc] at hx'; cases hx'
  | some e => rw [hc] at hx'; cases hx'; exact ⟨(hs.env x e hc).1, ziG (hs.env x e hc).2⟩
end Go.VL
namespace Go.VL
open Go
def frz1 (s : St) : List Nat → Option St
 | [] => none
 | i :: l => match getK s.obs i with
  | some (.vec _ _ rows) => match zch rows with
   | some us => some (s.frz i us (s.obs.map (·.1)))
   | none => frz1 s l
  | some (.map kk ag es) => match zcm es with
   | some us => some (s.frzS i (zbJ i kk ag us) (s.obs.map (·.1)))
   | none => frz1 s l
  | _ => frz1 s l
def frzN : Nat → St → St
 | 0, s => s
 | n + 1, s => match frz1 s (s.obs.map (·.1)) with
  | some s' => frzN n s'
  | none => s
theorem Wk.frz1 {Γ : Ctx} {s s' : St} : ∀ {l : List Nat}, frz1 s l = some s' → Wk Γ s s'
 | [], h => by cases h
 | i :: l, h => by
  rw [VL.frz1] at h
  split at h
  ·rename_i e sz rows hg
   split at h
   ·rename_i us hu
    cases h
    exact Wk.frz i _ hg hu
   ·exact Wk.frz1 h
  ·rename_i kk ag es hg
   split at h
   ·rename_i us hu
    cases h
    exact Wk.zrd i _ hg hu
   ·exact Wk.frz1 h
  ·exact Wk.frz1 h
theorem Wk.frzN {Γ : Ctx} : ∀ (n : Nat) (s : St), Wk Γ s (frzN n s)
 | 0, s => .refl s
 | n + 1, s => by
  rw [VL.frzN]
  split
  ·rename_i s' h
   exact (Wk.frz1 h).trans (Wk.frzN n s')
  ·exact .refl s
theorem EndW.frzN {P Γ fn n0 post e s} (n : Nat) (h : EndW P Γ fn n0 post e (frzN n s)) : EndW P Γ fn n0 post e s := .wk _ (Wk.frzN n s) h
theorem EndW.norm {P Γ fn n0 post e s} (h : EndW P Γ fn n0 post e s.norm) : EndW P Γ fn n0 post e s := .wk _ (Wk.norm s) h
/-- A variable told az a value. -/
def frzB (i : Nat) (s : St) : St := match getK s.obs i with
 | some (.box cs) => match zdy cs with
  | some us => s.frzS i (zbK i us) (s.obs.map (·.1))
  | none => s
 | _ => s
theorem Wk.zqv {Γ : Ctx} (i : Nat) (s : St) : Wk Γ s (VL.frzB i s) := by
 unfold VL.frzB
 split
 ·rename_i cs hg
  split
  ·rename_i us hu
   exact Wk.frzB i _ hg hu
  ·exact .refl s
 ·exact .refl s
theorem EndW.frzB {P Γ fn n0 post e s} (i : Nat) (h : EndW P Γ fn n0 post e (VL.frzB i s)) : EndW P Γ fn n0 post e s := .wk _ (Wk.zqv i s) h
end Go.VL
namespace Go.VL
open Go
theorem zrL {P Γ l s s' k} (h : s = s') : H P Γ l s k = H P Γ l s' k := by rw [h]
theorem znF {P Γ o r s s' k} (h : s = s') : zcp P Γ o r s k = zcp P Γ o r s' k := by rw [h]
theorem zqs {P l s s' k} (h : s = s') : HD P l s k = HD P l s' k := by rw [h]
theorem zpv {P l s s' fp fp' C k} (h : s = s') (h' : fp = fp') : HD2 P l s fp C k = HD2 P l s' fp' C k := by rw [h, h']
theorem zrK {P Γ c s s' Q} (h : s = s') : V P Γ c s Q = V P Γ c s' Q := by rw [h]
theorem zoN {P Γ Q k e s s'} (h : s = s') : zal P Γ Q k e s = zal P Γ Q k e s' := by rw [h]
theorem znG {α : Type} {Γ : Ctx} {S : α → St} {μ : α → Nat} {x : α} {s s' : St} (h : s = s') : LoopW Γ S μ x s = LoopW Γ S μ x s' := by rw [h]
theorem znH {α : Type} {n0 : Nat} {S : α → St} {μ : α → Nat} {x : α} {s s' : St} (h : s = s') : LoopI n0 S μ x s = LoopI n0 S μ x s' := by rw [h]
attribute [congr] zrL znF zqs zpv zrK zoN znG znH
theorem zb9 {P Γ Q b k s} : zal P Γ Q (.seq b k) .normal s = V P Γ b s (zal P Γ Q k) := rfl
theorem zaQ {P Γ Q b k s} : zal P Γ Q (.seq b k) .ret s = zal P Γ Q k .ret s := rfl
theorem zaI {P Γ Q b k s i} : zal P Γ Q (.seq b k) (.exit i) s = zal P Γ Q k (.exit i) s := rfl
theorem zca {P Γ Q i k s} : zal P Γ Q (.blk i k) .normal s = zal P Γ Q k .normal s := rfl
theorem zaR {P Γ Q i k s} : zal P Γ Q (.blk i k) .ret s = zal P Γ Q k .ret s := rfl
theorem zaK {P Γ Q i j k s} : zal P Γ Q (.blk i k) (.exit j) s = if j = i then zal P Γ Q k .normal s else zal P Γ Q k (.exit j) s := rfl
theorem zby {P Γ Q I k s} : zal P Γ Q (.loop I k) .normal s = I s := rfl
theorem zaJ {P Γ Q I k s} : zal P Γ Q (.loop I k) .ret s = zal P Γ Q k .ret s := rfl
theorem zaD {P Γ Q I k s i} : zal P Γ Q (.loop I k) (.exit i) s = zal P Γ Q k (.exit i) s := rfl
theorem zbz {P Γ Q e s} : zal P Γ Q .done e s = Q e s := rfl
/-- Control, told az a step. -/
def zcd (P : Program) (Γ : Ctx) (Q : Exit → St → Prop) : Code → Kt → St → Prop
 | .seq a b, k, s => zcd P Γ Q a (.seq b k) s
 | .block id c, k, s => zcd P Γ Q c (.blk id k) s
 | .skip, k, s => zal P Γ Q k .normal s
 | .label _, k, s => zal P Γ Q k .normal s
 | .exit id, k, s => zal P Γ Q k (.exit id) s
 | .ret, k, s => zal P Γ Q k .ret s
 | .cond c x y, k, s => match opd s c with
  | .u (.bool t) => (t = true → V P Γ x s (zal P Γ Q k)) ∧ (t = false → V P Γ y s (zal P Γ Q k))
  | _ => False
 | .region _ l false, k, s => match za5 l l.toList with | some l' => H P Γ l' s (zal P Γ Q k .normal) | none => False
 | c, k, s => V P Γ c s (zal P Γ Q k)
theorem zhl {P Γ Q} : ∀ {c : Code} {k : Kt} {s : St}, zcd P Γ Q c k s → V P Γ c s (zal P Γ Q k)
 | .seq a b, k, s, h => zpz (zhl (c := a) (by rw [zcd] at h; exact h))
 | .block id c, k, s, h => zmR (zhl (c := c) (by rw [zcd] at h; exact h))
 | .skip, k, s, h => zaq (by rw [zcd] at h; exact h)
 | .label _, k, s, h => zoQ (by rw [zcd] at h; exact h)
 | .exit id, k, s, h => zba (by rw [zcd] at h; exact h)
 | .ret, k, s, h => zar (by rw [zcd] at h; exact h)
 | .cond c x y, k, s, h => by
  rw [zcd] at h
  split at h
  ·rename_i t ht
   exact zpB ht h.1 h.2
  ·exact h.elim
 | .region id l false, k, s, h => by
  rw [zcd] at h
  have := zmN (P := P) (Γ := Γ) (s := s) (Q := Q) (kt := k) (id := id) (l := l.toList) fun K hK => by
   split at h
   ·rename_i l' hl
    simp only [Array.toArray_toList]
    rw [hl]
    exact fun all ops e K' a w h1 h2 Q' hQ => h all ops e K' a w h1 h2 Q' fun K2 a2 w2 s2 h3 h4 h5 => hQ K2 a2 w2 s2 h3 h4 (hK _ h5)
   ·exact h.elim
  simpa using this
 | .region _ _ true, k, s, h => by rw [zcd] at h; exact h; all_goals simp
 | .loop c, k, s, h => by rw [zcd] at h; exact h; all_goals simp
 | .rangeFunc .., k, s, h => by rw [zcd] at h; exact h; all_goals simp
 | .scope .., k, s, h => by rw [zcd] at h; exact h; all_goals simp
 | .goto .., k, s, h => by rw [zcd] at h; exact h; all_goals simp
 | .refuse .., k, s, h => by rw [zcd] at h; exact h; all_goals simp
theorem znE {P Γ Q c k s s'} (h : s = s') : zcd P Γ Q c k s = zcd P Γ Q c k s' := by rw [h]
attribute [congr] znE
section
variable {P : Program} {Γ : Ctx} {Q : Exit → St → Prop} {k : Kt} {s : St}
theorem zb8 {a b : Code} : zcd P Γ Q (.seq a b) k s = zcd P Γ Q a (.seq b k) s := by rw [zcd]
theorem zbb {i} {a : Code} : zcd P Γ Q (.block i a) k s = zcd P Γ Q a (.blk i k) s := by rw [zcd]
theorem zbw {c x y} : zcd P Γ Q (.cond c x y) k s = match opd s c with
  | .u (.bool t) => (t = true → V P Γ x s (zal P Γ Q k)) ∧ (t = false → V P Γ y s (zal P Γ Q k))
  | _ => False := by rw [zcd]
theorem zaZ {i} {l : List Oper} : zcd P Γ Q (.region i l.toArray false) k s = match za5 l.toArray l with | some l' => H P Γ l' s (zal P Γ Q k .normal) | none => False := by rw [zcd]
theorem zbu {c} : zcd P Γ Q (.loop c) k s = V P Γ (.loop c) s (zal P Γ Q k) := by rw [zcd] <;> simp
theorem zbv {i l} : zcd P Γ Q (.region i l true) k s = V P Γ (.region i l true) s (zal P Γ Q k) := by rw [zcd] <;> simp
theorem zai {a b : Code} (h : zcd P Γ Q a (.seq b k) s) : V P Γ (.seq a b) s (zal P Γ Q k) := zpz (zhl h)
theorem zam {i} {a : Code} (h : zcd P Γ Q a (.blk i k) s) : V P Γ (.block i a) s (zal P Γ Q k) := zmR (zhl h)
theorem zag {c x y} (h : zcd P Γ Q (.cond c x y) k s) : V P Γ (.cond c x y) s (zal P Γ Q k) := zhl h
theorem zas {i} {l : List Oper} (h : zcd P Γ Q (.region i l.toArray false) k s) : V P Γ (.region i l.toArray false) s (zal P Γ Q k) := zhl h
end
def wkO (s : St) (nx : Nat) : List (Nat × Ob) → Prop
 | [] => True
 | p :: l => (p.1 < nx ∧ getK s.obs p.1 = some p.2 ∧ p.2.under nx = true) ∧ wkO s nx l
def wkU (nx : Nat) : List (Nat × D) → Prop
 | [] => True
 | p :: l => p.2.under nx = true ∧ wkU nx l
theorem zlp {s nx} : ∀ {l : List (Nat × Ob)} {x ob}, wkO s nx l → getK l x = some ob → x < nx ∧ getK s.obs x = some ob ∧ ob.under nx = true
 | [], x, ob, _, h => by simp [getK] at h
 | (y, e) :: l, x, ob, hw, h => by
  rw [zaa] at h
  by_cases hx : x = y
  ·rw [if_pos hx] at h; cases h; subst hx; exact hw.1
  ·rw [if_neg hx] at h; exact zlp hw.2 h
theorem zln {nx} : ∀ {l : List (Nat × D)} {x d}, wkU nx l → getK l x = some d → d.under nx = true
 | [], x, d, _, h => by simp [getK] at h
 | (y, e) :: l, x, d, hw, h => by
  rw [zaa] at h
  by_cases hx : x = y
  ·rw [if_pos hx] at h; cases h; subst hx; exact hw.1
  ·rw [if_neg hx] at h; exact zln hw.2 h
theorem Wk.cut {Γ : Ctx} {s s' : St} (hn : s'.n = s.n) (hx : Γ.n0 ≤ s'.next) (ho : wkO s s'.next s'.obs) (hu : wkU s'.next s'.env) (he : wkE s s'.env) : Wk Γ s s' := by
 intro K0 a w hin0 hs0
 let s1 : St := { s with env := s'.env }
 obtain ⟨K1, hin1, hs1⟩ := (Wk.env (s := s) (s' := s1) (Γ := Γ) rfl rfl rfl he) K0 a w hin0 hs0
 refine ⟨_, Sim.weak (ρ := fun i => i) hin1 hs1 ⟨hn, fun x d' h => ⟨?_, zln hu h⟩, fun x d' h => (hs1.env x d' h).1, fun i ob' h => ?_, fun i j ob ob' _ _ e => e, fun i hi => ⟨rfl, by omega⟩⟩⟩
 ·have : s1.at x = d' := by show (getK s'.env x).getD .any = d'; rw [h]; rfl
  rw [this]
  exact D.le_id d'
 ·obtain ⟨h1, h2, h3⟩ := zlp ho h
  exact ⟨h1, ob', h2, Ob.le_id ob', h3⟩
theorem zad (n : Nat) (us : List (List U)) : ((rowsD us).all fun r => r.all (·.under n)) = true := by
 simp [rowsD, List.all_eq_true, D.under]
theorem zaf (n : Nat) (us : List (Key × List U)) : ((zhe us).all fun p => p.2.all (·.under n)) = true := by
 simp [zhe, List.all_eq_true, D.under]
def zdp : List D → Prop
 | [] => True
 | .u _ :: l => zdp l
 | _ => False
def zbU : List (List D) → Prop
 | [] => True
 | r :: l => zdp r ∧ zbU l
theorem zga : ∀ {r : List D}, zdp r → ∀ c ∈ r, ∃ x, c = D.u x
 | [], _, c, hc => by cases hc
 | d :: l, h, c, hc => by
  cases d <;> simp only [zdp] at h
  rcases List.mem_cons.1 hc with rfl | hc
  ·exact ⟨_, rfl⟩
  ·exact zga h c hc
theorem zea : ∀ {r : List (List D)}, zbU r → zjj r
 | [], _ => zlz
 | r :: l, h => zkI (zga h.1) (zea h.2)
@[simp] theorem zoq (l : List U) : zdp (l.map .u) = True := by
 induction l with
 | nil => simp [zdp]
 | cons a l ih => simpa [zdp] using ih
@[simp] theorem zmW (l : List (List U)) : zbU (rowsD l) = True := by
 induction l with
 | nil => simp [zbU]
 | cons a l ih => simpa [zbU] using ih
@[simp] theorem zlM (a b : List (List D)) : zbU (a ++ b) = (zbU a ∧ zbU b) := by
 induction a with
 | nil => simp [zbU]
 | cons r l ih => simp [zbU, ih, and_assoc]
def zpi (es : List (Key × List D)) : Prop := ∃ us, es = zhe us
def leU (ρ : Nat → Nat) (nx : Nat) : List D → List D → Prop
 | [], [] => True
 | a :: az, b :: bs => (D.le ρ a b ∧ b.under nx = true) ∧ leU ρ nx az bs
 | _, _ => False
def zoH (ρ : Nat → Nat) (nx : Nat) (B : List (List D)) : Prop := ∀ r ∈ B, ∀ c ∈ r, c = c.ren ρ ∧ c.under nx = true
def obR (ρ : Nat → Nat) (nx : Nat) : Ob → Ob → Prop
 | .box cs, .box cs' => leU ρ nx cs cs'
 | .vec e sz A, .vec e' sz' B => e = e' ∧ sz = sz' ∧ A = B ∧ (zbU B ∨ zoH ρ nx B)
 | .map kk ag es, .map kk' ag' es' => kk = kk' ∧ ag = ag' ∧ es = es' ∧ zpi es'
 | .it kk ag es left cur, .it kk' ag' es' left' cur' => kk = kk' ∧ ag = ag' ∧ es = es' ∧ left = left' ∧ cur = cur'
 | _, _ => False
def wkR (s : St) (ρ : Nat → Nat) (nx : Nat) : List (Nat × Ob) → Prop
 | [] => True
 | p :: l => (p.1 < nx ∧ (match getK s.obs (ρ p.1) with | some ob => obR ρ nx ob p.2 | none => False)) ∧ wkR s ρ nx l
def zoh (s : St) (ρ : Nat → Nat) (nx : Nat) : List (Nat × D) → Prop
 | [] => True
 | p :: l => ((match getK s.env p.1 with | some d => D.le ρ d p.2 | none => False) ∧ p.2.under nx = true) ∧ zoh s ρ nx l
theorem zmg {ρ nx} : ∀ {a b : List D}, leU ρ nx a b → leL ρ a b ∧ b.all (·.under nx) = true
 | [], [], _ => ⟨trivial, rfl⟩
 | a :: az, b :: bs, h => by
  obtain ⟨h1, h2⟩ := zmg h.2
  exact ⟨⟨h.1.1, h1⟩, by simp [h.1.2, h2]⟩
 | [], b :: bs, h => h.elim
 | a :: az, [], h => h.elim
theorem zos {ρ nx ob ob'} (h : obR ρ nx ob ob') : Ob.le ρ ob ob' ∧ ob'.under nx = true := by
 cases ob <;> cases ob' <;> simp only [obR] at h
 ·obtain ⟨h1, h2⟩ := zmg h
  exact ⟨Ob.zpI h1, h2⟩
 ·obtain ⟨rfl, rfl, rfl, h⟩ := h
  rcases h with h | h
  ·have hu := zea h
   exact ⟨Ob.zjP hu, Ob.zjd hu⟩
  ·refine ⟨⟨rfl, rfl, Nat.le_refl _, fun i r r' hi hi' => ?_⟩, ?_⟩
   ·rw [hi] at hi'
    cases hi'
    refine ⟨rfl, fun j c c' hj hj' => ?_⟩
    rw [hj] at hj'
    cases hj'
    exact .inr (.inl (h r (List.mem_of_getElem? hi) c (List.mem_of_getElem? hj)).1)
   ·simp only [Ob.under, List.all_eq_true]
    exact fun r hr c hc => (h r hr c hc).2
 ·obtain ⟨rfl, rfl, rfl, us, rfl⟩ := h
  refine ⟨⟨rfl, rfl, rfl, fun i p p' hi hi' => ?_⟩, zaf _ _⟩
  rw [hi] at hi'
  cases hi'
  refine ⟨rfl, fun j c c' hj hj' => ?_⟩
  rw [hj] at hj'
  cases hj'
  rw [zhe, List.getElem?_map] at hi
  cases hq : us[i]? with
  | none => rw [hq] at hi; cases hi
  | some q =>
   rw [hq] at hi
   cases hi
   simp only [List.getElem?_map] at hj
   cases hx : q.2[j]? with
   | none => rw [hx] at hj; cases hj
   | some x => rw [hx] at hj; cases hj; exact .inr (.inl (by simp [D.ren]))
 ·exact ⟨h, rfl⟩
theorem zlo {s ρ nx} : ∀ {l : List (Nat × Ob)}, wkR s ρ nx l → ∀ x ob', getK l x = some ob' → x < nx ∧ ∃ ob, getK s.obs (ρ x) = some ob ∧ Ob.le ρ ob ob' ∧ ob'.under nx = true
 | [], _, x, d', h => by simp [getK] at h
 | (y, d) :: l, h, x, d', hx => by
  rw [zaa] at hx
  by_cases e : x = y
  ·rw [if_pos e] at hx
   cases hx
   subst e
   obtain ⟨⟨h1, h2⟩, _⟩ := h
   refine ⟨h1, ?_⟩
   split at h2
   ·rename_i ob hg
    exact ⟨ob, hg, zos h2⟩
   ·exact h2.elim
  ·rw [if_neg e] at hx; exact zlo h.2 x d' hx
theorem zho {s ρ nx} : ∀ {l : List (Nat × D)}, zoh s ρ nx l → ∀ x d', getK l x = some d' → (∃ d, getK s.env x = some d ∧ D.le ρ d d') ∧ d'.under nx = true
 | [], _, x, d', h => by simp [getK] at h
 | (y, d) :: l, h, x, d', hx => by
  rw [zaa] at hx
  by_cases e : x = y
  ·rw [if_pos e] at hx
   cases hx
   subst e
   obtain ⟨⟨h1, h2⟩, _⟩ := h
   refine ⟨?_, h2⟩
   split at h1
   ·rename_i d0 hg
    exact ⟨d0, hg, h1⟩
   ·exact h1.elim
  ·rw [if_neg e] at hx; exact zho h.2 x d' hx
theorem Wk.ren {Γ : Ctx} {s s' : St} (ρ : Nat → Nat) (hn : s'.n = s.n) (hx : ∀ i, i < Γ.n0 → ρ i = i ∧ i < s'.next) (he : zoh s ρ s'.next s'.env) (ho : wkR s ρ s'.next s'.obs)
  (hi : ∀ i ∈ s'.obs.map (·.1), ∀ j ∈ s'.obs.map (·.1), ρ i = ρ j → i = j) : Wk Γ s s' := by
 intro K0 a w hin0 hs0
 refine ⟨_, Sim.weak (ρ := ρ) hin0 hs0 ⟨hn, fun x d' h => ?_, fun x d' h => ?_, fun i ob h => zlo ho i ob h, fun i j ob ob' hi' hj' e => hi i (zfR hi') j (zfR hj') e, hx⟩⟩
 ·obtain ⟨⟨d, h1, h2⟩, h3⟩ := zho he x d' h
  have : s.at x = d := by show (getK s.env x).getD .any = d; rw [h1]; rfl
  rw [this]
  exact ⟨h2, h3⟩
 ·obtain ⟨⟨d, h1, h2⟩, h3⟩ := zho he x d' h
  exact (hs0.env x d h1).1
theorem zaF (σ : D → Option U) (us : List (Key × List U)) : (zhe us).map (fun p => (p.1, p.2.map (frzS σ))) = zhe us := by
 simp only [zhe, List.map_map]
 apply List.map_congr_left
 intro p _
 have : (p.2.map D.u).map (frzS σ) = p.2.map D.u := by
  rw [List.map_map]
  apply List.map_congr_left
  intro x _
  simp [frzS]
 simp [Function.comp, frzS]
theorem zaA (σ : D → Option U) (us : List (List U)) : (rowsD us).map (fun r => r.map (frzS σ)) = rowsD us := by
 simp only [rowsD, List.map_map]
 apply List.map_congr_left
 intro p _
 simp [Function.comp, frzS]
end Go.VL
namespace Go.Proofs.YtfcopibncpkdoaaDoor
open Go Go.VL
attribute [local simp] zcp zbN evPure opd uOf zaB St.put St.at getK binD binI binS binB nilD aggD zeJ ze8 lookD lookR zbT Go.VL.nextD zbY zfe zfd zev zbM mkV zaW zaP zaO zaN zcm zaM za1 zbc mapEff zcS zek Key.kk shiftI arith unD convD zcP loadD cellsAt fieldAddrD fieldD indexAddrD indexD sliceD cutD lenD minmaxD nilCheckD buildD fillD zbt zcq zdR setAll zcg zdy zbQ zeN zbO St.add zaC zbj rowsOf zcM zce zaj zac zaa za5 zcl zaH entry za4 za6 valD zbS zb7 zez zct zcu zbx zbs zav zaT za7 delAll effD St.effS zb9 zaQ zaI zca zaR zaK zby zaJ zaD zbz zb8 zbb zbw zaZ zbu zbv zat mkD zbk zbd zbB zav zbP D.ids Op.operands Call.operands za8 makeIfD typeAssertD ze6 zcH zcI zeR zbV IntKind.bits zch List.take_of_length_le List.range_succ
attribute [local irreducible] V G H HD HD2 zal Eff CallP CallV EndOK Fun Ret FinOK LoopI LoopW EndW
inductive Exp where
 | mk (op n unit : Int) (s : List UInt8) (args : List Exp)
 deriving Inhabited
def Exp.row : Exp → List U
 | .mk op n u s args => [.int .i64 op, .int .i64 n, .int .i64 u, .str s, .sl (args.map fun e => e.row)]
def Exp.op : Exp → Int | .mk op _ _ _ _ => op
def Exp.n : Exp → Int | .mk _ n _ _ _ => n
def Exp.unit : Exp → Int | .mk _ _ u _ _ => u
def Exp.s : Exp → List UInt8 | .mk _ _ _ s _ => s
def Exp.args : Exp → List Exp | .mk _ _ _ _ args => args
theorem Exp.row_eq (e : Exp) : e.row = [.int .i64 e.op, .int .i64 e.n, .int .i64 e.unit, .str e.s, .sl (e.args.map Exp.row)] := by
 cases e with
 | mk op n u s args => rw [Exp.row]; rfl
structure Var where
 name : List UInt8
 unit : Int
 n : Int
 deriving DecidableEq, Inhabited
structure Let where
 name : List UInt8
 body : Exp
 deriving Inhabited
def Var.row (v : Var) : List U := [.str v.name, .int .i64 v.unit, .int .i64 v.n]
def Let.row (l : Let) : List U := .str l.name :: l.body.row
def vars (l : List Var) : U := .sl (l.map Var.row)
def lets (l : List Let) : U := .sl (l.map Let.row)
def zb4 (c : UInt8) : Bool := decide (97 ≤ c.toNat) && decide (c.toNat ≤ 122)
def za9 (c : UInt8) : Bool := decide (48 ≤ c.toNat) && decide (c.toNat ≤ 57)
theorem zdN (c : UInt8) : Fun Tryd.prog 102 [.u (.int .u8 c.toNat)] (· = .u (.bool (zb4 c))) := by
 unfold zb4
 (refine Fun.of_body Tryd.func102 rfl (by simp) fun Γ hn => ?_); simp only [entry, List.zipIdx_cons, List.zipIdx_nil, List.map_cons, List.map_nil, Nat.zero_add, Tryd.ntmps102]
 repeat' (first
  | (refine zah ?_; simp)
  | (refine zak ?_; simp)
  | (refine zai ?_; simp)
  | (refine zar ?_; simp only [zal])
  | (refine ⟨fun hc => ?_, fun hc => ?_⟩ <;> (try (exfalso; omega)))
  | fail)
 all_goals
  (refine EndOK.val (.inr rfl) ?_; simp [zay, zae, zau, Tryd.results102])
 all_goals first | omega | (simp; omega) | (rw [Bool.eq_iff_iff]; simp; omega)
theorem zei (c : UInt8) : Fun Tryd.prog 104 [.u (.int .u8 c.toNat)] (· = .u (.bool (za9 c))) := by
 unfold za9
 (refine Fun.of_body Tryd.func104 rfl (by simp) fun Γ hn => ?_); simp only [entry, List.zipIdx_cons, List.zipIdx_nil, List.map_cons, List.map_nil, Nat.zero_add, Tryd.ntmps104]
 repeat' (first
  | (refine zah ?_; simp)
  | (refine zak ?_; simp)
  | (refine zai ?_; simp)
  | (refine zar ?_; simp only [zal])
  | (refine ⟨fun hc => ?_, fun hc => ?_⟩ <;> (try (exfalso; omega)))
  | fail)
 all_goals
  (refine EndOK.val (.inr rfl) ?_; simp [zay, zae, zau, Tryd.results104])
 all_goals first | omega | (simp; omega) | (rw [Bool.eq_iff_iff]; simp; omega)
theorem zlm (c : UInt8) : Fun Tryd.prog 103 [.u (.int .u8 c.toNat)] (· = .u (.bool (zb4 c || za9 c))) := by
 (refine Fun.of_body Tryd.func103 rfl (by simp) fun Γ hn => ?_); simp only [entry, List.zipIdx_cons, List.zipIdx_nil, List.map_cons, List.map_nil, Nat.zero_add, Tryd.ntmps103]
 repeat' (first
  | (refine zah ?_; simp)
  | (refine zak ?_; simp)
  | (refine zai ?_; simp)
  | (refine zar ?_; simp only [zal])
  | (refine ⟨fun hc => ?_, fun hc => ?_⟩ <;> (try (exfalso; omega)))
  | (refine CallP.fun_ (zdN c) (by first | rfl | fail) (by first | assumption | (simp; done) | fail) (by first | (simp; done) | (simp; rfl) | fail) (by first | (simp; done) | fail) (fun d hd => ?_); subst hd; (try simp))
  | (refine CallP.fun_ (zei c) (by first | rfl | fail) (by first | assumption | (simp; done) | fail) (by first | (simp; done) | (simp; rfl) | fail) (by first | (simp; done) | fail) (fun d hd => ?_); subst hd; (try simp))
  | fail)
 all_goals
  (refine EndOK.val (.inr rfl) ?_; simp [zay, zae, zau, Tryd.results103])
 all_goals simp_all
def zcs (p : UInt8 → Bool) (l : List UInt8) : Nat := (l.takeWhile p).length
theorem zfN {p : UInt8 → Bool} {l : List UInt8} {i : Nat} (h : ∀ c ∈ l.take i, p c = true) (hi : i ≤ l.length) (he : i = l.length ∨ ∃ c, l[i]? = some c ∧ p c = false) : zcs p l = i := by
 unfold zcs
 induction l generalizing i with
 | nil => simp at hi; simp [hi]
 | cons a l ih =>
  cases i with
  | zero =>
   rcases he with he | ⟨c, h1, h2⟩
   ·simp at he
   ·simp at h1; subst h1; simp [h2]
  | succ i =>
   have ha : p a = true := h a (by simp)
   rw [List.takeWhile_cons, if_pos ha, List.length_cons]
   rw [ih (i := i) (fun c hc => h c (by simp [hc])) (by simpa using hi) (by simpa using he)]
/-- The first place where something holds; -1 without one. -/
def zg9 {α : Type} (p : α → Bool) : List α → Int → Int
 | [], _ => -1
 | x :: l, i => if p x = true then i else zg9 p l (i + 1)
theorem zhR {α : Type} {p : α → Bool} {l : List α} {i : Nat} {x : α} {k : Int} (h : ∀ c ∈ l.take i, p c = false) (hx : l[i]? = some x) (hp : p x = true) : zg9 p l k = k + i := by
 induction l generalizing i k with
 | nil => simp at hx
 | cons s l ih =>
  cases i with
  | zero => simp at hx; simp [zg9, hx, hp]
  | succ i =>
   rw [zg9, if_neg (by rw [h s (by simp)]; simp), ih (i := i) (fun c hc => h c (by simp [hc])) (by simpa using hx)]
   omega
theorem zeY {α : Type} {p : α → Bool} {l : List α} {k : Int} (h : ∀ c ∈ l, p c = false) : zg9 p l k = -1 := by
 induction l generalizing k with
 | nil => rfl
 | cons s l ih => rw [zg9, if_neg (by rw [h s (by simp)]; simp), ih fun c hc => h c (by simp [hc])]
theorem zhS {α : Type} (p : α → Bool) (l : List α) : ∀ k : Int, 0 ≤ k → (0 ≤ zg9 p l k ↔ l.any p = true) := by
 induction l with
 | nil => intro k hk; simp [zg9]
 | cons s l ih =>
  intro k hk
  by_cases h : p s = true
  ·simp [zg9, h, hk]
  ·rw [zg9, if_neg h, ih (k + 1) (by omega)]
   simp [h]
theorem zaG {α : Type} {p : α → Prop} {l : List α} {i : Nat} {x : α} (hx : l[i]? = some x) (h : ∀ c ∈ l.take i, p c) (hp : p x) : ∀ c ∈ l.take (i + 1), p c := by
 obtain ⟨hi, rfl⟩ := List.getElem?_eq_some_iff.1 hx
 rw [List.take_succ_eq_append_getElem hi]
 intro c hc
 rcases List.mem_append.1 hc with hc | hc
 ·exact h c hc
 ·simp at hc; subst hc; exact hp
theorem zeV (l : List UInt8) (hl : l.length ≤ 1000000) (f : FuncId) (p : UInt8 → Bool) (hf : ∀ c ∈ l, Fun Tryd.prog f [.u (.int .u8 c.toNat)] (· = .u (.bool (p c)))) (hcl : zao Tryd.prog f = true) :
  Fun Tryd.prog 93 [.u (.str l), .fnc (.func f) []] (· = .u (.int .i64 (zcs p l))) := by
 (refine Fun.of_body Tryd.func93 rfl (by simp) fun Γ hn => ?_); simp only [entry, List.zipIdx_cons, List.zipIdx_nil, List.map_cons, List.map_nil, Nat.zero_add, Tryd.ntmps93]
 repeat' (first
  | (refine zah ?_; simp)
  | (refine zak ?_; simp)
  | (refine zai ?_; simp)
  | fail)
 refine zbG (α := { i : Nat // i ≤ l.length ∧ ∀ c ∈ l.take i, p c = true }) [0, 1] (fun i => [(5, .u (.int .i64 i.1))]) (fun i => l.length - i.1) ⟨0, by omega, by simp⟩ ?_ ?_
 ·exact (Wk.env rfl rfl rfl (by simp [wkE, St.lp, zap, zaa, getK] <;> (try (intros; simp_all; done)) <;> (try (intros; omega)) <;> (try grind)))
 rintro ⟨i, hi, hb⟩
 simp [St.lp, St.only, zap, zaa, getK]
 rcases hx : l[i]? with _ | c
 ·have hge : l.length ≤ i := by simpa using hx
  repeat' (first
  | (refine zah ?_; simp [hx])
  | (refine zak ?_; simp [hx])
  | (refine ⟨by omega, ?_⟩)
  | (refine zai ?_; simp [hx])
  | (refine zag ?_; simp [hx])
  | (refine zar ?_; simp only [zal])
  | (refine zba ?_; simp [zal])
  | (intro hc <;> (try (exfalso; omega)))
  | fail)
  (refine EndOK.val (.inr rfl) ?_; simp [zay, zae, zau, Tryd.results93])
  rw [zfN hb hi (.inl (by omega))]
 ·have hlt := (List.getElem?_eq_some_iff.1 hx).1
  have h1 := hf c (List.mem_of_getElem? hx)
  repeat' (first
  | (refine zah ?_; simp [hx])
  | (refine zak ?_; simp [hx])
  | (refine ⟨by omega, ?_⟩)
  | (refine zai ?_; simp [hx])
  | (refine zag ?_; simp [hx])
  | (refine zam ?_; simp [hx])
  | (refine zar ?_; simp only [zal])
  | (refine zaq ?_; simp only [zal])
  | (refine zba ?_; simp [zal])
  | (refine ⟨?_, by omega⟩)
  | (refine ⟨fun hc => ?_, fun hc => ?_⟩ <;> (try (exfalso; omega)))
  | (intro hc <;> (try (exfalso; omega)))
  | (refine CallP.fun_ (h1) (by first | rfl | fail) (by first | assumption | (simp; done) | fail) (by first | (simp [hx]; done) | (simp [hx]; rfl) | fail) (by first | (simp; done) | fail) (fun d hd => ?_); subst hd; (try simp [hx]))
  | fail)
  ·refine LoopW.next ⟨i + 1, by omega, zaG hx hb (by assumption)⟩ (by simp; omega) ?_
   exact (Wk.env rfl rfl rfl (by simp [wkE, St.lp, zap, zaa, getK] <;> (try (intros; simp_all; done)) <;> (try (intros; omega)) <;> (try grind)))
  ·(refine EndOK.val (.inr rfl) ?_; simp [zay, zae, zau, Tryd.results93])
   rw [zfN hb hi (.inr ⟨c, hx, by assumption⟩)]
def zeO (s : List UInt8) : Bool := match s with
 | [] => false
 | c :: _ => zb4 c && decide (s.length ≤ 20) && decide (zcs (fun c => zb4 c || za9 c) s = s.length)
theorem zjT (s : List UInt8) : Fun Tryd.prog 77 [.u (.str s)] (· = .u (.bool (zeO s))) := by
 cases s with
 | nil =>
  (refine Fun.of_body Tryd.func77 rfl (by simp) fun Γ hn => ?_); simp only [entry, List.zipIdx_cons, List.zipIdx_nil, List.map_cons, List.map_nil, Nat.zero_add, Tryd.ntmps77]
  repeat' (first
  | (refine zah ?_; simp)
  | (refine zak ?_; simp)
  | (refine zai ?_; simp)
  | (refine zag ?_; simp)
  | (refine zar ?_; simp only [zal])
  | fail)
  all_goals
   (refine EndOK.val (.inr rfl) ?_; simp [zay, zae, zau, Tryd.results77])
  all_goals simp [zeO]
 | cons c s =>
  by_cases hl : s.length + 1 ≤ 20
  ·have hs := zeV (c :: s) (by simp; omega) 103 _ (fun c _ => zlm c) (by simp)
   (refine Fun.of_body Tryd.func77 rfl (by simp) fun Γ hn => ?_); simp only [entry, List.zipIdx_cons, List.zipIdx_nil, List.map_cons, List.map_nil, Nat.zero_add, Tryd.ntmps77]
   repeat' (first
  | (refine zah ?_; simp)
  | (refine zak ?_; simp)
  | (refine ⟨by omega, ?_⟩)
  | (refine zai ?_; simp)
  | (refine zag ?_; simp)
  | (refine zar ?_; simp only [zal])
  | (refine zaq ?_; simp only [zal])
  | (refine ⟨fun hc => ?_, fun hc => ?_⟩ <;> (try (exfalso; omega)))
  | (intro hc <;> (try (exfalso; omega)))
  | (refine CallP.fun_ (zdN c) (by first | rfl | fail) (by first | assumption | (simp; done) | fail) (by first | (simp; done) | (simp; rfl) | fail) (by first | (simp; done) | fail) (fun d hd => ?_); subst hd; (try simp))
  | (refine CallP.fun_ (hs) (by first | rfl | fail) (by first | assumption | (simp; done) | fail) (by first | (simp; done) | (simp; rfl) | fail) (by first | (simp; done) | fail) (fun d hd => ?_); subst hd; (try simp))
  | fail)
   all_goals
    (refine EndOK.val (.inr rfl) ?_; simp [zay, zae, zau, Tryd.results77])
   all_goals
    simp [zeO, *]
    try omega
  ·(refine Fun.of_body Tryd.func77 rfl (by simp) fun Γ hn => ?_); simp only [entry, List.zipIdx_cons, List.zipIdx_nil, List.map_cons, List.map_nil, Nat.zero_add, Tryd.ntmps77]
   repeat' (first
  | (refine zah ?_; simp)
  | (refine zak ?_; simp)
  | (refine zai ?_; simp)
  | (refine zag ?_; simp)
  | (refine zar ?_; simp only [zal])
  | (refine ⟨?_, by omega⟩)
  | (refine ⟨fun hc => ?_, fun hc => ?_⟩ <;> (try (exfalso; omega)))
  | (intro hc <;> (try (exfalso; omega)))
  | (refine CallP.fun_ (zdN c) (by first | rfl | fail) (by first | assumption | (simp; done) | fail) (by first | (simp; done) | (simp; rfl) | fail) (by first | (simp; done) | fail) (fun d hd => ?_); subst hd; (try simp))
  | fail)
   all_goals
    (refine EndOK.val (.inr rfl) ?_; simp [zay, zae, zau, Tryd.results77])
   all_goals
    simp [zeO, *]
    try omega
def zmV (l : List (List UInt8)) : U := .sl (l.map fun s => [.str s])
def zmp : List (List UInt8) → List UInt8 → Int → Int
 | [], _, _ => -1
 | s :: l, x, i => if x = s then i else zmp l x (i + 1)
theorem zoD {l : List (List UInt8)} {x : List UInt8} {i : Nat} {k : Int} (h : ∀ c ∈ l.take i, ¬ x = c) (hx : l[i]? = some x) : zmp l x k = k + i := by
 induction l generalizing i k with
 | nil => simp at hx
 | cons s l ih =>
  cases i with
  | zero => simp at hx; simp [zmp, hx]
  | succ i =>
   rw [zmp, if_neg (h s (by simp)), ih (i := i) (fun c hc => h c (by simp [hc])) (by simpa using hx)]
   omega
theorem zmo {l : List (List UInt8)} {x : List UInt8} {k : Int} (h : ∀ c ∈ l, ¬ x = c) : zmp l x k = -1 := by
 induction l generalizing k with
 | nil => rfl
 | cons s l ih => rw [zmp, if_neg (h s (by simp)), ih fun c hc => h c (by simp [hc])]
theorem zk3 (l : List (List UInt8)) (x : List UInt8) : Fun Tryd.prog 105 [.u (zmV l), .u (.str x)] (· = .u (.int .i64 (zmp l x 0))) := by
 (refine Fun.of_body Tryd.func105 rfl (by simp) fun Γ hn => ?_); simp only [entry, List.zipIdx_cons, List.zipIdx_nil, List.map_cons, List.map_nil, Nat.zero_add, Tryd.ntmps105]
 simp only [zmV]
 refine zfJ (x := 0) rfl fun hl => ?_
 simp at hl
 repeat' (first
  | (refine zah ?_; simp)
  | (refine zak ?_; simp)
  | (refine zai ?_; simp)
  | (refine zam ?_; simp)
  | fail)
 refine zbG (α := { i : Nat // i ≤ l.length ∧ ∀ c ∈ l.take i, ¬ x = c }) [0, 1, 7] (fun i => [(8, .u (.int .i64 i.1))]) (fun i => l.length - i.1) ⟨0, by omega, by simp⟩ ?_ ?_
 ·exact (Wk.env rfl rfl rfl (by simp [wkE, St.lp, zap, zaa, getK] <;> (try (intros; simp_all; done)) <;> (try (intros; omega)) <;> (try grind)))
 rintro ⟨i, hi, hb⟩
 simp [St.lp, St.only, zap, zaa, getK]
 rcases hx : l[i]? with _ | c
 ·have hge : l.length ≤ i := by simpa using hx
  repeat' (first
  | (refine zah ?_; simp [hx])
  | (refine zak ?_; simp [hx])
  | (refine ⟨by omega, ?_⟩)
  | (refine zai ?_; simp [hx])
  | (refine zar ?_; simp only [zal])
  | (refine zba ?_; simp [zal])
  | (intro hc <;> (try (exfalso; omega)))
  | fail)
  (refine EndOK.val (.inr rfl) ?_; simp [zay, zae, zau, Tryd.results105])
  rw [List.take_of_length_le hge] at hb
  exact (zmo hb).symm
 ·have hlt := (List.getElem?_eq_some_iff.1 hx).1
  by_cases hxc : x = c
  ·subst hxc
   repeat' (first
  | (refine zah ?_; simp [hx])
  | (refine zak ?_; simp [hx])
  | (refine zai ?_; simp [hx])
  | (refine zag ?_; simp [hx])
  | (refine zar ?_; simp only [zal])
  | (refine zaq ?_; simp only [zal])
  | (refine ⟨?_, by omega⟩)
  | (intro hc <;> (try (exfalso; omega)))
  | fail)
   (refine EndOK.val (.inr rfl) ?_; simp [zay, zae, zau, Tryd.results105])
   rw [zoD hb hx]
   omega
  ·repeat' (first
  | (refine zah ?_; simp [hx, hxc])
  | (refine zak ?_; simp [hx, hxc])
  | (refine ⟨by omega, ?_⟩)
  | (refine zai ?_; simp [hx, hxc])
  | (refine zag ?_; simp [hx, hxc])
  | (refine zas ?_; simp [hx, hxc])
  | (refine zaq ?_; simp only [zal])
  | (refine ⟨?_, by omega⟩)
  | (intro hc <;> (try (exfalso; omega)))
  | fail)
   refine LoopW.next ⟨i + 1, by omega, zaG hx hb hxc⟩ (by simp; omega) ?_
   exact (Wk.env rfl rfl rfl (by simp [wkE, St.lp, zap, zaa, getK] <;> (try (intros; simp_all; done)) <;> (try (intros; omega)) <;> (try grind)))
theorem znu (l : List (List UInt8)) (x : List UInt8) : ∀ k : Int, 0 ≤ k → decide (0 ≤ zmp l x k) = l.contains x := by
 induction l with
 | nil => intro k hk; simp [zmp]
 | cons s l ih =>
  intro k hk
  by_cases h : x = s
  ·subst h; simp [zmp, hk]
  ·rw [zmp, if_neg h, ih (k + 1) (by omega)]
   simp [h]
theorem zhZ (l : List (List UInt8)) (x : List UInt8) : Fun Tryd.prog 78 [.u (zmV l), .u (.str x)] (· = .u (.bool (l.contains x))) := by
 have h1 := zk3 l x
 (refine Fun.of_body Tryd.func78 rfl (by simp) fun Γ hn => ?_); simp only [entry, List.zipIdx_cons, List.zipIdx_nil, List.map_cons, List.map_nil, Nat.zero_add, Tryd.ntmps78]
 simp only [zmV] at h1 ⊢
 repeat' (first
  | (refine zah ?_; simp)
  | (refine zak ?_; simp)
  | (refine zai ?_; simp)
  | (refine zar ?_; simp only [zal])
  | (refine CallP.fun_ (h1) (by first | rfl | fail) (by first | assumption | (simp; done) | fail) (by first | (simp; done) | (simp; rfl) | fail) (by first | (simp; done) | fail) (fun d hd => ?_); subst hd; (try simp))
  | fail)
 (refine EndOK.val (.inr rfl) ?_; simp [zay, zae, zau, Tryd.results78])
 have h2 := znu l x 0 (by omega)
 simpa using h2
def words : List (List UInt8) := [[97, 110, 100], [98, 97, 99, 107, 115], [98, 105, 100, 100, 105, 110, 103], [99, 105, 114, 99, 108, 101], [99, 111, 105, 110, 115], [99, 111, 118, 101, 114], [100, 97, 121, 115], [100, 114, 97, 119], [100, 117, 101], [101, 108, 115, 101], [102, 97, 108, 115, 101], [102, 105, 110, 101], [102, 117, 110, 100], [103, 114, 97, 99, 101], [104, 111, 108, 100], [105, 102], [106, 111, 105, 110], [106, 117, 114, 121], [108, 101, 116], [109, 97, 120], [109, 105, 108, 108, 101], [109, 105, 110], [110, 101, 101, 100], [110, 111, 116], [111, 114], [111, 114, 100, 101, 114], [112, 97, 121], [112, 101, 114], [114, 111, 116, 97, 116, 105, 110, 103], [115, 97, 118, 105, 110, 103], [115, 101, 97, 108, 101, 100], [116, 104, 101, 110], [116, 114, 117, 101], [118, 111, 105, 99, 101, 115], [119, 97, 105, 116]]
set_option maxHeartbeats 4000000 in
set_option maxRecDepth 100000 in
theorem ziq : Fun Tryd.prog 79 [] (· = .u (zmV words)) := by
 (refine Fun.of_bodyW Tryd.func79 rfl (by simp) fun Γ hn => ?_); simp only [entry, List.zipIdx_cons, List.zipIdx_nil, List.map_cons, List.map_nil, Nat.zero_add, Tryd.ntmps79]
 simp only [zmV, words, List.map_cons, List.map_nil]
 repeat' (first
  | (refine zah ?_; simp [za6, za4])
  | (refine zak ?_; simp [za6, za4])
  | (refine zai ?_; simp [za6, za4])
  | (refine zar ?_; simp only [zal])
  | fail)
 (refine EndW.frzN 1 ?_; simp [frzN, frz1, zaV, zaU, St.frz, St.frzS, frzS, fv, zbH, zbJ, zbK, zaY, zaF, zaA, del, frz, zb2])
 refine EndW.here ?_
 (refine EndOK.val (.inr rfl) ?_; simp [zay, zae, zau, Tryd.results79])
def zeW (s : List UInt8) : Bool := zeO s && !words.contains s
set_option maxRecDepth 100000 in
theorem zhM (s : List UInt8) : Fun Tryd.prog 48 [.u (.str s)] (· = .u (.bool (zeW s))) := by
 have h1 := zhZ words s
 have h2 := zjT s
 have h3 := ziq
 generalize hw : words.contains s = w at h1
 simp only [zmV] at h1 h3
 generalize (words.map fun s => [U.str s]) = W at h1 h3
 unfold zeW
 rw [hw]
 clear hw
 generalize zeO s = b at h2 ⊢
 cases b
 all_goals
  (refine Fun.of_body Tryd.func48 rfl (by simp) fun Γ hn => ?_); simp only [entry, List.zipIdx_cons, List.zipIdx_nil, List.map_cons, List.map_nil, Nat.zero_add, Tryd.ntmps48]
  repeat' (first
  | (refine zah ?_; simp)
  | (refine zak ?_; simp)
  | (refine zai ?_; simp)
  | (refine zar ?_; simp only [zal])
  | (refine CallP.fun_ (h1) (by first | rfl | fail) (by first | assumption | (simp; done) | fail) (by first | (simp; done) | (simp; rfl) | fail) (by first | (simp; done) | fail) (fun d hd => ?_); subst hd; (try simp))
  | (refine CallP.fun_ (h2) (by first | rfl | fail) (by first | assumption | (simp; done) | fail) (by first | (simp; done) | (simp; rfl) | fail) (by first | (simp; done) | fail) (fun d hd => ?_); subst hd; (try simp))
  | (refine CallP.fun_ (h3) (by first | rfl | fail) (by first | assumption | (simp; done) | fail) (by first | (simp; done) | (simp; rfl) | fail) (by first | (simp; done) | fail) (fun d hd => ?_); subst hd; (try simp))
  | fail)
  (refine EndOK.val (.inr rfl) ?_; simp [zay, zae, zau, Tryd.results48])
def zaE (op : Int) : Int := if op = 0 ∨ op = 1 then 0 else if op = 12 then 1 else if op = 13 then 3 else if op < 0 ∨ 14 ≤ op then -1 else 2
theorem ziE (op : Int) : Fun Tryd.prog 47 [.u (.int .i64 op)] (· = .u (.int .i64 (zaE op))) := by
 unfold zaE
 (refine Fun.of_body Tryd.func47 rfl (by simp) fun Γ hn => ?_); simp only [entry, List.zipIdx_cons, List.zipIdx_nil, List.map_cons, List.map_nil, Nat.zero_add, Tryd.ntmps47]
 repeat' (first
  | (refine zah ?_; simp)
  | (refine zak ?_; simp)
  | (refine zai ?_; simp)
  | (refine zag ?_; simp)
  | (refine zam ?_; simp)
  | (refine zas ?_; simp)
  | (refine zar ?_; simp only [zal])
  | (refine zaq ?_; simp only [zal])
  | (refine ⟨?_, by omega⟩)
  | (refine ⟨fun hc => ?_, fun hc => ?_⟩ <;> (try (exfalso; omega)))
  | (intro hc <;> (try (exfalso; omega)))
  | fail)
 all_goals
  (refine EndOK.val (.inr rfl) ?_; simp [zay, zae, zau, Tryd.results47])
 all_goals (repeat' split) <;> first | rfl | omega | simp_all
theorem zoM : Exp.row = fun e => [.int .i64 e.op, .int .i64 e.n, .int .i64 e.unit, .str e.s, .sl (e.args.map Exp.row)] := funext fun e => e.row_eq
def za3 (e : Exp) : D := .u (.agg [.int .i64 e.op, .int .i64 e.n, .int .i64 e.unit, .str e.s, .sl (e.args.map Exp.row)])
def zpb (l : List Exp) : U := .sl (l.map fun e => [.int .i64 e.op, .int .i64 e.n, .int .i64 e.unit, .str e.s, .sl (e.args.map Exp.row)])
theorem zoJ (l : List Exp) : zpb l = .sl (l.map Exp.row) := by rw [zpb, ← zoM]
theorem zk8 (l : List (Exp)) (f : FuncId) (caps : List U) (p : Exp → Bool) (hf : ∀ n ∈ l, Fun Tryd.prog f (za3 n :: caps.map .u) (· = .u (.bool (p n)))) (hcl : zao Tryd.prog f = true)
  (hca : ∀ o, zb7 o (caps.map .u) = some (caps.map .u, [])) : Fun Tryd.prog 80 [.u (zpb l), .fnc (.func f) (caps.map .u)] (· = .u (.int .i64 (zg9 p l 0))) := by
 (refine Fun.of_body Tryd.func80 rfl (by simp) fun Γ hn => ?_); simp only [entry, List.zipIdx_cons, List.zipIdx_nil, List.map_cons, List.map_nil, Nat.zero_add, Tryd.ntmps80]
 simp only [zpb]
 refine zfJ (x := 0) rfl fun hl => ?_
 simp at hl
 repeat' (first
  | (refine zah ?_; simp)
  | (refine zak ?_; simp)
  | (refine zai ?_; simp)
  | (refine zam ?_; simp)
  | fail)
 refine zbG (α := { i : Nat // i ≤ l.length ∧ ∀ c ∈ l.take i, p c = false }) [0, 1, 7] (fun i => [(8, .u (.int .i64 i.1))]) (fun i => l.length - i.1) ⟨0, by omega, by simp⟩ ?_ ?_
 ·exact (Wk.env rfl rfl rfl (by simp [wkE, St.lp, zap, zaa, getK] <;> (try (intros; simp_all; done)) <;> (try (intros; omega)) <;> (try grind)))
 rintro ⟨i, hi, hb⟩
 simp [St.lp, St.only, zap, zaa, getK]
 rcases hx : l[i]? with _ | n
 ·have hge : l.length ≤ i := by simpa using hx
  repeat' (first
  | (refine zah ?_; simp [hx])
  | (refine zak ?_; simp [hx])
  | (refine ⟨by omega, ?_⟩)
  | (refine zai ?_; simp [hx])
  | (refine zar ?_; simp only [zal])
  | (refine zba ?_; simp [zal])
  | (intro hc <;> (try (exfalso; omega)))
  | fail)
  (refine EndOK.val (.inr rfl) ?_; simp [zay, zae, zau, Tryd.results80])
  rw [List.take_of_length_le hge] at hb
  exact (zeY hb).symm
 ·have hlt : i < l.length := (List.getElem?_eq_some_iff.1 hx).1
  have h1 := hf n (List.mem_of_getElem? hx)
  simp only [za3] at h1
  cases hp : p n
  ·rw [hp] at h1
   repeat' (first
  | (refine zah ?_; simp [hx, hca])
  | (refine zak ?_; simp [hx, hca])
  | (refine ⟨by omega, ?_⟩)
  | (refine zai ?_; simp [hx, hca])
  | (refine zag ?_; simp [hx, hca])
  | (refine zas ?_; simp [hx, hca])
  | (refine zaq ?_; simp only [zal])
  | (refine ⟨?_, by omega⟩)
  | (intro hc <;> (try (exfalso; omega)))
  | (refine CallP.fun_ (h1) (by first | rfl | fail) (by first | assumption | (simp; done) | fail) (by first | (simp [hx, hca]; done) | (simp [hx, hca]; rfl) | fail) (by first | (simp; done) | fail) (fun d hd => ?_); subst hd; (try simp [hx, hca]))
  | fail)
   refine LoopW.next ⟨i + 1, by omega, zaG hx hb hp⟩ (by simp; omega) ?_
   exact (Wk.env rfl rfl rfl (by simp [wkE, St.lp, zap, zaa, getK] <;> (try (intros; simp_all; done)) <;> (try (intros; omega)) <;> (try grind)))
  ·rw [hp] at h1
   repeat' (first
  | (refine zah ?_; simp [hx, hca])
  | (refine zak ?_; simp [hx, hca])
  | (refine zai ?_; simp [hx, hca])
  | (refine zag ?_; simp [hx, hca])
  | (refine zar ?_; simp only [zal])
  | (refine zaq ?_; simp only [zal])
  | (refine ⟨?_, by omega⟩)
  | (intro hc <;> (try (exfalso; omega)))
  | (refine CallP.fun_ (h1) (by first | rfl | fail) (by first | assumption | (simp; done) | fail) (by first | (simp [hx, hca]; done) | (simp [hx, hca]; rfl) | fail) (by first | (simp; done) | fail) (fun d hd => ?_); subst hd; (try simp [hx, hca]))
  | fail)
   (refine EndOK.val (.inr rfl) ?_; simp [zay, zae, zau, Tryd.results80])
   rw [zhR hb hx hp]
   omega
theorem zh0 (l : List (Exp)) (f : FuncId) (caps : List U) (p : Exp → Bool) (hf : ∀ n ∈ l, Fun Tryd.prog f (za3 n :: caps.map .u) (· = .u (.bool (p n)))) (hcl : zao Tryd.prog f = true)
  (hca : ∀ o, zb7 o (caps.map .u) = some (caps.map .u, [])) (hcb : ∀ o, zbs o (caps.map .u) = some (caps, [])) : Fun Tryd.prog 49 [.u (zpb l), .fnc (.func f) (caps.map .u)] (· = .u (.bool (l.any p))) := by
 have h1 := zk8 l f caps p hf hcl hca
 (refine Fun.of_body Tryd.func49 rfl (by simp) fun Γ hn => ?_); simp only [entry, List.zipIdx_cons, List.zipIdx_nil, List.map_cons, List.map_nil, Nat.zero_add, Tryd.ntmps49]
 simp only [zpb] at h1 ⊢
 repeat' (first
  | (refine zah ?_; simp [hcb])
  | (refine zak ?_; simp [hcb])
  | (refine zai ?_; simp [hcb])
  | (refine zar ?_; simp only [zal])
  | (refine CallP.fun_ (h1) (by first | rfl | fail) (by first | assumption | (simp; done) | fail) (by first | (simp [hcb]; done) | (simp [hcb]; rfl) | fail) (by first | (simp; done) | fail) (fun d hd => ?_); subst hd; (try simp [hcb]))
  | fail)
 (refine EndOK.val (.inr rfl) ?_; simp [zay, zae, zau, Tryd.results49])
 have h2 := zhS p l 0 (by omega)
 rw [Bool.eq_iff_iff]
 simpa using h2
def zpL (e : Exp) : Bool := decide (e.s = []) && decide (0 ≤ e.unit) && decide (e.unit < 5) && decide (0 ≤ e.n) && decide (e.n ≤ if e.unit = 0 then 1 else 1099511627776)
def zax : Nat → Exp → Bool
 | 0, _ => false
 | d + 1, e => decide ((e.args.length : Int) = zaE e.op) && (if e.op = 0 then zpL e else if e.n ≠ 0 ∨ e.unit ≠ 0 then false else if e.op = 1 then zeW e.s else decide (e.s = []) && !e.args.any (fun x => !zax d x))
set_option maxRecDepth 100000 in
set_option maxHeartbeats 4000000 in
theorem zio : ∀ (d : Nat) (e : Exp), (d : Int) ≤ 100 → Fun Tryd.prog 28 [za3 e, .u (.int .i64 d)] (· = .u (.bool (zax d e)))
 | 0, e, _ => by
  (refine Fun.of_body Tryd.func28 rfl (by simp) fun Γ hn => ?_); simp only [entry, List.zipIdx_cons, List.zipIdx_nil, List.map_cons, List.map_nil, Nat.zero_add, Tryd.ntmps28]
  simp only [za3]
  repeat' (first
  | (refine zah ?_; simp)
  | (refine zcj ?_; simp)
  | (refine zak ?_; simp)
  | (refine zai ?_; simp)
  | (refine zag ?_; simp)
  | (refine zcV ?_)
  | (refine hk _ ?_; clear hk k; simp only [zal])
  | (refine zci rfl (by kernel_rfl) (by kernel_rfl) fun k hk => ?_; simp)
  | (refine zdA rfl (by simp) (fun hc => ?_) (fun hc => ?_) <;> (try simp at hc) <;> (try (exfalso; omega)) <;> (try simp))
  | (refine zar ?_; simp only [zal])
  | fail)
  (refine EndOK.val (.inr rfl) ?_; simp [zay, zae, zau, Tryd.results28])
  rfl
 | d + 1, e, hd => by
  have hr : ∀ x : Exp, Fun Tryd.prog 50 (za3 x :: [U.row [.int .i64 ((d + 1 : Nat) : Int)] 0].map .u) (· = .u (.bool (!zax d x))) := fun x => by
   have h1 := zio d x (by omega)
   (refine Fun.of_body Tryd.func50 rfl (by simp) fun Γ hn => ?_); simp only [entry, List.zipIdx_cons, List.zipIdx_nil, List.map_cons, List.map_nil, Nat.zero_add, Tryd.ntmps50]
   simp only [za3] at h1 ⊢
   repeat' (first
  | (refine zah ?_; simp)
  | (refine zak ?_; simp)
  | (refine ⟨by omega, ?_⟩)
  | (refine zai ?_; simp)
  | (refine zar ?_; simp only [zal])
  | (refine CallP.fun_ (h1) (by first | rfl | fail) (by first | assumption | (simp; done) | fail) (by first | (simp; done) | (simp; rfl) | fail) (by first | (simp; done) | fail) (fun d hd => ?_); subst hd; (try simp))
  | fail)
   (refine EndOK.val (.inr rfl) ?_; simp [zay, zae, zau, Tryd.results50])
  have hcon := zh0 e.args 50 [U.row [.int .i64 ((d + 1 : Nat) : Int)] 0] (fun x => !zax d x) (fun x _ => hr x) (by simp) (fun _ => rfl) (fun _ => rfl)
  have hnam := zhM e.s
  have hopr := ziE e.op
  simp only [List.map_cons, List.map_nil] at hcon
  rw [zax]
  unfold zpL
  generalize (e.args.any fun x => !zax d x) = z at hcon ⊢
  generalize zeW e.s = nm at hnam ⊢
  generalize hop : zaE e.op = oi at hopr ⊢
  (refine Fun.of_body Tryd.func28 rfl (by simp) fun Γ hn => ?_); simp only [entry, List.zipIdx_cons, List.zipIdx_nil, List.map_cons, List.map_nil, Nat.zero_add, Tryd.ntmps28]
  rw [zoJ] at hcon
  simp only [za3]
  by_cases hlen : (e.args.length : Int) = oi
  case neg =>
   repeat' (first
  | (refine zah ?_; simp [hlen])
  | (refine zcj ?_; simp [hlen])
  | (refine zak ?_; simp [hlen])
  | (refine zai ?_; simp [hlen])
  | (refine zag ?_; simp [hlen])
  | (refine zcV ?_)
  | (refine hk _ ?_; clear hk k; simp only [zal])
  | (refine zci rfl (by kernel_rfl) (by kernel_rfl) fun k hk => ?_; simp [hlen])
  | (refine zdA rfl (by simp [hlen]) (fun hc => ?_) (fun hc => ?_) <;> (try simp [hlen] at hc) <;> (try (exfalso; omega)) <;> (try simp [hlen]))
  | (refine zar ?_; simp only [zal])
  | (refine CallV.fun_ (hopr) (by first | rfl | fail) (by first | assumption | (simp; done) | fail) (by first | (simp [hlen]; done) | (simp [hlen]; rfl) | fail) (by first | (simp; done) | fail) ?_ <;> (try simp [hlen]))
  | fail)
   (refine EndOK.val (.inr rfl) ?_; simp [zay, zae, zau, Tryd.results28])
   try (simp_all; done)
  by_cases h0 : e.op = 0
  case pos =>
   by_cases hu : e.unit = 0
   all_goals
    repeat' (first
  | (refine zah ?_; simp [hlen, h0, hu])
  | (refine zcj ?_; simp [hlen, h0, hu])
  | (refine zak ?_; simp [hlen, h0, hu])
  | (refine zai ?_; simp [hlen, h0, hu])
  | (refine zag ?_; simp [hlen, h0, hu])
  | (refine zcV ?_)
  | (refine hk _ ?_; clear hk k; simp only [zal])
  | (refine zci rfl (by kernel_rfl) (by kernel_rfl) fun k hk => ?_; simp [hlen, h0, hu])
  | (refine zdA rfl (by simp [hlen, h0, hu]) (fun hc => ?_) (fun hc => ?_) <;> (try simp [hlen, h0, hu] at hc) <;> (try (exfalso; omega)) <;> (try simp [hlen, h0, hu]))
  | (refine zas ?_; simp [hlen, h0, hu])
  | (refine zar ?_; simp only [zal])
  | (refine zaq ?_; simp only [zal])
  | (refine ⟨fun hc => ?_, fun hc => ?_⟩ <;> (try (exfalso; omega)))
  | (refine CallV.fun_ (hopr) (by first | rfl | fail) (by first | assumption | (simp; done) | fail) (by first | (simp [hlen, h0, hu]; done) | (simp [hlen, h0, hu]; rfl) | fail) (by first | (simp; done) | fail) ?_ <;> (try simp [hlen, h0, hu]))
  | fail)
    all_goals
     (refine EndOK.val (.inr rfl) ?_; simp [zay, zae, zau, Tryd.results28])
   all_goals clear hr hopr hcon hnam
   all_goals grind
  by_cases hnu : e.n ≠ 0 ∨ e.unit ≠ 0
  case pos =>
   repeat' (first
  | (refine zah ?_; simp [hlen, h0])
  | (refine zcj ?_; simp [hlen, h0])
  | (refine zak ?_; simp [hlen, h0])
  | (refine zai ?_; simp [hlen, h0])
  | (refine zag ?_; simp [hlen, h0])
  | (refine zcV ?_)
  | (refine hk _ ?_; clear hk k; simp only [zal])
  | (refine zci rfl (by kernel_rfl) (by kernel_rfl) fun k hk => ?_; simp [hlen, h0])
  | (refine zdA rfl (by simp [hlen, h0]) (fun hc => ?_) (fun hc => ?_) <;> (try simp [hlen, h0] at hc) <;> (try (exfalso; omega)) <;> (try simp [hlen, h0]))
  | (refine zar ?_; simp only [zal])
  | (refine zaq ?_; simp only [zal])
  | (refine ⟨?_, by omega⟩)
  | (refine ⟨fun hc => ?_, fun hc => ?_⟩ <;> (try (exfalso; omega)))
  | (intro hc <;> (try (exfalso; omega)))
  | (refine CallV.fun_ (hopr) (by first | rfl | fail) (by first | assumption | (simp; done) | fail) (by first | (simp [hlen, h0]; done) | (simp [hlen, h0]; rfl) | fail) (by first | (simp; done) | fail) ?_ <;> (try simp [hlen, h0]))
  | fail)
   all_goals
    (refine EndOK.val (.inr rfl) ?_; simp [zay, zae, zau, Tryd.results28])
   all_goals clear hr hopr hcon hnam
   all_goals grind
  by_cases h1 : e.op = 1
  case pos =>
   repeat' (first
  | (refine zah ?_; simp [hlen, h0, h1])
  | (refine zcj ?_; simp [hlen, h0, h1])
  | (refine zak ?_; simp [hlen, h0, h1])
  | (refine ⟨by omega, ?_⟩)
  | (refine zai ?_; simp [hlen, h0, h1])
  | (refine zag ?_; simp [hlen, h0, h1])
  | (refine zcV ?_)
  | (refine hk _ ?_; clear hk k; simp only [zal])
  | (refine zci rfl (by kernel_rfl) (by kernel_rfl) fun k hk => ?_; simp [hlen, h0, h1])
  | (refine zdA rfl (by simp [hlen, h0, h1]) (fun hc => ?_) (fun hc => ?_) <;> (try simp [hlen, h0, h1] at hc) <;> (try (exfalso; omega)) <;> (try simp [hlen, h0, h1]))
  | (refine zar ?_; simp only [zal])
  | (refine zaq ?_; simp only [zal])
  | (refine ⟨?_, by omega⟩)
  | (intro hc <;> (try (exfalso; omega)))
  | (refine CallV.fun_ (hopr) (by first | rfl | fail) (by first | assumption | (simp; done) | fail) (by first | (simp [hlen, h0, h1]; done) | (simp [hlen, h0, h1]; rfl) | fail) (by first | (simp; done) | fail) ?_ <;> (try simp [hlen, h0, h1]))
  | (refine CallP.fun_ (hnam) (by first | rfl | fail) (by first | assumption | (simp; done) | fail) (by first | (simp [hlen, h0, h1]; done) | (simp [hlen, h0, h1]; rfl) | fail) (by first | (simp; done) | fail) (fun d hd => ?_); subst hd; (try simp [hlen, h0, h1]))
  | fail)
   all_goals
    (refine EndOK.val (.inr rfl) ?_; simp [zay, zae, zau, Tryd.results28])
   all_goals clear hr hopr hcon hnam
   all_goals grind
  by_cases hs : e.s = []
  all_goals
   repeat' (first
  | (refine zah ?_; simp [hlen, h0, h1, hs])
  | (refine zcj ?_; simp [hlen, h0, h1, hs])
  | (refine zak ?_; simp [hlen, h0, h1, hs])
  | (refine ⟨by omega, ?_⟩)
  | (refine zai ?_; simp [hlen, h0, h1, hs])
  | (refine zag ?_; simp [hlen, h0, h1, hs])
  | (refine zcV ?_)
  | (refine hk _ ?_; clear hk k; simp only [zal])
  | (refine zci rfl (by kernel_rfl) (by kernel_rfl) fun k hk => ?_; simp [hlen, h0, h1, hs])
  | (refine zdA rfl (by simp [hlen, h0, h1, hs]) (fun hc => ?_) (fun hc => ?_) <;> (try simp [hlen, h0, h1, hs] at hc) <;> (try (exfalso; omega)) <;> (try simp [hlen, h0, h1, hs]))
  | (refine zar ?_; simp only [zal])
  | (refine zaq ?_; simp only [zal])
  | (refine ⟨?_, by omega⟩)
  | (intro hc <;> (try (exfalso; omega)))
  | (refine CallV.fun_ (hopr) (by first | rfl | fail) (by first | assumption | (simp; done) | fail) (by first | (simp [hlen, h0, h1, hs]; done) | (simp [hlen, h0, h1, hs]; rfl) | fail) (by first | (simp; done) | fail) ?_ <;> (try simp [hlen, h0, h1, hs]))
  | (refine CallP.fun_ (hcon) (by first | rfl | fail) (by first | assumption | (simp; done) | fail) (by first | (simp [hlen, h0, h1, hs]; done) | (simp [hlen, h0, h1, hs]; rfl) | fail) (by first | (simp; done) | fail) (fun d hd => ?_); subst hd; (try simp [hlen, h0, h1, hs]))
  | fail)
   all_goals
    (refine EndOK.val (.inr rfl) ?_; simp [zay, zae, zau, Tryd.results28])
  all_goals clear hr hopr hcon hnam
  all_goals grind
theorem zc9 (e : Exp) : Fun Tryd.prog 15 [za3 e] (· = .u (.bool (zax 12 e))) := by
 have h1 := zio 12 e (by omega)
 (refine Fun.of_body Tryd.func15 rfl (by simp) fun Γ hn => ?_); simp only [entry, List.zipIdx_cons, List.zipIdx_nil, List.map_cons, List.map_nil, Nat.zero_add, Tryd.ntmps15]
 simp only [za3] at h1 ⊢
 repeat' (first
  | (refine zah ?_; simp)
  | (refine zak ?_; simp)
  | (refine zai ?_; simp)
  | (refine zar ?_; simp only [zal])
  | (refine CallP.fun_ (h1) (by first | rfl | fail) (by first | assumption | (simp; done) | fail) (by first | (simp; done) | (simp; rfl) | fail) (by first | (simp; done) | fail) (fun d hd => ?_); subst hd; (try simp))
  | fail)
 (refine EndOK.val (.inr rfl) ?_; simp [zay, zae, zau, Tryd.results15])
def zoE (n : Int) : D := .u (.int .i64 n)
def zkm (l : List Int) : U := .sl (l.map fun n => [.int .i64 n])
theorem zk7 (l : List (Int)) (f : FuncId) (caps : List U) (p : Int → Bool) (hf : ∀ n ∈ l, Fun Tryd.prog f (zoE n :: caps.map .u) (· = .u (.bool (p n)))) (hcl : zao Tryd.prog f = true)
  (hca : ∀ o, zb7 o (caps.map .u) = some (caps.map .u, [])) : Fun Tryd.prog 106 [.u (zkm l), .fnc (.func f) (caps.map .u)] (· = .u (.int .i64 (zg9 p l 0))) := by
 (refine Fun.of_body Tryd.func106 rfl (by simp) fun Γ hn => ?_); simp only [entry, List.zipIdx_cons, List.zipIdx_nil, List.map_cons, List.map_nil, Nat.zero_add, Tryd.ntmps106]
 simp only [zkm]
 refine zfJ (x := 0) rfl fun hl => ?_
 simp at hl
 repeat' (first
  | (refine zah ?_; simp)
  | (refine zak ?_; simp)
  | (refine zai ?_; simp)
  | (refine zam ?_; simp)
  | fail)
 refine zbG (α := { i : Nat // i ≤ l.length ∧ ∀ c ∈ l.take i, p c = false }) [0, 1, 7] (fun i => [(8, .u (.int .i64 i.1))]) (fun i => l.length - i.1) ⟨0, by omega, by simp⟩ ?_ ?_
 ·exact (Wk.env rfl rfl rfl (by simp [wkE, St.lp, zap, zaa, getK] <;> (try (intros; simp_all; done)) <;> (try (intros; omega)) <;> (try grind)))
 rintro ⟨i, hi, hb⟩
 simp [St.lp, St.only, zap, zaa, getK]
 rcases hx : l[i]? with _ | n
 ·have hge : l.length ≤ i := by simpa using hx
  repeat' (first
  | (refine zah ?_; simp [hx])
  | (refine zak ?_; simp [hx])
  | (refine ⟨by omega, ?_⟩)
  | (refine zai ?_; simp [hx])
  | (refine zar ?_; simp only [zal])
  | (refine zba ?_; simp [zal])
  | (intro hc <;> (try (exfalso; omega)))
  | fail)
  (refine EndOK.val (.inr rfl) ?_; simp [zay, zae, zau, Tryd.results106])
  rw [List.take_of_length_le hge] at hb
  exact (zeY hb).symm
 ·have hlt : i < l.length := (List.getElem?_eq_some_iff.1 hx).1
  have h1 := hf n (List.mem_of_getElem? hx)
  simp only [zoE] at h1
  cases hp : p n
  ·rw [hp] at h1
   repeat' (first
  | (refine zah ?_; simp [hx, hca])
  | (refine zak ?_; simp [hx, hca])
  | (refine ⟨by omega, ?_⟩)
  | (refine zai ?_; simp [hx, hca])
  | (refine zag ?_; simp [hx, hca])
  | (refine zas ?_; simp [hx, hca])
  | (refine zaq ?_; simp only [zal])
  | (refine ⟨?_, by omega⟩)
  | (intro hc <;> (try (exfalso; omega)))
  | (refine CallP.fun_ (h1) (by first | rfl | fail) (by first | assumption | (simp; done) | fail) (by first | (simp [hx, hca]; done) | (simp [hx, hca]; rfl) | fail) (by first | (simp; done) | fail) (fun d hd => ?_); subst hd; (try simp [hx, hca]))
  | fail)
   refine LoopW.next ⟨i + 1, by omega, zaG hx hb hp⟩ (by simp; omega) ?_
   exact (Wk.env rfl rfl rfl (by simp [wkE, St.lp, zap, zaa, getK] <;> (try (intros; simp_all; done)) <;> (try (intros; omega)) <;> (try grind)))
  ·rw [hp] at h1
   repeat' (first
  | (refine zah ?_; simp [hx, hca])
  | (refine zak ?_; simp [hx, hca])
  | (refine zai ?_; simp [hx, hca])
  | (refine zag ?_; simp [hx, hca])
  | (refine zar ?_; simp only [zal])
  | (refine zaq ?_; simp only [zal])
  | (refine ⟨?_, by omega⟩)
  | (intro hc <;> (try (exfalso; omega)))
  | (refine CallP.fun_ (h1) (by first | rfl | fail) (by first | assumption | (simp; done) | fail) (by first | (simp [hx, hca]; done) | (simp [hx, hca]; rfl) | fail) (by first | (simp; done) | fail) (fun d hd => ?_); subst hd; (try simp [hx, hca]))
  | fail)
   (refine EndOK.val (.inr rfl) ?_; simp [zay, zae, zau, Tryd.results106])
   rw [zhR hb hx hp]
   omega
theorem ze5 (l : List (Int)) (f : FuncId) (caps : List U) (p : Int → Bool) (hf : ∀ n ∈ l, Fun Tryd.prog f (zoE n :: caps.map .u) (· = .u (.bool (p n)))) (hcl : zao Tryd.prog f = true)
  (hca : ∀ o, zb7 o (caps.map .u) = some (caps.map .u, [])) (hcb : ∀ o, zbs o (caps.map .u) = some (caps, [])) : Fun Tryd.prog 85 [.u (zkm l), .fnc (.func f) (caps.map .u)] (· = .u (.bool (l.any p))) := by
 have h1 := zk7 l f caps p hf hcl hca
 (refine Fun.of_body Tryd.func85 rfl (by simp) fun Γ hn => ?_); simp only [entry, List.zipIdx_cons, List.zipIdx_nil, List.map_cons, List.map_nil, Nat.zero_add, Tryd.ntmps85]
 simp only [zkm] at h1 ⊢
 repeat' (first
  | (refine zah ?_; simp [hcb])
  | (refine zak ?_; simp [hcb])
  | (refine zai ?_; simp [hcb])
  | (refine zar ?_; simp only [zal])
  | (refine CallP.fun_ (h1) (by first | rfl | fail) (by first | assumption | (simp; done) | fail) (by first | (simp [hcb]; done) | (simp [hcb]; rfl) | fail) (by first | (simp; done) | fail) (fun d hd => ?_); subst hd; (try simp [hcb]))
  | fail)
 (refine EndOK.val (.inr rfl) ?_; simp [zay, zae, zau, Tryd.results85])
 have h2 := zhS p l 0 (by omega)
 rw [Bool.eq_iff_iff]
 simpa using h2
def inB (lo hi : Int) (l : List Int) : Bool := !l.any fun n => decide (n < lo) || decide (hi < n)
theorem zoC (lo hi n : Int) : Fun Tryd.prog 86 (zoE n :: [U.row [.int .i64 lo] 0, U.row [.int .i64 hi] 0].map .u) (· = .u (.bool (decide (n < lo) || decide (hi < n)))) := by
 simp only [zoE, List.map_cons, List.map_nil]
 (refine Fun.of_body Tryd.func86 rfl (by simp) fun Γ hn => ?_); simp only [entry, List.zipIdx_cons, List.zipIdx_nil, List.map_cons, List.map_nil, Nat.zero_add, Tryd.ntmps86]
 repeat' (first
  | (refine zah ?_; simp)
  | (refine zak ?_; simp)
  | (refine zai ?_; simp)
  | (refine zar ?_; simp only [zal])
  | (refine ⟨fun hc => ?_, fun hc => ?_⟩ <;> (try (exfalso; omega)))
  | fail)
 all_goals
  (refine EndOK.val (.inr rfl) ?_; simp [zay, zae, zau, Tryd.results86])
 all_goals grind
theorem ziR (lo hi : Int) (l : List Int) : Fun Tryd.prog 59 [.u (.int .i64 lo), .u (.int .i64 hi), .u (zkm l)] (· = .u (.bool (inB lo hi l))) := by
 have h1 := ze5 l 86 [U.row [.int .i64 lo] 0, U.row [.int .i64 hi] 0] _ (fun n _ => zoC lo hi n) (by simp) (fun _ => rfl) (fun _ => rfl)
 simp only [List.map_cons, List.map_nil] at h1
 unfold inB
 (refine Fun.of_body Tryd.func59 rfl (by simp) fun Γ hn => ?_); simp only [entry, List.zipIdx_cons, List.zipIdx_nil, List.map_cons, List.map_nil, Nat.zero_add, Tryd.ntmps59]
 simp only [zkm] at h1 ⊢
 repeat' (first
  | (refine zah ?_; simp)
  | (refine zak ?_; simp)
  | (refine zai ?_; simp)
  | (refine zar ?_; simp only [zal])
  | (refine CallP.fun_ (h1) (by first | rfl | fail) (by first | assumption | (simp; done) | fail) (by first | (simp; done) | (simp; rfl) | fail) (by first | (simp; done) | fail) (fun d hd => ?_); subst hd; (try simp))
  | fail)
 (refine EndOK.val (.inr rfl) ?_; simp [zay, zae, zau, Tryd.results59])
def zkj (l : Let) : List U := [.str l.name, .int .i64 l.body.op, .int .i64 l.body.n, .int .i64 l.body.unit, .str l.body.s, .sl (l.body.args.map Exp.row)]
def zoA (l : Let) : D := .u (.agg [.str l.name, .int .i64 l.body.op, .int .i64 l.body.n, .int .i64 l.body.unit, .str l.body.s, .sl (l.body.args.map Exp.row)])
def zaw (l : List Let) : U := .sl (l.map fun l => [.str l.name, .int .i64 l.body.op, .int .i64 l.body.n, .int .i64 l.body.unit, .str l.body.s, .sl (l.body.args.map Exp.row)])
theorem zk6 (l : List (Let)) (f : FuncId) (caps : List U) (p : Let → Bool) (hf : ∀ n ∈ l, Fun Tryd.prog f (zoA n :: caps.map .u) (· = .u (.bool (p n)))) (hcl : zao Tryd.prog f = true)
  (hca : ∀ o, zb7 o (caps.map .u) = some (caps.map .u, [])) : Fun Tryd.prog 87 [.u (zaw l), .fnc (.func f) (caps.map .u)] (· = .u (.int .i64 (zg9 p l 0))) := by
 (refine Fun.of_body Tryd.func87 rfl (by simp) fun Γ hn => ?_); simp only [entry, List.zipIdx_cons, List.zipIdx_nil, List.map_cons, List.map_nil, Nat.zero_add, Tryd.ntmps87]
 simp only [zaw]
 refine zfJ (x := 0) rfl fun hl => ?_
 simp at hl
 repeat' (first
  | (refine zah ?_; simp)
  | (refine zak ?_; simp)
  | (refine zai ?_; simp)
  | (refine zam ?_; simp)
  | fail)
 refine zbG (α := { i : Nat // i ≤ l.length ∧ ∀ c ∈ l.take i, p c = false }) [0, 1, 7] (fun i => [(8, .u (.int .i64 i.1))]) (fun i => l.length - i.1) ⟨0, by omega, by simp⟩ ?_ ?_
 ·exact (Wk.env rfl rfl rfl (by simp [wkE, St.lp, zap, zaa, getK] <;> (try (intros; simp_all; done)) <;> (try (intros; omega)) <;> (try grind)))
 rintro ⟨i, hi, hb⟩
 simp [St.lp, St.only, zap, zaa, getK]
 rcases hx : l[i]? with _ | n
 ·have hge : l.length ≤ i := by simpa using hx
  repeat' (first
  | (refine zah ?_; simp [hx])
  | (refine zak ?_; simp [hx])
  | (refine ⟨by omega, ?_⟩)
  | (refine zai ?_; simp [hx])
  | (refine zar ?_; simp only [zal])
  | (refine zba ?_; simp [zal])
  | (intro hc <;> (try (exfalso; omega)))
  | fail)
  (refine EndOK.val (.inr rfl) ?_; simp [zay, zae, zau, Tryd.results87])
  rw [List.take_of_length_le hge] at hb
  exact (zeY hb).symm
 ·have hlt : i < l.length := (List.getElem?_eq_some_iff.1 hx).1
  have h1 := hf n (List.mem_of_getElem? hx)
  simp only [zoA] at h1
  cases hp : p n
  ·rw [hp] at h1
   repeat' (first
  | (refine zah ?_; simp [hx, hca])
  | (refine zak ?_; simp [hx, hca])
  | (refine ⟨by omega, ?_⟩)
  | (refine zai ?_; simp [hx, hca])
  | (refine zag ?_; simp [hx, hca])
  | (refine zas ?_; simp [hx, hca])
  | (refine zaq ?_; simp only [zal])
  | (refine ⟨?_, by omega⟩)
  | (intro hc <;> (try (exfalso; omega)))
  | (refine CallP.fun_ (h1) (by first | rfl | fail) (by first | assumption | (simp; done) | fail) (by first | (simp [hx, hca]; done) | (simp [hx, hca]; rfl) | fail) (by first | (simp; done) | fail) (fun d hd => ?_); subst hd; (try simp [hx, hca]))
  | fail)
   refine LoopW.next ⟨i + 1, by omega, zaG hx hb hp⟩ (by simp; omega) ?_
   exact (Wk.env rfl rfl rfl (by simp [wkE, St.lp, zap, zaa, getK] <;> (try (intros; simp_all; done)) <;> (try (intros; omega)) <;> (try grind)))
  ·rw [hp] at h1
   repeat' (first
  | (refine zah ?_; simp [hx, hca])
  | (refine zak ?_; simp [hx, hca])
  | (refine zai ?_; simp [hx, hca])
  | (refine zag ?_; simp [hx, hca])
  | (refine zar ?_; simp only [zal])
  | (refine zaq ?_; simp only [zal])
  | (refine ⟨?_, by omega⟩)
  | (intro hc <;> (try (exfalso; omega)))
  | (refine CallP.fun_ (h1) (by first | rfl | fail) (by first | assumption | (simp; done) | fail) (by first | (simp [hx, hca]; done) | (simp [hx, hca]; rfl) | fail) (by first | (simp; done) | fail) (fun d hd => ?_); subst hd; (try simp [hx, hca]))
  | fail)
   (refine EndOK.val (.inr rfl) ?_; simp [zay, zae, zau, Tryd.results87])
   rw [zhR hb hx hp]
   omega
theorem ze4 (l : List (Let)) (f : FuncId) (caps : List U) (p : Let → Bool) (hf : ∀ n ∈ l, Fun Tryd.prog f (zoA n :: caps.map .u) (· = .u (.bool (p n)))) (hcl : zao Tryd.prog f = true)
  (hca : ∀ o, zb7 o (caps.map .u) = some (caps.map .u, [])) (hcb : ∀ o, zbs o (caps.map .u) = some (caps, [])) : Fun Tryd.prog 60 [.u (zaw l), .fnc (.func f) (caps.map .u)] (· = .u (.bool (l.any p))) := by
 have h1 := zk6 l f caps p hf hcl hca
 (refine Fun.of_body Tryd.func60 rfl (by simp) fun Γ hn => ?_); simp only [entry, List.zipIdx_cons, List.zipIdx_nil, List.map_cons, List.map_nil, Nat.zero_add, Tryd.ntmps60]
 simp only [zaw] at h1 ⊢
 repeat' (first
  | (refine zah ?_; simp [hcb])
  | (refine zak ?_; simp [hcb])
  | (refine zai ?_; simp [hcb])
  | (refine zar ?_; simp only [zal])
  | (refine CallP.fun_ (h1) (by first | rfl | fail) (by first | assumption | (simp; done) | fail) (by first | (simp [hcb]; done) | (simp [hcb]; rfl) | fail) (by first | (simp; done) | fail) (fun d hd => ?_); subst hd; (try simp [hcb]))
  | fail)
 (refine EndOK.val (.inr rfl) ?_; simp [zay, zae, zau, Tryd.results60])
 have h2 := zhS p l 0 (by omega)
 rw [Bool.eq_iff_iff]
 simpa using h2
theorem zkM (x l : Let) : Fun Tryd.prog 61 (zoA x :: [U.row (zkj l) 0].map .u) (· = .u (.bool (decide (x.name = l.name)))) := by
 simp only [zoA, zkj, List.map_cons, List.map_nil]
 (refine Fun.of_body Tryd.func61 rfl (by simp) fun Γ hn => ?_); simp only [entry, List.zipIdx_cons, List.zipIdx_nil, List.map_cons, List.map_nil, Nat.zero_add, Tryd.ntmps61]
 repeat' (first
  | (refine zah ?_; simp)
  | (refine zak ?_; simp)
  | (refine zai ?_; simp)
  | (refine zar ?_; simp only [zal])
  | fail)
 (refine EndOK.val (.inr rfl) ?_; simp [zay, zae, zau, Tryd.results61])
structure By where
 kind : Int
 period : Int
 grace : Int
 wait : Int
 last : Int
 order : Int
 sld : Bool
 backs : Int
 voices : Int
 jury : Int
 fund : Int
 lets : List Let
 due : Exp
 fine : Exp
 pay : Exp
 cover : Exp
 hold : Exp
 deriving Inhabited
def zb0 (b : By) : List U := [.int .i64 b.kind, .int .i64 b.period, .int .i64 b.grace, .int .i64 b.wait, .int .i64 b.last, .int .i64 b.order, .bool b.sld, .int .i64 b.backs, .int .i64 b.voices, .int .i64 b.jury, .int .i64 b.fund,
 .sl (b.lets.map fun l => [.str l.name, .int .i64 l.body.op, .int .i64 l.body.n, .int .i64 l.body.unit, .str l.body.s, .sl (l.body.args.map Exp.row)]),
 .int .i64 b.due.op, .int .i64 b.due.n, .int .i64 b.due.unit, .str b.due.s, .sl (b.due.args.map Exp.row),
 .int .i64 b.fine.op, .int .i64 b.fine.n, .int .i64 b.fine.unit, .str b.fine.s, .sl (b.fine.args.map Exp.row),
 .int .i64 b.pay.op, .int .i64 b.pay.n, .int .i64 b.pay.unit, .str b.pay.s, .sl (b.pay.args.map Exp.row),
 .int .i64 b.cover.op, .int .i64 b.cover.n, .int .i64 b.cover.unit, .str b.cover.s, .sl (b.cover.args.map Exp.row),
 .int .i64 b.hold.op, .int .i64 b.hold.n, .int .i64 b.hold.unit, .str b.hold.s, .sl (b.hold.args.map Exp.row)]
def znv (b : By) : Bool := inB 0 2 [b.kind] && inB 0 2 [b.order] && inB 1 1000 [b.period, b.last] && inB 0 1000 [b.grace, b.wait, b.voices, b.fund] && inB 0 60 [b.backs, b.jury]
def zfo (seen : List Let) : List Let → Bool
 | [] => true
 | l :: r => zeW l.name && zax 12 l.body && !seen.any (fun x => decide (x.name = l.name)) && zfo (seen ++ [l]) r
theorem zki {L : List Let} {i : Nat} {l : Let} (h : L[i]? = some l) : zfo (L.take i) (L.drop i) = (zeW l.name && zax 12 l.body && !(L.take i).any (fun x => decide (x.name = l.name)) && zfo (L.take (i + 1)) (L.drop (i + 1))) := by
 obtain ⟨hi, rfl⟩ := List.getElem?_eq_some_iff.1 h
 rw [List.drop_eq_getElem_cons hi, zfo, List.take_succ_eq_append_getElem hi]
def zoK (b : By) : Bool := zax 12 b.due && zax 12 b.fine && zax 12 b.pay && zax 12 b.cover && zax 12 b.hold
def zeB (b : By) : Bool := znv b && !(b.sld && decide (b.kind ≠ 1)) && decide (b.lets.length ≤ 20) && zfo [] b.lets && zoK b
set_option maxRecDepth 100000 in
set_option maxHeartbeats 4000000 in
theorem zjp (b : By) : Fun Tryd.prog 31 [.u (.agg (zb0 b))] (· = .u (.bool (zeB b))) := by
 have i1 := ziR 0 2 [b.kind]
 have i2 := ziR 0 2 [b.order]
 have i3 := ziR 1 1000 [b.period, b.last]
 have i4 := ziR 0 1000 [b.grace, b.wait, b.voices, b.fund]
 have i5 := ziR 0 60 [b.backs, b.jury]
 simp only [zkm, List.map_cons, List.map_nil] at i1 i2 i3 i4 i5
 have hr : ∀ e : Exp, Fun Tryd.prog 15 [.u (.agg [.int .i64 e.op, .int .i64 e.n, .int .i64 e.unit, .str e.s, .sl (e.args.map Exp.row)])] (· = .u (.bool (zax 12 e))) := fun e => zc9 e
 have e1 := hr b.due
 have e2 := hr b.fine
 have e3 := hr b.pay
 have e4 := hr b.cover
 have e5 := hr b.hold
 unfold zeB znv zoK
 generalize inB 0 2 [b.kind] = c1 at i1 ⊢
 generalize inB 0 2 [b.order] = c2 at i2 ⊢
 generalize inB 1 1000 [b.period, b.last] = c3 at i3 ⊢
 generalize inB 0 1000 [b.grace, b.wait, b.voices, b.fund] = c4 at i4 ⊢
 generalize inB 0 60 [b.backs, b.jury] = c5 at i5 ⊢
 (refine Fun.of_body Tryd.func31 rfl (by simp) fun Γ hn => ?_); simp only [entry, List.zipIdx_cons, List.zipIdx_nil, List.map_cons, List.map_nil, Nat.zero_add, Tryd.ntmps31]
 simp only [zb0]
 repeat' (first
  | (refine zah ?_; simp)
  | (refine zak ?_; simp)
  | (refine zai ?_; simp)
  | (refine zag ?_; simp)
  | (refine zam ?_; simp)
  | (refine zar ?_; simp only [zal])
  | (refine zaq ?_; simp only [zal])
  | (refine ⟨fun hc => ?_, fun hc => ?_⟩ <;> (try (exfalso; omega)))
  | (refine CallP.fun_ (i1) (by first | rfl | fail) (by first | assumption | (simp; done) | fail) (by first | (simp; done) | (simp; rfl) | fail) (by first | (simp; done) | fail) (fun d hd => ?_); subst hd; (try simp))
  | (refine CallP.fun_ (i2) (by first | rfl | fail) (by first | assumption | (simp; done) | fail) (by first | (simp; done) | (simp; rfl) | fail) (by first | (simp; done) | fail) (fun d hd => ?_); subst hd; (try simp))
  | (refine CallP.fun_ (i3) (by first | rfl | fail) (by first | assumption | (simp; done) | fail) (by first | (simp; done) | (simp; rfl) | fail) (by first | (simp; done) | fail) (fun d hd => ?_); subst hd; (try simp))
  | (refine CallP.fun_ (i4) (by first | rfl | fail) (by first | assumption | (simp; done) | fail) (by first | (simp; done) | (simp; rfl) | fail) (by first | (simp; done) | fail) (fun d hd => ?_); subst hd; (try simp))
  | (refine CallP.fun_ (i5) (by first | rfl | fail) (by first | assumption | (simp; done) | fail) (by first | (simp; done) | (simp; rfl) | fail) (by first | (simp; done) | fail) (fun d hd => ?_); subst hd; (try simp))
  | fail)
 all_goals try ((refine EndOK.val (.inr rfl) ?_; simp [zay, zae, zau, Tryd.results31]); clear i1 i2 i3 i4 i5 hr e1 e2 e3 e4 e5; grind)
 all_goals
  refine zbG (α := { i : Nat // i ≤ b.lets.length ∧ zfo [] b.lets = zfo (b.lets.take i) (b.lets.drop i) }) [1, 62, 63] (fun i => [(64, .u (.int .i64 i.1))]) (fun i => b.lets.length - i.1) ⟨0, by omega, by simp⟩ ?_ ?_
  ·exact (Wk.cut rfl (by simp [hn, St.lp]) (by simp [wkO, St.lp, zaa, getK, Ob.under, D.under, zad, zaf]) (by simp [wkU, St.lp, zap, zaa, getK, D.under]) (by simp [wkE, St.lp, zap, zaa, getK] <;> (try (intros; simp_all; done)) <;> (try (intros; omega)) <;> (try grind)))
  rintro ⟨i, hi, hb⟩
  simp [St.lp, St.only, zap, zaa, getK]
  rcases hx : b.lets[i]? with _ | l
  ·have hge : b.lets.length ≤ i := by simpa using hx
   have hb' : zfo [] b.lets = true := by rw [hb, List.drop_of_length_le hge]; rfl
   generalize zax 12 b.due = x1 at e1 ⊢
   generalize zax 12 b.fine = x2 at e2 ⊢
   generalize zax 12 b.pay = x3 at e3 ⊢
   generalize zax 12 b.cover = x4 at e4 ⊢
   generalize zax 12 b.hold = x5 at e5 ⊢
   repeat' (first
  | (refine zah ?_; simp [hx])
  | (refine zak ?_; simp [hx])
  | (refine ⟨by omega, ?_⟩)
  | (refine zai ?_; simp [hx])
  | (refine zar ?_; simp only [zal])
  | (refine zba ?_; simp [zal])
  | (refine ⟨fun hc => ?_, fun hc => ?_⟩ <;> (try (exfalso; omega)))
  | (intro hc <;> (try (exfalso; omega)))
  | (refine CallP.fun_ (e1) (by first | rfl | fail) (by first | assumption | (simp; done) | fail) (by first | (simp [hx]; done) | (simp [hx]; rfl) | fail) (by first | (simp; done) | fail) (fun d hd => ?_); subst hd; (try simp [hx]))
  | (refine CallP.fun_ (e2) (by first | rfl | fail) (by first | assumption | (simp; done) | fail) (by first | (simp [hx]; done) | (simp [hx]; rfl) | fail) (by first | (simp; done) | fail) (fun d hd => ?_); subst hd; (try simp [hx]))
  | (refine CallP.fun_ (e3) (by first | rfl | fail) (by first | assumption | (simp; done) | fail) (by first | (simp [hx]; done) | (simp [hx]; rfl) | fail) (by first | (simp; done) | fail) (fun d hd => ?_); subst hd; (try simp [hx]))
  | (refine CallP.fun_ (e4) (by first | rfl | fail) (by first | assumption | (simp; done) | fail) (by first | (simp [hx]; done) | (simp [hx]; rfl) | fail) (by first | (simp; done) | fail) (fun d hd => ?_); subst hd; (try simp [hx]))
  | (refine CallP.fun_ (e5) (by first | rfl | fail) (by first | assumption | (simp; done) | fail) (by first | (simp [hx]; done) | (simp [hx]; rfl) | fail) (by first | (simp; done) | fail) (fun d hd => ?_); subst hd; (try simp [hx]))
  | fail)
   all_goals
    (refine EndOK.val (.inr rfl) ?_; simp [zay, zae, zau, Tryd.results31])
   all_goals
    clear i1 i2 i3 i4 i5 hr e1 e2 e3 e4 e5
    grind
  ·have hlt : i < b.lets.length := (List.getElem?_eq_some_iff.1 hx).1
   have hnx := zki hx
   have e6 := zhM l.name
   have e7 := hr l.body
   have e8 := ze4 (b.lets.take i) 61 [U.row (zkj l) 0] _ (fun x _ => zkM x l) (by simp) (fun _ => rfl) (fun _ => rfl)
   simp only [zaw, zkj, List.map_cons, List.map_nil] at e8
   generalize zeW l.name = y1 at e6 hnx
   generalize zax 12 l.body = y2 at e7 hnx
   generalize ((b.lets.take i).any fun x => decide (x.name = l.name)) = y3 at e8 hnx
   repeat' (first
  | (refine zah ?_; simp [hx])
  | (refine zak ?_; simp [hx])
  | (refine ⟨by omega, ?_⟩)
  | (refine zai ?_; simp [hx])
  | (refine zag ?_; simp [hx])
  | (refine zas ?_; simp [hx])
  | (refine zar ?_; simp only [zal])
  | (refine zaq ?_; simp only [zal])
  | (refine ⟨?_, by omega⟩)
  | (refine ⟨fun hc => ?_, fun hc => ?_⟩ <;> (try (exfalso; omega)))
  | (intro hc <;> (try (exfalso; omega)))
  | (refine CallP.fun_ (e6) (by first | rfl | fail) (by first | assumption | (simp; done) | fail) (by first | (simp [hx]; done) | (simp [hx]; rfl) | fail) (by first | (simp; done) | fail) (fun d hd => ?_); subst hd; (try simp [hx]))
  | (refine CallP.fun_ (e7) (by first | rfl | fail) (by first | assumption | (simp; done) | fail) (by first | (simp [hx]; done) | (simp [hx]; rfl) | fail) (by first | (simp; done) | fail) (fun d hd => ?_); subst hd; (try simp [hx]))
  | (refine CallP.fun_ (e8) (by first | rfl | fail) (by first | assumption | (simp; done) | fail) (by first | (simp [hx]; done) | (simp [hx]; rfl) | fail) (by first | (simp; done) | fail) (fun d hd => ?_); subst hd; (try simp [hx]))
  | fail)
   all_goals first
    | (refine LoopW.next ⟨i + 1, by omega, by simp_all⟩ (by simp; omega) ?_; exact (Wk.cut rfl (by simp [hn, St.lp]) (by simp [wkO, St.lp, zaa, getK, Ob.under, D.under, zad, zaf]) (by simp [wkU, St.lp, zap, zaa, getK, D.under]) (by simp [wkE, St.lp, zap, zaa, getK] <;> (try (intros; simp_all; done)) <;> (try (intros; omega)) <;> (try grind))))
    | ((refine EndOK.val (.inr rfl) ?_; simp [zay, zae, zau, Tryd.results31]); clear i1 i2 i3 i4 i5 hr e1 e2 e3 e4 e5 e6 e7 e8; grind)
theorem zf6 (c : UInt8) : Fun Tryd.prog 107 [.u (.int .u8 c.toNat)] (· = .u (.bool (zb4 c))) := by
 unfold zb4
 (refine Fun.of_body Tryd.func107 rfl (by simp) fun Γ hn => ?_); simp only [entry, List.zipIdx_cons, List.zipIdx_nil, List.map_cons, List.map_nil, Nat.zero_add, Tryd.ntmps107]
 repeat' (first
  | (refine zah ?_; simp)
  | (refine zak ?_; simp)
  | (refine zai ?_; simp)
  | (refine zar ?_; simp only [zal])
  | (refine ⟨fun hc => ?_, fun hc => ?_⟩ <;> (try (exfalso; omega)))
  | fail)
 all_goals
  (refine EndOK.val (.inr rfl) ?_; simp [zay, zae, zau, Tryd.results107])
 all_goals first | omega | (simp; omega) | (rw [Bool.eq_iff_iff]; simp; omega)
theorem zkN (c : UInt8) : Fun Tryd.prog 108 [.u (.int .u8 c.toNat)] (· = .u (.bool (za9 c))) := by
 unfold za9
 (refine Fun.of_body Tryd.func108 rfl (by simp) fun Γ hn => ?_); simp only [entry, List.zipIdx_cons, List.zipIdx_nil, List.map_cons, List.map_nil, Nat.zero_add, Tryd.ntmps108]
 repeat' (first
  | (refine zah ?_; simp)
  | (refine zak ?_; simp)
  | (refine zai ?_; simp)
  | (refine zar ?_; simp only [zal])
  | (refine ⟨fun hc => ?_, fun hc => ?_⟩ <;> (try (exfalso; omega)))
  | fail)
 all_goals
  (refine EndOK.val (.inr rfl) ?_; simp [zay, zae, zau, Tryd.results108])
 all_goals first | omega | (simp; omega) | (rw [Bool.eq_iff_iff]; simp; omega)
theorem zlI (s : List UInt8) : Fun Tryd.prog 89 [.u (.str s)] (· = .u (.bool (zeO s))) := by
 cases s with
 | nil =>
  (refine Fun.of_body Tryd.func89 rfl (by simp) fun Γ hn => ?_); simp only [entry, List.zipIdx_cons, List.zipIdx_nil, List.map_cons, List.map_nil, Nat.zero_add, Tryd.ntmps89]
  repeat' (first
  | (refine zah ?_; simp)
  | (refine zak ?_; simp)
  | (refine zai ?_; simp)
  | (refine zag ?_; simp)
  | (refine zar ?_; simp only [zal])
  | fail)
  all_goals
   (refine EndOK.val (.inr rfl) ?_; simp [zay, zae, zau, Tryd.results89])
  all_goals simp [zeO]
 | cons c s =>
  by_cases hl : s.length + 1 ≤ 20
  ·have h1 := zf6 c
   by_cases hc1 : zb4 c = true
   ·rw [hc1] at h1
    (refine Fun.of_body Tryd.func89 rfl (by simp) fun Γ hn => ?_); simp only [entry, List.zipIdx_cons, List.zipIdx_nil, List.map_cons, List.map_nil, Nat.zero_add, Tryd.ntmps89]
    repeat' (first
  | (refine zah ?_; simp)
  | (refine zak ?_; simp)
  | (refine zai ?_; simp)
  | (refine zag ?_; simp)
  | (refine zam ?_; simp)
  | (refine zaq ?_; simp only [zal])
  | (refine ⟨?_, by omega⟩)
  | (intro hc <;> (try (exfalso; omega)))
  | (refine CallP.fun_ (h1) (by first | rfl | fail) (by first | assumption | (simp; done) | fail) (by first | (simp; done) | (simp; rfl) | fail) (by first | (simp; done) | fail) (fun d hd => ?_); subst hd; (try simp))
  | fail)
    refine zbG (α := { i : Nat // 1 ≤ i ∧ i ≤ (c :: s).length ∧ ∀ x ∈ (c :: s).take i, (zb4 x || za9 x) = true }) [0] (fun i => [(3, .u (.int .i64 i.1))]) (fun i => (c :: s).length - i.1) ⟨1, by omega, by simp, by simp [hc1]⟩ ?_ ?_
    ·exact (Wk.env rfl rfl rfl (by simp [wkE, St.lp, zap, zaa, getK] <;> (try (intros; simp_all; done)) <;> (try (intros; omega)) <;> (try grind)))
    rintro ⟨i, h0, hi, hb⟩
    simp [St.lp, St.only, zap, zaa, getK]
    rcases hx : (c :: s)[i]? with _ | y
    ·have hge : (c :: s).length ≤ i := by simpa using hx
     simp only [List.length_cons] at hge hi
     repeat' (first
  | (refine zah ?_; simp [hx])
  | (refine zak ?_; simp [hx])
  | (refine ⟨by omega, ?_⟩)
  | (refine zai ?_; simp [hx])
  | (refine zag ?_; simp [hx])
  | (refine zar ?_; simp only [zal])
  | (refine zba ?_; simp [zal])
  | (intro hc <;> (try (exfalso; omega)))
  | fail)
     (refine EndOK.val (.inr rfl) ?_; simp [zay, zae, zau, Tryd.results89])
     rw [List.take_of_length_le (by simpa using hge)] at hb
     have h2 := zfN (p := fun c => zb4 c || za9 c) (l := c :: s) (i := (c :: s).length) (by rw [List.take_length]; exact hb) (Nat.le_refl _) (.inl rfl)
     simp only [zeO, hc1, h2]
     simp; omega
    ·have hlt := (List.getElem?_eq_some_iff.1 hx).1
     have h2 := zf6 y
     have h3 := zkN y
     simp only [List.length_cons] at hlt hi
     generalize hyl : zb4 y = yl at h2
     generalize hyd : za9 y = yd at h3
     repeat' (first
  | (refine zah ?_; simp [hx])
  | (refine zak ?_; simp [hx])
  | (refine ⟨by omega, ?_⟩)
  | (refine zai ?_; simp [hx])
  | (refine zag ?_; simp [hx])
  | (refine zas ?_; simp [hx])
  | (refine zar ?_; simp only [zal])
  | (refine zaq ?_; simp only [zal])
  | (refine ⟨?_, by omega⟩)
  | (refine ⟨fun hc => ?_, fun hc => ?_⟩ <;> (try (exfalso; omega)))
  | (intro hc <;> (try (exfalso; omega)))
  | (refine CallP.fun_ (h2) (by first | rfl | fail) (by first | assumption | (simp; done) | fail) (by first | (simp [hx]; done) | (simp [hx]; rfl) | fail) (by first | (simp; done) | fail) (fun d hd => ?_); subst hd; (try simp [hx]))
  | (refine CallP.fun_ (h3) (by first | rfl | fail) (by first | assumption | (simp; done) | fail) (by first | (simp [hx]; done) | (simp [hx]; rfl) | fail) (by first | (simp; done) | fail) (fun d hd => ?_); subst hd; (try simp [hx]))
  | fail)
     all_goals first
      | (refine LoopW.next ⟨i + 1, by omega, by simp; omega, zaG hx hb (by simp_all)⟩ (by simp; omega) ?_; exact (Wk.env rfl rfl rfl (by simp [wkE, St.lp, zap, zaa, getK] <;> (try (intros; simp_all; done)) <;> (try (intros; omega)) <;> (try grind))))
      | ((refine EndOK.val (.inr rfl) ?_; simp [zay, zae, zau, Tryd.results89])
         have h4 := zfN (p := fun c => zb4 c || za9 c) (l := c :: s) (i := i) hb (by simp; omega) (.inr ⟨y, hx, by simp_all⟩)
         simp only [zeO, hc1, h4]
         simp; omega)
   ·rw [Bool.not_eq_true] at hc1
    rw [hc1] at h1
    (refine Fun.of_body Tryd.func89 rfl (by simp) fun Γ hn => ?_); simp only [entry, List.zipIdx_cons, List.zipIdx_nil, List.map_cons, List.map_nil, Nat.zero_add, Tryd.ntmps89]
    repeat' (first
  | (refine zah ?_; simp)
  | (refine zak ?_; simp)
  | (refine zai ?_; simp)
  | (refine zag ?_; simp)
  | (refine zar ?_; simp only [zal])
  | (refine ⟨?_, by omega⟩)
  | (intro hc <;> (try (exfalso; omega)))
  | (refine CallP.fun_ (h1) (by first | rfl | fail) (by first | assumption | (simp; done) | fail) (by first | (simp; done) | (simp; rfl) | fail) (by first | (simp; done) | fail) (fun d hd => ?_); subst hd; (try simp))
  | fail)
    all_goals
     (refine EndOK.val (.inr rfl) ?_; simp [zay, zae, zau, Tryd.results89])
    all_goals simp [zeO, hc1]
  ·(refine Fun.of_body Tryd.func89 rfl (by simp) fun Γ hn => ?_); simp only [entry, List.zipIdx_cons, List.zipIdx_nil, List.map_cons, List.map_nil, Nat.zero_add, Tryd.ntmps89]
   repeat' (first
  | (refine zah ?_; simp)
  | (refine zak ?_; simp)
  | (refine ⟨by omega, ?_⟩)
  | (refine zai ?_; simp)
  | (refine zag ?_; simp)
  | (refine zar ?_; simp only [zal])
  | (refine ⟨?_, by omega⟩)
  | (intro hc <;> (try (exfalso; omega)))
  | fail)
   all_goals
    (refine EndOK.val (.inr rfl) ?_; simp [zay, zae, zau, Tryd.results89])
   all_goals
    simp [zeO]
    try omega
set_option maxHeartbeats 4000000 in
set_option maxRecDepth 100000 in
theorem zhz : Fun Tryd.prog 88 [] (· = .u (zmV words)) := by
 (refine Fun.of_bodyW Tryd.func88 rfl (by simp) fun Γ hn => ?_); simp only [entry, List.zipIdx_cons, List.zipIdx_nil, List.map_cons, List.map_nil, Nat.zero_add, Tryd.ntmps88]
 simp only [zmV, words, List.map_cons, List.map_nil]
 repeat' (first
  | (refine zah ?_; simp [za6, za4])
  | (refine zak ?_; simp [za6, za4])
  | (refine zai ?_; simp [za6, za4])
  | (refine zar ?_; simp only [zal])
  | fail)
 (refine EndW.frzN 1 ?_; simp [frzN, frz1, zaV, zaU, St.frz, St.frzS, frzS, fv, zbH, zbJ, zbK, zaY, zaF, zaA, del, frz, zb2])
 refine EndW.here ?_
 (refine EndOK.val (.inr rfl) ?_; simp [zay, zae, zau, Tryd.results88])
set_option maxRecDepth 100000 in
theorem zin (s : List UInt8) : Fun Tryd.prog 62 [.u (.str s)] (· = .u (.bool (zeW s))) := by
 have h2 := zlI s
 have h3 := zhz
 simp only [zmV] at h3
 unfold zeW
 generalize hW : words = W at h3 ⊢
 have hWl : W.length = 35 := by rw [← hW]; rfl
 clear hW
 (refine Fun.of_body Tryd.func62 rfl (by simp) fun Γ hn => ?_); simp only [entry, List.zipIdx_cons, List.zipIdx_nil, List.map_cons, List.map_nil, Nat.zero_add, Tryd.ntmps62]
 repeat' (first
  | (refine zah ?_; simp)
  | (refine zak ?_; simp)
  | (refine zai ?_; simp)
  | (refine zam ?_; simp)
  | (refine CallP.fun_ (h3) (by first | rfl | fail) (by first | assumption | (simp; done) | fail) (by first | (simp; done) | (simp; rfl) | fail) (by first | (simp; done) | fail) (fun d hd => ?_); subst hd; (try simp))
  | fail)
 refine zbG (α := { i : Nat // i ≤ W.length ∧ ∀ x ∈ W.take i, ¬ x = s }) [0, 3] (fun i => [(4, .u (.int .i64 i.1))]) (fun i => W.length - i.1) ⟨0, by omega, by simp⟩ ?_ ?_
 ·exact (Wk.env rfl rfl rfl (by simp [wkE, St.lp, zap, zaa, getK] <;> (try (intros; simp_all; done)) <;> (try (intros; omega)) <;> (try grind)))
 rintro ⟨i, hi, hb⟩
 simp [St.lp, St.only, zap, zaa, getK]
 rcases hx : W[i]? with _ | y
 ·have hge : W.length ≤ i := by simpa using hx
  repeat' (first
  | (refine zah ?_; simp [hx])
  | (refine zak ?_; simp [hx])
  | (refine ⟨by omega, ?_⟩)
  | (refine zai ?_; simp [hx])
  | (refine zag ?_; simp [hx])
  | (refine zar ?_; simp only [zal])
  | (refine zba ?_; simp [zal])
  | (intro hc <;> (try (exfalso; omega)))
  | (refine CallP.fun_ (h2) (by first | rfl | fail) (by first | assumption | (simp; done) | fail) (by first | (simp [hx]; done) | (simp [hx]; rfl) | fail) (by first | (simp; done) | fail) (fun d hd => ?_); subst hd; (try simp [hx]))
  | fail)
  (refine EndOK.val (.inr rfl) ?_; simp [zay, zae, zau, Tryd.results62])
  rw [List.take_of_length_le hge] at hb
  have : s ∉ W := fun h => hb s h rfl
  simp [this]
 ·have hlt := (List.getElem?_eq_some_iff.1 hx).1
  repeat' (first
  | (refine zah ?_; simp [hx])
  | (refine zak ?_; simp [hx])
  | (refine ⟨by omega, ?_⟩)
  | (refine zai ?_; simp [hx])
  | (refine zag ?_; simp [hx])
  | (refine zas ?_; simp [hx])
  | (refine zar ?_; simp only [zal])
  | (refine zaq ?_; simp only [zal])
  | (refine ⟨?_, by omega⟩)
  | (refine ⟨fun hc => ?_, fun hc => ?_⟩ <;> (try (exfalso; omega)))
  | (intro hc <;> (try (exfalso; omega)))
  | fail)
  ·(refine EndOK.val (.inr rfl) ?_; simp [zay, zae, zau, Tryd.results62])
   have : s ∈ W := by
     have h5 := List.mem_of_getElem? hx
     simp_all
   simp [this]
  ·refine LoopW.next ⟨i + 1, by omega, zaG hx hb (by assumption)⟩ (by simp; omega) ?_
   exact (Wk.env rfl rfl rfl (by simp [wkE, St.lp, zap, zaa, getK] <;> (try (intros; simp_all; done)) <;> (try (intros; omega)) <;> (try grind)))
theorem zgV : ∀ (d : Nat) (e : Exp), (d : Int) ≤ 100 → Fun Tryd.prog 51 [za3 e, .u (.int .i64 d)] (· = .u (.bool (zax d e)))
 | 0, e, _ => by
  (refine Fun.of_body Tryd.func51 rfl (by simp) fun Γ hn => ?_); simp only [entry, List.zipIdx_cons, List.zipIdx_nil, List.map_cons, List.map_nil, Nat.zero_add, Tryd.ntmps51]
  simp only [za3]
  repeat' (first
  | (refine zah ?_; simp)
  | (refine zak ?_; simp)
  | (refine zai ?_; simp)
  | (refine zag ?_; simp)
  | (refine zar ?_; simp only [zal])
  | fail)
  (refine EndOK.val (.inr rfl) ?_; simp [zay, zae, zau, Tryd.results51])
  rfl
 | d + 1, e, hd => by
  by_cases hop : 0 ≤ e.op ∧ e.op < 14
  case neg =>
   have hf : zax (d + 1) e = false := by
    rw [zax]
    have : ¬ ((e.args.length : Int) = zaE e.op) := by
     unfold zaE
     split
     ·omega
     ·split
      ·omega
      ·split
       ·omega
       ·rw [if_pos (by omega)]; omega
    simp [this]
   rw [hf]
   (refine Fun.of_body Tryd.func51 rfl (by simp) fun Γ hn => ?_); simp only [entry, List.zipIdx_cons, List.zipIdx_nil, List.map_cons, List.map_nil, Nat.zero_add, Tryd.ntmps51]
   simp only [za3]
   repeat' (first
  | (refine zah ?_; simp)
  | (refine zak ?_; simp)
  | (refine zai ?_; simp)
  | (refine zag ?_; simp)
  | (refine zar ?_; simp only [zal])
  | (refine ⟨?_, by omega⟩)
  | (refine ⟨fun hc => ?_, fun hc => ?_⟩ <;> (try (exfalso; omega)))
  | (intro hc <;> (try (exfalso; omega)))
  | fail)
   all_goals
    (refine EndOK.val (.inr rfl) ?_; simp [zay, zae, zau, Tryd.results51])
  obtain ⟨hop1, hop2⟩ := hop
  by_cases h0 : e.op = 0
  ·have hs : zax (d + 1) e = (decide (e.args.length = 0) && zpL e) := by
    rw [zax, h0]; simp [zaE]
   rw [hs]
   unfold zpL
   (refine Fun.of_body Tryd.func51 rfl (by simp) fun Γ hn => ?_); simp only [entry, List.zipIdx_cons, List.zipIdx_nil, List.map_cons, List.map_nil, Nat.zero_add, Tryd.ntmps51]
   simp only [za3]
   repeat' (first
  | (refine zah ?_; simp [h0])
  | (refine zak ?_; simp [h0])
  | (refine zai ?_; simp [h0])
  | (refine zag ?_; simp [h0])
  | (refine zam ?_; simp [h0])
  | (refine zas ?_; simp [h0])
  | (refine zar ?_; simp only [zal])
  | (refine zaq ?_; simp only [zal])
  | (refine ⟨?_, by omega⟩)
  | (refine ⟨fun hc => ?_, fun hc => ?_⟩ <;> (try (exfalso; omega)))
  | (intro hc <;> (try (exfalso; omega)))
  | fail)
   all_goals
    (refine EndOK.val (.inr rfl) ?_; simp [zay, zae, zau, Tryd.results51])
   all_goals (first | (simp_all; done) | grind)
  by_cases h1 : e.op = 1
  ·have hs : zax (d + 1) e = (decide (e.args.length = 0) && (decide (e.n = 0) && decide (e.unit = 0)) && zeW e.s) := by
    rw [zax, h1]
    simp [zaE]
    by_cases hn : e.n = 0 <;> by_cases hu : e.unit = 0 <;> simp [hn, hu]
   have h2 := zin e.s
   rw [hs]
   generalize zeW e.s = b at h2 ⊢
   (refine Fun.of_body Tryd.func51 rfl (by simp) fun Γ hn => ?_); simp only [entry, List.zipIdx_cons, List.zipIdx_nil, List.map_cons, List.map_nil, Nat.zero_add, Tryd.ntmps51]
   simp only [za3]
   repeat' (first
  | (refine zah ?_; simp [h0, h1])
  | (refine zak ?_; simp [h0, h1])
  | (refine zai ?_; simp [h0, h1])
  | (refine zag ?_; simp [h0, h1])
  | (refine zam ?_; simp [h0, h1])
  | (refine zas ?_; simp [h0, h1])
  | (refine zar ?_; simp only [zal])
  | (refine zaq ?_; simp only [zal])
  | (refine ⟨?_, by omega⟩)
  | (refine ⟨fun hc => ?_, fun hc => ?_⟩ <;> (try (exfalso; omega)))
  | (intro hc <;> (try (exfalso; omega)))
  | (refine CallP.fun_ (h2) (by first | rfl | fail) (by first | assumption | (simp; done) | fail) (by first | (simp [h0, h1]; done) | (simp [h0, h1]; rfl) | fail) (by first | (simp; done) | fail) (fun d hd => ?_); subst hd; (try simp [h0, h1]))
  | fail)
   all_goals
    (refine EndOK.val (.inr rfl) ?_; simp [zay, zae, zau, Tryd.results51])
   all_goals (clear h2; first | (simp_all; done) | grind)
  have hs : zax (d + 1) e = (decide ((e.args.length : Int) = zaE e.op) && (decide (e.n = 0) && decide (e.unit = 0)) && decide (e.s = []) && e.args.all (zax d)) := by
   rw [zax, if_neg h0, if_neg h1]
   have : (!e.args.any fun x => !zax d x) = e.args.all (zax d) := by simp [List.all_eq_not_any_not]
   rw [this]
   by_cases hn : e.n = 0 <;> by_cases hu : e.unit = 0 <;> simp [hn, hu, Bool.and_assoc]
  rw [hs]
  clear hs
  have hk : ∀ k : Int, zaE e.op = k → True := fun _ _ => trivial
  by_cases h12 : e.op = 12
  all_goals by_cases h13 : e.op = 13
  all_goals try (exfalso; omega)
  all_goals
   first
    | (have hopr : zaE e.op = 1 := by first | (rw [h12]; rfl; done) | fail)
    | (have hopr : zaE e.op = 3 := by first | (rw [h13]; rfl; done) | fail)
    | (have hopr : zaE e.op = 2 := by
        unfold zaE
        rw [if_neg (by omega), if_neg h12, if_neg h13, if_neg (by omega)])
   rw [hopr]
   (refine Fun.of_body Tryd.func51 rfl (by simp) fun Γ hn => ?_); simp only [entry, List.zipIdx_cons, List.zipIdx_nil, List.map_cons, List.map_nil, Nat.zero_add, Tryd.ntmps51]
   simp only [za3]
   repeat' (first
  | (refine zah ?_; simp [h0, h1, h12, h13])
  | (refine zak ?_; simp [h0, h1, h12, h13])
  | (refine ⟨by omega, ?_⟩)
  | (refine zai ?_; simp [h0, h1, h12, h13])
  | (refine zag ?_; simp [h0, h1, h12, h13])
  | (refine zam ?_; simp [h0, h1, h12, h13])
  | (refine zas ?_; simp [h0, h1, h12, h13])
  | (refine zar ?_; simp only [zal])
  | (refine zaq ?_; simp only [zal])
  | (refine ⟨?_, by omega⟩)
  | (refine ⟨fun hc => ?_, fun hc => ?_⟩ <;> (try (exfalso; omega)))
  | (intro hc <;> (try (exfalso; omega)))
  | fail)
   all_goals try ((refine EndOK.val (.inr rfl) ?_; simp [zay, zae, zau, Tryd.results51]); first | (simp_all; done) | (grind))
   all_goals
    refine zbG (α := { i : Nat // i ≤ e.args.length ∧ ∀ x ∈ e.args.take i, zax d x = true }) [1, 2] (fun i => [(6, .u (.int .i64 i.1))]) (fun i => e.args.length - i.1) ⟨0, by omega, by simp⟩ ?_ ?_
    ·exact (Wk.cut rfl (by simp [hn, St.lp]) (by simp [wkO, St.lp, zaa, getK, Ob.under, D.under, zad, zaf]) (by simp [wkU, St.lp, zap, zaa, getK, D.under]) (by simp [wkE, St.lp, zap, zaa, getK] <;> (try (intros; simp_all; done)) <;> (try (intros; omega)) <;> (try grind)))
    rintro ⟨i, hi, hb⟩
    simp [St.lp, St.only, zap, zaa, getK]
    rcases hx : e.args[i]? with _ | x
    ·have hge : e.args.length ≤ i := by simpa using hx
     obtain rfl : i = e.args.length := by omega
     rw [List.take_length] at hb
     have hall : e.args.all (zax d) = true := List.all_eq_true.2 hb
     repeat' (first
  | (refine zah ?_; simp [hx])
  | (refine zak ?_; simp [hx])
  | (refine zai ?_; simp [hx])
  | (refine zag ?_; simp [hx])
  | (refine zar ?_; simp only [zal])
  | (refine zba ?_; simp [zal])
  | fail)
     (refine EndOK.val (.inr rfl) ?_; simp [zay, zae, zau, Tryd.results51])
     simp_all
    ·have hlt : i < e.args.length := (List.getElem?_eq_some_iff.1 hx).1
     have h5 := zgV d x (by omega)
     simp only [za3] at h5
     cases hrx : zax d x
     ·rw [hrx] at h5
      have hall : e.args.all (zax d) = false := by
       rw [List.all_eq_false]
       exact ⟨x, List.mem_of_getElem? hx, by simp [hrx]⟩
      repeat' (first
  | (refine zah ?_; simp [hx, x.row_eq])
  | (refine zak ?_; simp [hx, x.row_eq])
  | (refine ⟨by omega, ?_⟩)
  | (refine zai ?_; simp [hx, x.row_eq])
  | (refine zag ?_; simp [hx, x.row_eq])
  | (refine zar ?_; simp only [zal])
  | (refine zaq ?_; simp only [zal])
  | (refine ⟨?_, by omega⟩)
  | (intro hc <;> (try (exfalso; omega)))
  | (refine CallP.fun_ (h5) (by first | rfl | fail) (by first | assumption | (simp; done) | fail) (by first | (simp [hx, x.row_eq]; done) | (simp [hx, x.row_eq]; rfl) | fail) (by first | (simp; done) | fail) (fun d hd => ?_); subst hd; (try simp [hx, x.row_eq]))
  | fail)
      (refine EndOK.val (.inr rfl) ?_; simp [zay, zae, zau, Tryd.results51])
      simp_all
     ·rw [hrx] at h5
      repeat' (first
  | (refine zah ?_; simp [hx, x.row_eq])
  | (refine zak ?_; simp [hx, x.row_eq])
  | (refine ⟨by omega, ?_⟩)
  | (refine zai ?_; simp [hx, x.row_eq])
  | (refine zag ?_; simp [hx, x.row_eq])
  | (refine zas ?_; simp [hx, x.row_eq])
  | (refine zaq ?_; simp only [zal])
  | (refine ⟨?_, by omega⟩)
  | (intro hc <;> (try (exfalso; omega)))
  | (refine CallP.fun_ (h5) (by first | rfl | fail) (by first | assumption | (simp; done) | fail) (by first | (simp [hx, x.row_eq]; done) | (simp [hx, x.row_eq]; rfl) | fail) (by first | (simp; done) | fail) (fun d hd => ?_); subst hd; (try simp [hx, x.row_eq]))
  | fail)
      refine LoopW.next ⟨i + 1, by omega, zaG hx hb hrx⟩ (by simp; omega) ?_
      exact (Wk.cut rfl (by simp [hn, St.lp]) (by simp [wkO, St.lp, zaa, getK, Ob.under, D.under, zad, zaf]) (by simp [wkU, St.lp, zap, zaa, getK, D.under]) (by simp [wkE, St.lp, zap, zaa, getK] <;> (try (intros; simp_all; done)) <;> (try (intros; omega)) <;> (try grind)))
theorem zcN (e : Exp) : Fun Tryd.prog 29 [za3 e] (· = .u (.bool (zax 12 e))) := by
 have h1 := zgV 12 e (by omega)
 simp only [za3] at h1 ⊢
 (refine Fun.of_body Tryd.func29 rfl (by simp) fun Γ hn => ?_); simp only [entry, List.zipIdx_cons, List.zipIdx_nil, List.map_cons, List.map_nil, Nat.zero_add, Tryd.ntmps29]
 repeat' (first
  | (refine zah ?_; simp)
  | (refine zak ?_; simp)
  | (refine zai ?_; simp)
  | (refine zar ?_; simp only [zal])
  | (refine CallP.fun_ (h1) (by first | rfl | fail) (by first | assumption | (simp; done) | fail) (by first | (simp; done) | (simp; rfl) | fail) (by first | (simp; done) | fail) (fun d hd => ?_); subst hd; (try simp))
  | fail)
 (refine EndOK.val (.inr rfl) ?_; simp [zay, zae, zau, Tryd.results29])
theorem zim (b : By) : Fun Tryd.prog 33 [.u (.agg (zb0 b))] (· = .u (.bool (zeB b))) := by
 have hr : ∀ e : Exp, Fun Tryd.prog 29 [.u (.agg [.int .i64 e.op, .int .i64 e.n, .int .i64 e.unit, .str e.s, .sl (e.args.map Exp.row)])] (· = .u (.bool (zax 12 e))) := fun e => zcN e
 have e1 := hr b.due
 have e2 := hr b.fine
 have e3 := hr b.pay
 have e4 := hr b.cover
 have e5 := hr b.hold
 have hh : znv b = (decide (0 ≤ b.kind) && decide (b.kind < 3) && decide (0 ≤ b.order) && decide (b.order < 3) && decide (1 ≤ b.period) && decide (b.period ≤ 1000) && decide (1 ≤ b.last) && decide (b.last ≤ 1000) && decide (0 ≤ b.grace) && decide (b.grace ≤ 1000) && decide (0 ≤ b.wait) && decide (b.wait ≤ 1000) && decide (0 ≤ b.backs) && decide (b.backs ≤ 60) && decide (0 ≤ b.jury) && decide (b.jury ≤ 60) && decide (0 ≤ b.voices) && decide (b.voices ≤ 1000) && decide (0 ≤ b.fund) && decide (b.fund ≤ 1000)) := by
  rw [Bool.eq_iff_iff]
  simp [znv, inB]
  omega
 unfold zeB zoK
 rw [hh]
 clear hh
 (refine Fun.of_body Tryd.func33 rfl (by simp) fun Γ hn => ?_); simp only [entry, List.zipIdx_cons, List.zipIdx_nil, List.map_cons, List.map_nil, Nat.zero_add, Tryd.ntmps33]
 simp only [zb0]
 repeat' (first
  | (refine zah ?_; simp)
  | (refine zak ?_; simp)
  | (refine zai ?_; simp)
  | (refine zag ?_; simp)
  | (refine zam ?_; simp)
  | (refine zar ?_; simp only [zal])
  | (refine zaq ?_; simp only [zal])
  | (refine ⟨fun hc => ?_, fun hc => ?_⟩ <;> (try (exfalso; omega)))
  | fail)
 all_goals try ((refine EndOK.val (.inr rfl) ?_; simp [zay, zae, zau, Tryd.results33]); clear e1 e2 e3 e4 e5 hr; first | (simp_all; done) | grind)
 all_goals
  refine zbG (α := { i : Nat // i ≤ b.lets.length ∧ zfo [] b.lets = zfo (b.lets.take i) (b.lets.drop i) }) [1] (fun i => [(3, .u (.int .i64 i.1))]) (fun i => b.lets.length - i.1) ⟨0, by omega, by simp⟩ ?_ ?_
  ·exact (Wk.cut rfl (by simp [hn, St.lp]) (by simp [wkO, St.lp, zaa, getK, Ob.under, D.under, zad, zaf]) (by simp [wkU, St.lp, zap, zaa, getK, D.under]) (by simp [wkE, St.lp, zap, zaa, getK] <;> (try (intros; simp_all; done)) <;> (try (intros; omega)) <;> (try grind)))
  rintro ⟨i, hi, hb⟩
  simp [St.lp, St.only, zap, zaa, getK]
  rcases hx : b.lets[i]? with _ | l
  ·have hge : b.lets.length ≤ i := by simpa using hx
   have hb' : zfo [] b.lets = true := by rw [hb, List.drop_of_length_le hge]; rfl
   generalize zax 12 b.due = x1 at e1 ⊢
   generalize zax 12 b.fine = x2 at e2 ⊢
   generalize zax 12 b.pay = x3 at e3 ⊢
   generalize zax 12 b.cover = x4 at e4 ⊢
   generalize zax 12 b.hold = x5 at e5 ⊢
   repeat' (first
  | (refine zah ?_; simp [hx])
  | (refine zak ?_; simp [hx])
  | (refine ⟨by omega, ?_⟩)
  | (refine zai ?_; simp [hx])
  | (refine zag ?_; simp [hx])
  | (refine zar ?_; simp only [zal])
  | (refine zba ?_; simp [zal])
  | (refine ⟨fun hc => ?_, fun hc => ?_⟩ <;> (try (exfalso; omega)))
  | (intro hc <;> (try (exfalso; omega)))
  | (refine CallP.fun_ (e1) (by first | rfl | fail) (by first | assumption | (simp; done) | fail) (by first | (simp [hx]; done) | (simp [hx]; rfl) | fail) (by first | (simp; done) | fail) (fun d hd => ?_); subst hd; (try simp [hx]))
  | (refine CallP.fun_ (e2) (by first | rfl | fail) (by first | assumption | (simp; done) | fail) (by first | (simp [hx]; done) | (simp [hx]; rfl) | fail) (by first | (simp; done) | fail) (fun d hd => ?_); subst hd; (try simp [hx]))
  | (refine CallP.fun_ (e3) (by first | rfl | fail) (by first | assumption | (simp; done) | fail) (by first | (simp [hx]; done) | (simp [hx]; rfl) | fail) (by first | (simp; done) | fail) (fun d hd => ?_); subst hd; (try simp [hx]))
  | (refine CallP.fun_ (e4) (by first | rfl | fail) (by first | assumption | (simp; done) | fail) (by first | (simp [hx]; done) | (simp [hx]; rfl) | fail) (by first | (simp; done) | fail) (fun d hd => ?_); subst hd; (try simp [hx]))
  | (refine CallP.fun_ (e5) (by first | rfl | fail) (by first | assumption | (simp; done) | fail) (by first | (simp [hx]; done) | (simp [hx]; rfl) | fail) (by first | (simp; done) | fail) (fun d hd => ?_); subst hd; (try simp [hx]))
  | fail)
   all_goals
    (refine EndOK.val (.inr rfl) ?_; simp [zay, zae, zau, Tryd.results33])
   all_goals
    clear hr e1 e2 e3 e4 e5
    grind
  ·have hlt : i < b.lets.length := (List.getElem?_eq_some_iff.1 hx).1
   have hnx := zki hx
   have e6 := zin l.name
   have e7 := hr l.body
   have hnm : (b.lets.take i).length = i := by simp; omega
   have hbad : zfo (b.lets.take i) (b.lets.drop i) = false → zfo [] b.lets = false := fun h => by rw [hb, h]
   generalize zeW l.name = y1 at e6 hnx
   generalize zax 12 l.body = y2 at e7 hnx
   repeat' (first
  | (refine zah ?_; simp [hx])
  | (refine zak ?_; simp [hx])
  | (refine zai ?_; simp [hx])
  | (refine zag ?_; simp [hx])
  | (refine zam ?_; simp [hx])
  | (refine zar ?_; simp only [zal])
  | (refine zaq ?_; simp only [zal])
  | (refine ⟨?_, by omega⟩)
  | (refine ⟨fun hc => ?_, fun hc => ?_⟩ <;> (try (exfalso; omega)))
  | (intro hc <;> (try (exfalso; omega)))
  | (refine CallP.fun_ (e6) (by first | rfl | fail) (by first | assumption | (simp; done) | fail) (by first | (simp [hx]; done) | (simp [hx]; rfl) | fail) (by first | (simp; done) | fail) (fun d hd => ?_); subst hd; (try simp [hx]))
  | (refine CallP.fun_ (e7) (by first | rfl | fail) (by first | assumption | (simp; done) | fail) (by first | (simp [hx]; done) | (simp [hx]; rfl) | fail) (by first | (simp; done) | fail) (fun d hd => ?_); subst hd; (try simp [hx]))
  | fail)
   all_goals try ((refine EndOK.val (.inr rfl) ?_; simp [zay, zae, zau, Tryd.results33]); rw [hbad (by rw [hnx]; simp_all)]; simp; done)
   all_goals
    refine zbG (α := { k : Nat // k ≤ i ∧ ∀ x ∈ b.lets.take k, ¬ x.name = l.name }) [1, 3] (fun k => [(4, .u (.int .i64 k.1))]) (fun k => i - k.1) ⟨0, by omega, by simp⟩ ?_ ?_
    ·exact (Wk.cut rfl (by simp [hn, St.lp]) (by simp [wkO, St.lp, zaa, getK, Ob.under, D.under, zad, zaf]) (by simp [wkU, St.lp, zap, zaa, getK, D.under]) (by simp [wkE, St.lp, zap, zaa, getK] <;> (try (intros; simp_all; done)) <;> (try (intros; omega)) <;> (try grind)))
    rintro ⟨k, hk1, hk2⟩
    simp [St.lp, St.only, zap, zaa, getK]
    by_cases hki : k = i
    ·subst hki
     have hno : ((b.lets.take k).any fun x => decide (x.name = l.name)) = false := by
      rw [List.any_eq_false]
      intro x hx
      simpa using hk2 x hx
     rw [hno] at hnx
     repeat' (first
  | (refine zah ?_; simp [hx])
  | (refine zak ?_; simp [hx])
  | (refine ⟨by omega, ?_⟩)
  | (refine zai ?_; simp [hx])
  | (refine zag ?_; simp [hx])
  | (refine zas ?_; simp [hx])
  | (refine zba ?_; simp [zal])
  | fail)
     refine LoopW.next ⟨k + 1, by omega, by simp_all⟩ (by simp; omega) ?_
     exact (Wk.cut rfl (by simp [hn, St.lp]) (by simp [wkO, St.lp, zaa, getK, Ob.under, D.under, zad, zaf]) (by simp [wkU, St.lp, zap, zaa, getK, D.under]) (by simp [wkE, St.lp, zap, zaa, getK] <;> (try (intros; simp_all; done)) <;> (try (intros; omega)) <;> (try grind)))
    ·have hki' : k < i := by omega
     obtain ⟨y, hy⟩ : ∃ y, b.lets[k]? = some y := ⟨b.lets[k], List.getElem?_eq_getElem (by omega)⟩
     repeat' (first
  | (refine zah ?_; simp [hx, hy])
  | (refine zcj ?_; simp [hx, hy])
  | (refine zak ?_; simp [hx, hy])
  | (refine ⟨by omega, ?_⟩)
  | (refine zai ?_; simp [hx, hy])
  | (refine zag ?_; simp [hx, hy])
  | (refine zcV ?_)
  | (refine hk _ ?_; clear hk k; simp only [zal])
  | (refine zci rfl (by kernel_rfl) (by kernel_rfl) fun k hk => ?_; simp [hx, hy])
  | (refine zas ?_; simp [hx, hy])
  | (refine zar ?_; simp only [zal])
  | (refine zaq ?_; simp only [zal])
  | (refine ⟨?_, by omega⟩)
  | (refine ⟨fun hc => ?_, fun hc => ?_⟩ <;> (try (exfalso; omega)))
  | (intro hc <;> (try (exfalso; omega)))
  | fail)
     ·(refine EndOK.val (.inr rfl) ?_; simp [zay, zae, zau, Tryd.results33])
      have hyes : ((b.lets.take i).any fun x => decide (x.name = l.name)) = true := by
        rw [List.any_eq_true]
        refine ⟨y, List.mem_of_getElem? (i := k) (by rw [List.getElem?_take, if_pos hki']; exact hy), by simp_all⟩
      rw [hbad (by rw [hnx, hyes]; simp)]
      simp
     ·refine LoopW.next ⟨k + 1, by omega, zaG hy hk2 (by assumption)⟩ (by simp; omega) ?_
      exact (Wk.cut rfl (by simp [hn, St.lp]) (by simp [wkO, St.lp, zaa, getK, Ob.under, D.under, zad, zaf]) (by simp [wkU, St.lp, zap, zaa, getK, D.under]) (by simp [wkE, St.lp, zap, zaa, getK] <;> (try (intros; simp_all; done)) <;> (try (intros; omega)) <;> (try grind)))
theorem zlg (u n : Int) : Fun Tryd.prog 110 (zoE u :: [U.row [.int .i64 n] 0].map .u) (· = .u (.bool (decide (u ≠ n)))) := by
 simp only [zoE, List.map_cons, List.map_nil]
 (refine Fun.of_body Tryd.func110 rfl (by simp) fun Γ hn => ?_); simp only [entry, List.zipIdx_cons, List.zipIdx_nil, List.map_cons, List.map_nil, Nat.zero_add, Tryd.ntmps110]
 repeat' (first
  | (refine zah ?_; simp)
  | (refine zak ?_; simp)
  | (refine zai ?_; simp)
  | (refine zar ?_; simp only [zal])
  | fail)
 (refine EndOK.val (.inr rfl) ?_; simp [zay, zae, zau, Tryd.results110])
def zgG (u : Int) (l : List Int) : Bool := !l.any fun n => decide (n ≠ u)
theorem zgs (u : Int) (l : List Int) : Fun Tryd.prog 109 [.u (.int .i64 u), .u (.row [zkm l] 0)] (· = .u (.bool (zgG u l))) := by
 have h1 := ze5 l 110 [U.row [.int .i64 u] 0] _ (fun n _ => zlg n u) (by simp) (fun _ => rfl) (fun _ => rfl)
 simp only [List.map_cons, List.map_nil] at h1
 unfold zgG
 (refine Fun.of_body Tryd.func109 rfl (by simp) fun Γ hn => ?_); simp only [entry, List.zipIdx_cons, List.zipIdx_nil, List.map_cons, List.map_nil, Nat.zero_add, Tryd.ntmps109]
 simp only [zkm] at h1 ⊢
 repeat' (first
  | (refine zah ?_; simp)
  | (refine zak ?_; simp)
  | (refine zai ?_; simp)
  | (refine zar ?_; simp only [zal])
  | (refine CallP.fun_ (h1) (by first | rfl | fail) (by first | assumption | (simp; done) | fail) (by first | (simp; done) | (simp; rfl) | fail) (by first | (simp; done) | fail) (fun d hd => ?_); subst hd; (try simp))
  | fail)
 (refine EndOK.val (.inr rfl) ?_; simp [zay, zae, zau, Tryd.results109])
def zlO (a b : Int) : Int × Bool := if a = 0 ∨ b = 0 then (0, false) else if a = 4 then (b, true) else if b = 4 then (a, true) else if a = 1 then (b, true) else if b = 1 then (a, true) else (0, false)
theorem znb (a b : Int) : Fun Tryd.prog 111 [.u (.int .i64 a), .u (.int .i64 b)] (· = .tup [.u (.int .i64 (zlO a b).1), .u (.bool (zlO a b).2)]) := by
 (refine Fun.of_body Tryd.func111 rfl (by simp) fun Γ hn => ?_); simp only [entry, List.zipIdx_cons, List.zipIdx_nil, List.map_cons, List.map_nil, Nat.zero_add, Tryd.ntmps111]
 unfold zlO
 repeat' (first
  | (refine zah ?_; simp [za6, za4])
  | (refine zak ?_; simp [za6, za4])
  | (refine zai ?_; simp [za6, za4])
  | (refine zag ?_; simp [za6, za4])
  | (refine zam ?_; simp [za6, za4])
  | (refine zar ?_; simp only [zal])
  | (refine zaq ?_; simp only [zal])
  | (refine ⟨fun hc => ?_, fun hc => ?_⟩ <;> (try (exfalso; omega)))
  | fail)
 all_goals try ((refine EndOK.val (.inr rfl) ?_; simp [zay, zae, zau, Tryd.results111]); simp_all; done)
 all_goals
  refine zbG (α := { i : Nat // i ≤ 2 ∧ (1 ≤ i → a ≠ 4 ∧ b ≠ 4) ∧ (2 ≤ i → a ≠ 1 ∧ b ≠ 1) }) [0, 1, 14, 15] (fun i => [(16, .u (.int .i64 i.1))]) (fun i => 2 - i.1) ⟨0, by omega, by omega, by omega⟩ ?_ ?_
  ·exact (Wk.cut rfl (by simp [hn, St.lp]) (by simp [wkO, St.lp, zaa, getK, Ob.under, D.under, zad, zaf]) (by simp [wkU, St.lp, zap, zaa, getK, D.under]) (by simp [wkE, St.lp, zap, zaa, getK] <;> (try (intros; simp_all; done)) <;> (try (intros; omega)) <;> (try grind)))
  rintro ⟨i, hi, h1, h2⟩
  simp [St.lp, St.only, zap, zaa, getK]
  have : i = 0 ∨ i = 1 ∨ i = 2 := by omega
  rcases this with rfl | rfl | rfl
  ·repeat' (first
  | (refine zah ?_; simp)
  | (refine zak ?_; simp)
  | (refine zai ?_; simp)
  | (refine zag ?_; simp)
  | (refine zas ?_; simp)
  | (refine zar ?_; simp only [zal])
  | (refine zaq ?_; simp only [zal])
  | (refine ⟨fun hc => ?_, fun hc => ?_⟩ <;> (try (exfalso; omega)))
  | fail)
   ·(refine EndOK.val (.inr rfl) ?_; simp [zay, zae, zau, Tryd.results111])
    simp_all
   ·(refine EndOK.val (.inr rfl) ?_; simp [zay, zae, zau, Tryd.results111])
    simp_all
   ·refine LoopW.next ⟨1, by omega, by omega, by omega⟩ (by simp) ?_
    exact (Wk.cut rfl (by simp [hn, St.lp]) (by simp [wkO, St.lp, zaa, getK, Ob.under, D.under, zad, zaf]) (by simp [wkU, St.lp, zap, zaa, getK, D.under]) (by simp [wkE, St.lp, zap, zaa, getK] <;> (try (intros; simp_all; done)) <;> (try (intros; omega)) <;> (try grind)))
  ·repeat' (first
  | (refine zah ?_; simp)
  | (refine zak ?_; simp)
  | (refine zai ?_; simp)
  | (refine zag ?_; simp)
  | (refine zas ?_; simp)
  | (refine zar ?_; simp only [zal])
  | (refine zaq ?_; simp only [zal])
  | (refine ⟨fun hc => ?_, fun hc => ?_⟩ <;> (try (exfalso; omega)))
  | fail)
   ·(refine EndOK.val (.inr rfl) ?_; simp [zay, zae, zau, Tryd.results111])
    simp_all
   ·(refine EndOK.val (.inr rfl) ?_; simp [zay, zae, zau, Tryd.results111])
    simp_all
   ·refine LoopW.next ⟨2, by omega, by omega, by omega⟩ (by simp) ?_
    exact (Wk.cut rfl (by simp [hn, St.lp]) (by simp [wkO, St.lp, zaa, getK, Ob.under, D.under, zad, zaf]) (by simp [wkU, St.lp, zap, zaa, getK, D.under]) (by simp [wkE, St.lp, zap, zaa, getK] <;> (try (intros; simp_all; done)) <;> (try (intros; omega)) <;> (try grind)))
  ·repeat' (first
  | (refine zah ?_; simp)
  | (refine zak ?_; simp)
  | (refine zai ?_; simp)
  | (refine zar ?_; simp only [zal])
  | (refine zba ?_; simp [zal])
  | fail)
   (refine EndOK.val (.inr rfl) ?_; simp [zay, zae, zau, Tryd.results111])
   simp_all
def l0 (l : List Int) (i : Nat) : Int := l.getD i 0
def zgM (op : Int) (l : List Int) : Int × Bool :=
 if op = 2 ∨ op = 3 ∨ op = 6 ∨ op = 7 then (l0 l 0, zgG (l0 l 0) l && decide (l0 l 0 ≠ 0))
 else if op = 4 then zlO (l0 l 0) (l0 l 1)
 else if op = 5 then (if l0 l 1 = 1 then (l0 l 0, decide (l0 l 0 ≠ 0) && decide (l0 l 0 ≠ 4)) else (1, zgG (l0 l 0) l && (decide (l0 l 0 = 3) || decide (l0 l 0 = 2))))
 else if op = 8 then (0, zgG (l0 l 0) l && decide (l0 l 0 ≠ 0))
 else if op = 9 then (0, zgG (l0 l 0) l)
 else if op = 13 then (l0 l 1, decide (l0 l 0 = 0) && decide (l0 l 1 = l0 l 2))
 else (0, zgG 0 l)
theorem zry {l : List Int} (h : (l.length : Int) = 1) : ∃ a, l = [a] := List.length_eq_one_iff.1 (by omega)
theorem zrx {l : List Int} (h : (l.length : Int) = 2) : ∃ a b, l = [a, b] := by
 match l, h with
 | [], h => simp at h
 | [a], h => simp at h
 | [a, b], _ => exact ⟨a, b, rfl⟩
 | a :: b :: c :: l, h => simp at h; omega
theorem zrw {l : List Int} (h : (l.length : Int) = 3) : ∃ a b c, l = [a, b, c] := by
 match l, h with
 | [], h => simp at h
 | [a], h => simp at h
 | [a, b], h => simp at h
 | [a, b, c], _ => exact ⟨a, b, c, rfl⟩
 | a :: b :: c :: d :: l, h => simp at h; omega
theorem znC (op : Int) (l : List Int) (hop : 2 ≤ op ∧ op < 14) (hl : (l.length : Int) = zaE op) : Fun Tryd.prog 92 [.u (.int .i64 op), .u (zkm l)] (· = .tup [.u (.int .i64 (zgM op l).1), .u (.bool (zgM op l).2)]) := by
 have h12 : op = 12 ∨ op = 13 ∨ op = 2 ∨ op = 3 ∨ op = 4 ∨ op = 5 ∨ op = 6 ∨ op = 7 ∨ op = 8 ∨ op = 9 ∨ op = 10 ∨ op = 11 := by omega
 rcases h12 with rfl | rfl | h12
 ·obtain ⟨a, rfl⟩ := zry (hl.trans rfl)
  have h1 := zgs 0 [a]
  simp only [zgM, l0]
  generalize zgG 0 [a] = o1 at h1 ⊢
  (refine Fun.of_body Tryd.func92 rfl (by simp) fun Γ hn => ?_); simp only [entry, List.zipIdx_cons, List.zipIdx_nil, List.map_cons, List.map_nil, Nat.zero_add, Tryd.ntmps92]
  simp only [zkm, List.map_cons, List.map_nil] at h1 ⊢
  repeat' (first
  | (refine zah ?_; simp)
  | (refine zak ?_; simp)
  | (refine zai ?_; simp)
  | (refine zag ?_; simp)
  | (refine zam ?_; simp)
  | (refine zas ?_; simp)
  | (refine zar ?_; simp only [zal])
  | (refine zaq ?_; simp only [zal])
  | (refine CallP.fun_ (h1) (by first | rfl | fail) (by first | assumption | (simp; done) | fail) (by first | (simp; done) | (simp; rfl) | fail) (by first | (simp; done) | fail) (fun d hd => ?_); subst hd; (try simp))
  | fail)
  all_goals
   (refine EndOK.val (.inr rfl) ?_; simp [zay, zae, zau, Tryd.results92])
 ·obtain ⟨a, b, c, rfl⟩ := zrw (hl.trans rfl)
  simp only [zgM, l0]
  (refine Fun.of_body Tryd.func92 rfl (by simp) fun Γ hn => ?_); simp only [entry, List.zipIdx_cons, List.zipIdx_nil, List.map_cons, List.map_nil, Nat.zero_add, Tryd.ntmps92]
  simp only [zkm, List.map_cons, List.map_nil]
  repeat' (first
  | (refine zah ?_; simp)
  | (refine zcj ?_; simp)
  | (refine zak ?_; simp)
  | (refine zai ?_; simp)
  | (refine zag ?_; simp)
  | (refine zcV ?_)
  | (refine hk _ ?_; clear hk k; simp only [zal])
  | (refine zci rfl (by kernel_rfl) (by kernel_rfl) fun k hk => ?_; simp)
  | (refine zdA rfl (by simp) (fun hc => ?_) (fun hc => ?_) <;> (try simp at hc) <;> (try (exfalso; omega)) <;> (try simp))
  | (refine zam ?_; simp)
  | (refine zas ?_; simp)
  | (refine zar ?_; simp only [zal])
  | fail)
  all_goals
   (refine EndOK.val (.inr rfl) ?_; simp [zay, zae, zau, Tryd.results92])
  all_goals (simp_all; done)
 ·obtain ⟨a, b, rfl⟩ := zrx (l := l) (by rw [hl]; rcases h12 with rfl | rfl | rfl | rfl | rfl | rfl | rfl | rfl | rfl | rfl <;> rfl)
  clear hl hop
  have h1 := zgs a [a, b]
  have h2 := zgs 0 [a, b]
  have h3 := znb a b
  have e0 : l0 [a, b] 0 = a := rfl
  have e1 : l0 [a, b] 1 = b := rfl
  unfold zgM
  rw [e0, e1]
  clear e0 e1
  generalize zgG a [a, b] = o1 at h1 ⊢
  generalize zgG 0 [a, b] = o2 at h2 ⊢
  generalize zlO a b = p at h3 ⊢
  simp only [zkm, List.map_cons, List.map_nil] at h1 h2 ⊢
  rcases h12 with rfl | rfl | rfl | rfl | rfl | rfl | rfl | rfl | rfl | rfl
  all_goals
   (refine Fun.of_body Tryd.func92 rfl (by simp) fun Γ hn => ?_); simp only [entry, List.zipIdx_cons, List.zipIdx_nil, List.map_cons, List.map_nil, Nat.zero_add, Tryd.ntmps92]
   repeat' (first
  | (refine zah ?_; simp)
  | (refine zcj ?_; simp)
  | (refine zak ?_; simp)
  | (refine zai ?_; simp)
  | (refine zag ?_; simp)
  | (refine zcV ?_)
  | (refine hk _ ?_; clear hk k; simp only [zal])
  | (refine zci rfl (by kernel_rfl) (by kernel_rfl) fun k hk => ?_; simp)
  | (refine zmT rfl (by simp) ?_; simp)
  | (refine zdA rfl (by simp) (fun hc => ?_) (fun hc => ?_) <;> (try simp at hc) <;> (try (exfalso; omega)) <;> (try simp))
  | (refine zam ?_; simp)
  | (refine zas ?_; simp)
  | (refine zar ?_; simp only [zal])
  | (refine zaq ?_; simp only [zal])
  | (refine ⟨fun hc => ?_, fun hc => ?_⟩ <;> (try (exfalso; omega)))
  | (refine CallV.fun_ (h1) (by first | rfl | fail) (by first | assumption | (simp; done) | fail) (by first | (simp; done) | (simp; rfl) | fail) (by first | (simp; done) | fail) ?_ <;> (try simp))
  | (refine CallP.fun_ (h1) (by first | rfl | fail) (by first | assumption | (simp; done) | fail) (by first | (simp; done) | (simp; rfl) | fail) (by first | (simp; done) | fail) (fun d hd => ?_); subst hd; (try simp))
  | (refine CallP.fun_ (h2) (by first | rfl | fail) (by first | assumption | (simp; done) | fail) (by first | (simp; done) | (simp; rfl) | fail) (by first | (simp; done) | fail) (fun d hd => ?_); subst hd; (try simp))
  | (refine CallV.fun_ (h3) (by first | rfl | fail) (by first | assumption | (simp; done) | fail) (by first | (simp; done) | (simp; rfl) | fail) (by first | (simp; done) | fail) ?_ <;> (try simp))
  | fail)
   all_goals
    (refine EndOK.val (.inr rfl) ?_; simp [zay, zae, zau, Tryd.results92])
   all_goals (clear h1 h2 h3; first | (simp_all; done) | (grind) | skip)
def asc {β : Type} : List (List UInt8 × β) → List UInt8 → Option β
 | [], _ => none
 | (k, b) :: l, x => if x = k then some b else asc l x
def zdb {β : Type} : List (List UInt8 × β) → List UInt8 → β → List (List UInt8 × β)
 | [], x, b => [(x, b)]
 | (k, c) :: l, x, b => if x = k then (k, b) :: l else (k, c) :: zdb l x b
theorem zgg {β : Type} (f : β → List U) (x : List UInt8) : ∀ (l : List (List UInt8 × β)), zbM (l.map fun p => (Key.s p.1, f p.2)) (.s x) = (asc l x).map f
 | [] => rfl
 | (k, b) :: l => by
  simp only [List.map_cons, zbM, asc, Key.s.injEq]
  split
  ·rfl
  ·exact zgg f x l
theorem zhs {β : Type} (f : β → List U) (x : List UInt8) (b : β) : ∀ (l : List (List UInt8 × β)), zcS (l.map fun p => (Key.s p.1, f p.2)) (.s x) (f b) = (zdb l x b).map fun p => (Key.s p.1, f p.2)
 | [] => rfl
 | (k, c) :: l => by
  simp only [List.map_cons, zcS, zdb, Key.s.injEq]
  split
  ·rfl
  ·simp only [List.map_cons]; rw [zhs f x b l]
theorem zgt {β : Type} (x y : List UInt8) (b : β) : ∀ (l : List (List UInt8 × β)), asc (zdb l x b) y = if y = x then some b else asc l y
 | [] => by simp [zdb, asc]
 | (k, c) :: l => by
  simp only [zdb]
  split
  ·rename_i h
   subst h
   simp only [asc]
   split <;> rfl
  ·rename_i h
   simp only [asc, zgt x y b l]
   by_cases h1 : y = k
   ·subst h1; simp [Ne.symm h]
   ·simp [h1]
mutual
/-- The unit of an expression, or an error. -/
def zdC (g : List UInt8 → Option Int) (m : List UInt8 → Option (Int × Int)) : Exp → Int × Int
 | .mk op _ u s args =>
  if op = 0 then (u, 0)
  else if op = 1 then (match g s with | some u => (u, 0) | none => match m s with | some r => r | none => (0, 13))
  else match zeQ g m args with
   | .error b => (0, b)
   | .ok l => if (zgM op l).2 = true then ((zgM op l).1, 0) else (0, 14)
def zeQ (g : List UInt8 → Option Int) (m : List UInt8 → Option (Int × Int)) : List Exp → Except Int (List Int)
 | [] => .ok []
 | e :: r => if (zdC g m e).2 ≠ 0 then .error (zdC g m e).2 else match zeQ g m r with
  | .error b => .error b
  | .ok l => .ok ((zdC g m e).1 :: l)
end
theorem zhu (g m) (e : Exp) : zdC g m e = if e.op = 0 then (e.unit, 0)
  else if e.op = 1 then (match g e.s with | some u => (u, 0) | none => match m e.s with | some r => r | none => (0, 13))
  else match zeQ g m e.args with
   | .error b => (0, b)
   | .ok l => if (zgM e.op l).2 = true then ((zgM e.op l).1, 0) else (0, 14) := by
 cases e with | mk op n u s args => rw [zdC]; rfl
theorem zie {g m} : ∀ {l : List Exp}, (∀ x ∈ l, (zdC g m x).2 = 0) → zeQ g m l = .ok (l.map fun x => (zdC g m x).1)
 | [], _ => by rw [zeQ]; rfl
 | e :: r, h => by
  rw [zeQ, if_neg (by simp [h e (by simp)]), zie fun x hx => h x (by simp [hx])]
  rfl
theorem zgP {g m} : ∀ {l : List Exp} {i : Nat} {e : Exp}, l[i]? = some e → (∀ x ∈ l.take i, (zdC g m x).2 = 0) → (zdC g m e).2 ≠ 0 → zeQ g m l = .error (zdC g m e).2
 | [], i, e, h, _, _ => by simp at h
 | a :: r, 0, e, h, _, h2 => by
  simp at h
  subst h
  rw [zeQ, if_pos h2]
 | a :: r, i + 1, e, h, h1, h2 => by
  rw [zeQ, if_neg (by simp [h1 a (by simp)]), zgP (l := r) (i := i) (by simpa using h) (fun x hx => h1 x (by simp [hx])) h2]
mutual
/-- Whether an expression is a share. -/
def zcK (m : List UInt8 → Bool) : Exp → Bool
 | .mk op _ u s args =>
  if op = 0 then decide (u = 4)
  else if op = 1 then m s
  else if op = 2 ∨ op = 3 ∨ op = 6 ∨ op = 7 then zcv m args 0
  else if op = 4 then zcv m args 0 && zcv m args 1
  else if op = 13 then zcv m args 1
  else false
def zcv (m : List UInt8 → Bool) : List Exp → Nat → Bool
 | [], _ => false
 | e :: _, 0 => zcK m e
 | _ :: r, n + 1 => zcv m r n
end
theorem zik (m) (e : Exp) : zcK m e = if e.op = 0 then decide (e.unit = 4)
  else if e.op = 1 then m e.s
  else if e.op = 2 ∨ e.op = 3 ∨ e.op = 6 ∨ e.op = 7 then zcv m e.args 0
  else if e.op = 4 then zcv m e.args 0 && zcv m e.args 1
  else if e.op = 13 then zcv m e.args 1
  else false := by
 cases e with | mk op n u s args => rw [zcK]; rfl
/-- What is known of a let: its unit, its error, whether it is a share. -/
abbrev LM := List (List UInt8 × Int × Int × Bool)
abbrev GM := List (List UInt8 × Int)
def zjF (g : GM) : List (Key × List U) := g.map fun p => (Key.s p.1, [U.int .i64 p.2])
def zn0 (m : LM) : List (Key × List U) := m.map fun p => (Key.s p.1, [U.int .i64 p.2.1, .int .i64 p.2.2.1, .bool p.2.2.2])
theorem zkf (g : GM) (x : List UInt8) : zbM (zjF g) (.s x) = (asc g x).map fun u => [U.int .i64 u] := zgg (fun u : Int => [U.int .i64 u]) x g
theorem znZ (g : LM) (x : List UInt8) : zbM (zn0 g) (.s x) = (asc g x).map fun q => [U.int .i64 q.1, .int .i64 q.2.1, .bool q.2.2] := zgg (fun q : Int × Int × Bool => [U.int .i64 q.1, .int .i64 q.2.1, .bool q.2.2]) x g
def jU (g : GM) (m : LM) : U := .row [.map .s false (zjF g), .map .s true (zn0 m)] 0
def gF (g : GM) : List UInt8 → Option Int := asc g
def mF (m : LM) : List UInt8 → Option (Int × Int) := fun x => (asc m x).map fun q => (q.1, q.2.1)
def sF (m : LM) : List UInt8 → Bool := fun x => ((asc m x).map fun q => q.2.2).getD false
theorem zcc {d : Nat} {e : Exp} (h : zax (d + 1) e = true) : (e.args.length : Int) = zaE e.op ∧ 0 ≤ e.op ∧ e.op < 14 ∧ (e.op ≠ 0 → e.op ≠ 1 → ∀ x ∈ e.args, zax d x = true) := by
 rw [zax, Bool.and_eq_true, decide_eq_true_eq] at h
 obtain ⟨h1, h2⟩ := h
 have h3 : 0 ≤ e.op ∧ e.op < 14 := by
  unfold zaE at h1
  split at h1
  ·omega
  ·split at h1
   ·omega
   ·split at h1
    ·omega
    ·split at h1
     ·omega
     ·omega
 refine ⟨h1, h3.1, h3.2, fun ha hb x hx => ?_⟩
 rw [if_neg ha] at h2
 split at h2
 ·cases h2
 ·simp only [if_neg hb, Bool.and_eq_true, Bool.not_eq_true', List.any_eq_false, Bool.not_eq_true] at h2
  have := h2.2 x hx
  simpa using this
theorem zj5 (g : GM) (m : LM) : ∀ (d : Nat) (e : Exp), zax d e = true → Fun Tryd.prog 65 [.u (jU g m), za3 e] (· = .tup [.u (.int .i64 (zdC (gF g) (mF m) e).1), .u (.int .i64 (zdC (gF g) (mF m) e).2)])
 | 0, e, h => by simp [zax] at h
 | d + 1, e, h => by
  obtain ⟨h1, h2, h3, h4⟩ := zcc h
  have hg := zkf g e.s
  have hm := znZ m e.s
  by_cases h0 : e.op = 0
  ·rw [zhu, if_pos h0]
   (refine Fun.of_body Tryd.func65 rfl (by simp) fun Γ hn => ?_); simp only [entry, List.zipIdx_cons, List.zipIdx_nil, List.map_cons, List.map_nil, Nat.zero_add, Tryd.ntmps65]
   simp only [za3, jU]
   repeat' (first
  | (refine zah ?_; simp [h0])
  | (refine zak ?_; simp [h0])
  | (refine zai ?_; simp [h0])
  | (refine zag ?_; simp [h0])
  | (refine zam ?_; simp [h0])
  | (refine zar ?_; simp only [zal])
  | fail)
   (refine EndOK.val (.inr rfl) ?_; simp [zay, zae, zau, Tryd.results65])
  by_cases hnm : e.op = 1
  ·rw [zhu, if_neg h0, if_pos hnm]
   (refine Fun.of_body Tryd.func65 rfl (by simp) fun Γ hn => ?_); simp only [entry, List.zipIdx_cons, List.zipIdx_nil, List.map_cons, List.map_nil, Nat.zero_add, Tryd.ntmps65]
   simp only [za3, jU]
   cases hga : asc g e.s with
   | some u =>
    rw [hga] at hg
    simp only [Option.map_some] at hg
    repeat' (first
  | (refine zah ?_; simp [h0, hnm, hg])
  | (refine zcj ?_; simp [h0, hnm, hg])
  | (refine zak ?_; simp [h0, hnm, hg])
  | (refine zai ?_; simp [h0, hnm, hg])
  | (refine zag ?_; simp [h0, hnm, hg])
  | (refine zcV ?_)
  | (refine hk _ ?_; clear hk k; simp only [zal])
  | (refine zci rfl (by kernel_rfl) (by kernel_rfl) fun k hk => ?_; simp [h0, hnm, hg])
  | (refine zam ?_; simp [h0, hnm, hg])
  | (refine zar ?_; simp only [zal])
  | fail)
    (refine EndOK.val (.inr rfl) ?_; simp [zay, zae, zau, Tryd.results65])
    simp [gF, hga]
   | none =>
    rw [hga] at hg
    simp only [Option.map_none] at hg
    cases hma : asc m e.s with
    | some q =>
     rw [hma] at hm
     simp only [Option.map_some] at hm
     repeat' (first
  | (refine zah ?_; simp [h0, hnm, hg, hm])
  | (refine zgy rfl ?_; simp [h0, hnm, hg, hm])
  | (refine zcj ?_; simp [h0, hnm, hg, hm])
  | (refine zgA rfl ?_; simp [h0, hnm, hg, hm])
  | (refine zak ?_; simp [h0, hnm, hg, hm])
  | (refine zai ?_; simp [h0, hnm, hg, hm])
  | (refine zag ?_; simp [h0, hnm, hg, hm])
  | (refine zgz (hC _ (by kernel_rfl)) (hk _ ?_); clear hC hk C k; simp only [zal])
  | (refine zcV ?_)
  | (refine hk _ ?_; clear hk k; simp only [zal])
  | (refine zci rfl (by kernel_rfl) (by kernel_rfl) fun k hk => ?_; simp [h0, hnm, hg, hm])
  | (refine zgw rfl (by kernel_rfl) (by kernel_rfl) (by simp [hn]) fun C k hC hk => ?_; simp [h0, hnm, hg, hm])
  | (refine zam ?_; simp [h0, hnm, hg, hm])
  | (refine zar ?_; simp only [zal])
  | (refine zaq ?_; simp only [zal])
  | fail)
     (refine EndOK.val (.inr rfl) ?_; simp [zay, zae, zau, Tryd.results65])
     simp [gF, hga, mF, hma]
    | none =>
     rw [hma] at hm
     simp only [Option.map_none] at hm
     repeat' (first
  | (refine zah ?_; simp [h0, hnm, hg, hm])
  | (refine zgy rfl ?_; simp [h0, hnm, hg, hm])
  | (refine zcj ?_; simp [h0, hnm, hg, hm])
  | (refine zgA rfl ?_; simp [h0, hnm, hg, hm])
  | (refine zak ?_; simp [h0, hnm, hg, hm])
  | (refine zai ?_; simp [h0, hnm, hg, hm])
  | (refine zag ?_; simp [h0, hnm, hg, hm])
  | (refine zgz (hC _ (by kernel_rfl)) (hk _ ?_); clear hC hk C k; simp only [zal])
  | (refine zcV ?_)
  | (refine hk _ ?_; clear hk k; simp only [zal])
  | (refine zci rfl (by kernel_rfl) (by kernel_rfl) fun k hk => ?_; simp [h0, hnm, hg, hm])
  | (refine zgw rfl (by kernel_rfl) (by kernel_rfl) (by simp [hn]) fun C k hC hk => ?_; simp [h0, hnm, hg, hm])
  | (refine zam ?_; simp [h0, hnm, hg, hm])
  | (refine zar ?_; simp only [zal])
  | (refine zaq ?_; simp only [zal])
  | fail)
     (refine EndOK.val (.inr rfl) ?_; simp [zay, zae, zau, Tryd.results65])
     simp [gF, hga, mF, hma]
  rw [zhu, if_neg h0, if_neg hnm]
  (refine Fun.of_body Tryd.func65 rfl (by simp) fun Γ hn => ?_); simp only [entry, List.zipIdx_cons, List.zipIdx_nil, List.map_cons, List.map_nil, Nat.zero_add, Tryd.ntmps65]
  simp only [za3, jU]
  have hr := h4 h0 hnm
  repeat' (first
  | (refine zah ?_; simp [h0, hnm])
  | (refine zak ?_; simp [h0, hnm])
  | (refine zai ?_; simp [h0, hnm])
  | (refine zag ?_; simp [h0, hnm])
  | (refine zam ?_; simp [h0, hnm])
  | (refine zaq ?_; simp only [zal])
  | fail)
  refine zpS _ (Wk.own 10 3 1 (by decide) rfl) ?_
  simp [St.own]
  refine zcR (α := { p : Nat × List Int // p.1 ≤ e.args.length ∧ p.2 = (e.args.take p.1).map (fun x => (zdC (gF g) (mF m) x).1) ∧ ∀ x ∈ e.args.take p.1, (zdC (gF g) (mF m) x).2 = 0 }) [0, 3, 53, 54]
   (fun p => [(10, .vec 1 p.1.2.length), (55, .u (.int .i64 p.1.1))]) (fun p => [(1, .vec 3 1 (rowsD (p.1.2.map fun n => [U.int .i64 n]))), (0, .box [.u (.int .i64 e.op), .u (.int .i64 e.n), .u (.int .i64 e.unit), .u (.str e.s), .u (.sl (e.args.map Exp.row))])]) 2
   (fun p => e.args.length - p.1.1) ⟨(0, []), by simp, by simp, by simp⟩ ?_ ?_
  ·exact (Wk.cut rfl (by simp [hn, St.lp]) (by simp [wkO, St.lp, zaa, getK, Ob.under, D.under, zad, zaf]) (by simp [wkU, St.lp, zap, zaa, getK, D.under]) (by simp [wkE, St.lp, zap, zaa, getK] <;> (try (intros; simp_all; done)) <;> (try (intros; omega)) <;> (try grind)))
  rintro ⟨⟨i, acc⟩, hi, hacc, hb⟩
  simp only at hi hacc hb
  simp [St.lp, St.only, zap, zaa, getK]
  rcases hx : e.args[i]? with _ | x
  ·have hge : e.args.length ≤ i := by simpa using hx
   rw [List.take_of_length_le hge] at hacc hb
   have hok := zie hb
   rw [← hacc] at hok
   have hal : (acc.length : Int) = zaE e.op := by rw [hacc]; simpa using h1
   have h5 := znC e.op acc (by omega) hal
   simp only [zkm] at h5
   generalize hcb : zgM e.op acc = cb at h5
   obtain ⟨c1, c2⟩ := cb
   repeat' (first
  | (refine zah ?_; simp [hx, h0, hnm])
  | (refine zak ?_; simp [hx, h0, hnm])
  | (refine ⟨by omega, ?_⟩)
  | (refine zai ?_; simp [hx, h0, hnm])
  | (refine zag ?_; simp [hx, h0, hnm])
  | (refine zar ?_; simp only [zal])
  | (refine zaq ?_; simp only [zal])
  | (refine zba ?_; simp [zal])
  | (refine ⟨fun hc => ?_, fun hc => ?_⟩ <;> (try (exfalso; omega)))
  | (intro hc <;> (try (exfalso; omega)))
  | (refine CallP.fun_ (h5) (by first | rfl | fail) (by first | assumption | (simp; done) | fail) (by first | (simp [hx, h0, hnm]; done) | (simp [hx, h0, hnm]; rfl) | fail) (by first | (simp; done) | fail) (fun d hd => ?_); subst hd; (try simp [hx, h0, hnm]))
  | fail)
   all_goals
    (refine EndOK.val (.inr rfl) ?_; simp [zay, zae, zau, Tryd.results65])
   all_goals (rw [hok]; simp_all; done)
  ·have hlt : i < e.args.length := (List.getElem?_eq_some_iff.1 hx).1
   have h5 := zj5 g m d x (hr x (List.mem_of_getElem? hx))
   simp only [za3, jU] at h5
   have hal : acc.length = i := by rw [hacc]; simp; omega
   have h3a : e.args.length ≤ 3 := by
    have : zaE e.op ≤ 3 := by unfold zaE; repeat' split
                              all_goals omega
    omega
   have her := fun h => zgP (g := gF g) (m := mF m) hx hb h
   generalize hun : zdC (gF g) (mF m) x = un at h5 her
   obtain ⟨u, er⟩ := un
   repeat' (first
  | (refine zah ?_; simp [hx, x.row_eq, h0, hnm])
  | (refine zak ?_; simp [hx, x.row_eq, h0, hnm])
  | (refine ⟨by omega, ?_⟩)
  | (refine zai ?_; simp [hx, x.row_eq, h0, hnm])
  | (refine zag ?_; simp [hx, x.row_eq, h0, hnm])
  | (refine zas ?_; simp [hx, x.row_eq, h0, hnm])
  | (refine zar ?_; simp only [zal])
  | (refine zaq ?_; simp only [zal])
  | (refine ⟨?_, by omega⟩)
  | (refine ⟨fun hc => ?_, fun hc => ?_⟩ <;> (try (exfalso; omega)))
  | (intro hc <;> (try (exfalso; omega)))
  | (refine CallP.fun_ (h5) (by first | rfl | fail) (by first | assumption | (simp; done) | fail) (by first | (simp [hx, x.row_eq, h0, hnm]; done) | (simp [hx, x.row_eq, h0, hnm]; rfl) | fail) (by first | (simp; done) | fail) (fun d hd => ?_); subst hd; (try simp [hx, x.row_eq, h0, hnm]))
  | fail)
   ·(refine EndOK.val (.inr rfl) ?_; simp [zay, zae, zau, Tryd.results65])
    rw [her (by simpa using (by assumption : ¬ er = 0))]
    simp
   ·skip
    refine LoopW.next ⟨(i + 1, acc ++ [u]), (by omega : i + 1 ≤ e.args.length), (?_ : acc ++ [u] = _), ?_⟩ (by simp; omega) ?_
    ·rw [List.take_succ_eq_append_getElem hlt, List.map_append, ← hacc, (List.getElem?_eq_some_iff.1 hx).2]
     simp [hun]
    ·exact zaG hx hb (by simp_all)
    ·exact (Wk.ren ((fun i => if i = 1 then 4 else i)) rfl (by first | (simp [hn]; done) | (intro i hi; rw [hn] at hi; constructor <;> (try simp) <;> (try (intro _)) <;> omega)) (by simp [zoh, St.lp, zap, zaa, getK, zac, zaj, D.under, D.le, D.ren] <;> (try (intros; simp_all; done)) <;> (try omega)) (by simp [wkR, St.lp, zaa, getK, zac, zaj, obR, leU, zdp, zbU, Ob.under, D.under, D.le, D.ren] <;> (try (intros; simp_all; done)) <;> (try omega)) (by simp))
theorem zdJ (g : GM) (m : LM) : ∀ (d : Nat) (e : Exp), zax d e = true → Fun Tryd.prog 91 [.u (jU g m), za3 e] (· = .u (.bool (zcK (sF m) e)))
 | 0, e, h => by simp [zax] at h
 | d + 1, e, h => by
  obtain ⟨h1, h2, h3, h4⟩ := zcc h
  rw [zik]
  have hm := znZ m e.s
  by_cases h0 : e.op = 0
  ·rw [if_pos h0]
   (refine Fun.of_body Tryd.func91 rfl (by simp) fun Γ hn => ?_); simp only [entry, List.zipIdx_cons, List.zipIdx_nil, List.map_cons, List.map_nil, Nat.zero_add, Tryd.ntmps91]
   simp only [za3, jU]
   repeat' (first
  | (refine zah ?_; simp [h0])
  | (refine zak ?_; simp [h0])
  | (refine zai ?_; simp [h0])
  | (refine zag ?_; simp [h0])
  | (refine zam ?_; simp [h0])
  | (refine zar ?_; simp only [zal])
  | fail)
   (refine EndOK.val (.inr rfl) ?_; simp [zay, zae, zau, Tryd.results91])
  rw [if_neg h0]
  by_cases hnm : e.op = 1
  ·rw [if_pos hnm]
   cases hma : asc m e.s with
   | some q =>
    rw [hma] at hm
    simp only [Option.map_some] at hm
    (refine Fun.of_body Tryd.func91 rfl (by simp) fun Γ hn => ?_); simp only [entry, List.zipIdx_cons, List.zipIdx_nil, List.map_cons, List.map_nil, Nat.zero_add, Tryd.ntmps91]
    simp only [za3, jU]
    repeat' (first
  | (refine zah ?_; simp [h0, hnm, hm])
  | (refine zcj ?_; simp [h0, hnm, hm])
  | (refine zak ?_; simp [h0, hnm, hm])
  | (refine zai ?_; simp [h0, hnm, hm])
  | (refine zag ?_; simp [h0, hnm, hm])
  | (refine zcV ?_)
  | (refine hk _ ?_; clear hk k; simp only [zal])
  | (refine zci rfl (by kernel_rfl) (by kernel_rfl) fun k hk => ?_; simp [h0, hnm, hm])
  | (refine zam ?_; simp [h0, hnm, hm])
  | (refine zar ?_; simp only [zal])
  | fail)
    (refine EndOK.val (.inr rfl) ?_; simp [zay, zae, zau, Tryd.results91])
    simp [sF, hma]
   | none =>
    rw [hma] at hm
    simp only [Option.map_none] at hm
    (refine Fun.of_body Tryd.func91 rfl (by simp) fun Γ hn => ?_); simp only [entry, List.zipIdx_cons, List.zipIdx_nil, List.map_cons, List.map_nil, Nat.zero_add, Tryd.ntmps91]
    simp only [za3, jU]
    repeat' (first
  | (refine zah ?_; simp [h0, hnm, hm])
  | (refine zcj ?_; simp [h0, hnm, hm])
  | (refine zak ?_; simp [h0, hnm, hm])
  | (refine zai ?_; simp [h0, hnm, hm])
  | (refine zag ?_; simp [h0, hnm, hm])
  | (refine zcV ?_)
  | (refine hk _ ?_; clear hk k; simp only [zal])
  | (refine zci rfl (by kernel_rfl) (by kernel_rfl) fun k hk => ?_; simp [h0, hnm, hm])
  | (refine zam ?_; simp [h0, hnm, hm])
  | (refine zar ?_; simp only [zal])
  | fail)
    (refine EndOK.val (.inr rfl) ?_; simp [zay, zae, zau, Tryd.results91])
    simp [sF, hma]
  rw [if_neg hnm]
  have hr := h4 h0 hnm
  by_cases hA : e.op = 2 ∨ e.op = 3 ∨ e.op = 6 ∨ e.op = 7
  ·rw [if_pos hA]
   have hl : e.args.length = 2 := by
    rcases hA with ha | ha | ha | ha <;> rw [ha] at h1 <;> simp [zaE] at h1 <;> omega
   obtain ⟨a, b, hab⟩ : ∃ a b, e.args = [a, b] := by
    match hq : e.args, hl with
    | [a, b], _ => exact ⟨a, b, rfl⟩
   have h5 := zdJ g m d a (hr a (by simp [hab]))
   simp only [za3, jU] at h5
   rw [hab, zcv]
   rcases hA with ha | ha | ha | ha
   all_goals
    (refine Fun.of_body Tryd.func91 rfl (by simp) fun Γ hn => ?_); simp only [entry, List.zipIdx_cons, List.zipIdx_nil, List.map_cons, List.map_nil, Nat.zero_add, Tryd.ntmps91]
    simp only [za3, jU]
    repeat' (first
  | (refine zah ?_; simp [ha, hab, a.row_eq, b.row_eq])
  | (refine zak ?_; simp [ha, hab, a.row_eq, b.row_eq])
  | (refine zai ?_; simp [ha, hab, a.row_eq, b.row_eq])
  | (refine zag ?_; simp [ha, hab, a.row_eq, b.row_eq])
  | (refine zam ?_; simp [ha, hab, a.row_eq, b.row_eq])
  | (refine zas ?_; simp [ha, hab, a.row_eq, b.row_eq])
  | (refine zar ?_; simp only [zal])
  | (refine zaq ?_; simp only [zal])
  | (refine CallP.fun_ (h5) (by first | rfl | fail) (by first | assumption | (simp; done) | fail) (by first | (simp [ha, hab, a.row_eq, b.row_eq]; done) | (simp [ha, hab, a.row_eq, b.row_eq]; rfl) | fail) (by first | (simp; done) | fail) (fun d hd => ?_); subst hd; (try simp [ha, hab, a.row_eq, b.row_eq]))
  | fail)
    (refine EndOK.val (.inr rfl) ?_; simp [zay, zae, zau, Tryd.results91])
  rw [if_neg hA]
  by_cases hB : e.op = 4
  ·rw [if_pos hB]
   have hl : e.args.length = 2 := by rw [hB] at h1; simp [zaE] at h1; omega
   obtain ⟨a, b, hab⟩ : ∃ a b, e.args = [a, b] := by
    match hq : e.args, hl with
    | [a, b], _ => exact ⟨a, b, rfl⟩
   have h5 := zdJ g m d a (hr a (by simp [hab]))
   have h6 := zdJ g m d b (hr b (by simp [hab]))
   simp only [za3, jU] at h5 h6
   rw [hab, zcv, zcv, zcv]
   generalize zcK (sF m) a = x1 at h5 ⊢
   generalize zcK (sF m) b = x2 at h6 ⊢
   (refine Fun.of_body Tryd.func91 rfl (by simp) fun Γ hn => ?_); simp only [entry, List.zipIdx_cons, List.zipIdx_nil, List.map_cons, List.map_nil, Nat.zero_add, Tryd.ntmps91]
   simp only [za3, jU]
   repeat' (first
  | (refine zah ?_; simp [hB, hab, a.row_eq, b.row_eq])
  | (refine zak ?_; simp [hB, hab, a.row_eq, b.row_eq])
  | (refine zai ?_; simp [hB, hab, a.row_eq, b.row_eq])
  | (refine zag ?_; simp [hB, hab, a.row_eq, b.row_eq])
  | (refine zam ?_; simp [hB, hab, a.row_eq, b.row_eq])
  | (refine zas ?_; simp [hB, hab, a.row_eq, b.row_eq])
  | (refine zar ?_; simp only [zal])
  | (refine ⟨fun hc => ?_, fun hc => ?_⟩ <;> (try (exfalso; omega)))
  | (refine CallP.fun_ (h5) (by first | rfl | fail) (by first | assumption | (simp; done) | fail) (by first | (simp [hB, hab, a.row_eq, b.row_eq]; done) | (simp [hB, hab, a.row_eq, b.row_eq]; rfl) | fail) (by first | (simp; done) | fail) (fun d hd => ?_); subst hd; (try simp [hB, hab, a.row_eq, b.row_eq]))
  | (refine CallP.fun_ (h6) (by first | rfl | fail) (by first | assumption | (simp; done) | fail) (by first | (simp [hB, hab, a.row_eq, b.row_eq]; done) | (simp [hB, hab, a.row_eq, b.row_eq]; rfl) | fail) (by first | (simp; done) | fail) (fun d hd => ?_); subst hd; (try simp [hB, hab, a.row_eq, b.row_eq]))
  | fail)
   all_goals
    (refine EndOK.val (.inr rfl) ?_; simp [zay, zae, zau, Tryd.results91])
   all_goals (simp_all; done)
  rw [if_neg hB]
  by_cases hC : e.op = 13
  ·rw [if_pos hC]
   have hl : e.args.length = 3 := by rw [hC] at h1; simp [zaE] at h1; omega
   obtain ⟨a, b, c, hab⟩ : ∃ a b c, e.args = [a, b, c] := by
    match hq : e.args, hl with
    | [a, b, c], _ => exact ⟨a, b, c, rfl⟩
   have h5 := zdJ g m d b (hr b (by simp [hab]))
   simp only [za3, jU] at h5
   rw [hab, zcv, zcv]
   (refine Fun.of_body Tryd.func91 rfl (by simp) fun Γ hn => ?_); simp only [entry, List.zipIdx_cons, List.zipIdx_nil, List.map_cons, List.map_nil, Nat.zero_add, Tryd.ntmps91]
   simp only [za3, jU]
   repeat' (first
  | (refine zah ?_; simp [hC, hab, a.row_eq, b.row_eq, c.row_eq])
  | (refine zak ?_; simp [hC, hab, a.row_eq, b.row_eq, c.row_eq])
  | (refine zai ?_; simp [hC, hab, a.row_eq, b.row_eq, c.row_eq])
  | (refine zag ?_; simp [hC, hab, a.row_eq, b.row_eq, c.row_eq])
  | (refine zam ?_; simp [hC, hab, a.row_eq, b.row_eq, c.row_eq])
  | (refine zas ?_; simp [hC, hab, a.row_eq, b.row_eq, c.row_eq])
  | (refine zar ?_; simp only [zal])
  | (refine CallP.fun_ (h5) (by first | rfl | fail) (by first | assumption | (simp; done) | fail) (by first | (simp [hC, hab, a.row_eq, b.row_eq, c.row_eq]; done) | (simp [hC, hab, a.row_eq, b.row_eq, c.row_eq]; rfl) | fail) (by first | (simp; done) | fail) (fun d hd => ?_); subst hd; (try simp [hC, hab, a.row_eq, b.row_eq, c.row_eq]))
  | fail)
   (refine EndOK.val (.inr rfl) ?_; simp [zay, zae, zau, Tryd.results91])
  rw [if_neg hC]
  have hD : ¬ e.op = 2 ∧ ¬ e.op = 3 ∧ ¬ e.op = 6 ∧ ¬ e.op = 7 := by omega
  (refine Fun.of_body Tryd.func91 rfl (by simp) fun Γ hn => ?_); simp only [entry, List.zipIdx_cons, List.zipIdx_nil, List.map_cons, List.map_nil, Nat.zero_add, Tryd.ntmps91]
  simp only [za3, jU]
  repeat' (first
  | (refine zah ?_; simp [h0, hnm, hB, hC, hD.1, hD.2.1, hD.2.2.1, hD.2.2.2])
  | (refine zak ?_; simp [h0, hnm, hB, hC, hD.1, hD.2.1, hD.2.2.1, hD.2.2.2])
  | (refine zai ?_; simp [h0, hnm, hB, hC, hD.1, hD.2.1, hD.2.2.1, hD.2.2.2])
  | (refine zag ?_; simp [h0, hnm, hB, hC, hD.1, hD.2.1, hD.2.2.1, hD.2.2.2])
  | (refine zam ?_; simp [h0, hnm, hB, hC, hD.1, hD.2.1, hD.2.2.1, hD.2.2.2])
  | (refine zas ?_; simp [h0, hnm, hB, hC, hD.1, hD.2.1, hD.2.2.1, hD.2.2.2])
  | (refine zar ?_; simp only [zal])
  | (refine zaq ?_; simp only [zal])
  | fail)
  (refine EndOK.val (.inr rfl) ?_; simp [zay, zae, zau, Tryd.results91])
theorem zov (l : Let) : Fun Tryd.prog 90 (zoA l :: [].map .u) (· = .u (.bool (!zax 12 l.body))) := by
 have h1 := zc9 l.body
 simp only [zoA, List.map_nil, za3] at h1 ⊢
 (refine Fun.of_body Tryd.func90 rfl (by simp) fun Γ hn => ?_); simp only [entry, List.zipIdx_cons, List.zipIdx_nil, List.map_cons, List.map_nil, Nat.zero_add, Tryd.ntmps90]
 repeat' (first
  | (refine zah ?_; simp)
  | (refine zak ?_; simp)
  | (refine zai ?_; simp)
  | (refine zar ?_; simp only [zal])
  | (refine CallP.fun_ (h1) (by first | rfl | fail) (by first | assumption | (simp; done) | fail) (by first | (simp; done) | (simp; rfl) | fail) (by first | (simp; done) | fail) (fun d hd => ?_); subst hd; (try simp))
  | fail)
 (refine EndOK.val (.inr rfl) ?_; simp [zay, zae, zau, Tryd.results90])
def zcF (l : List Var) : U := .sl (l.map fun v => [.str v.name, .int .i64 v.unit, .int .i64 v.n])
/-- What the given names mean. -/
def gOf (names : List Var) : GM := names.foldl (fun g v => if asc g v.name = none then zdb g v.name v.unit else g) []
/-- What the lets mean. -/
def mOf (g : GM) (lets : List Let) : LM := lets.foldl (fun m l => zdb m l.name ((zdC (gF g) (mF m) l.body).1, (zdC (gF g) (mF m) l.body).2, zcK (sF m) l.body)) []
def zf2 (v : Var) : Bool := decide (0 ≤ v.unit) && decide (v.unit < 5)
def zbL (lets : List Let) (e : Exp) : Bool := decide (lets.length ≤ 20) && zax 12 e && !lets.any (fun l => !zax 12 l.body)
def okJ (lets : List Let) (names : List Var) (e : Exp) : Bool := zbL lets e && names.all zf2
def zml (lets : List Let) (names : List Var) (e : Exp) : D := if okJ lets names e = true then .tup [.u (jU (gOf names) (mOf (gOf names) lets)), .u (.bool true)] else .tup [.u (.oth (.pointer none)), .u (.bool false)]
theorem zd8 (g : GM) (x : List UInt8) (u : Int) : zcS (zjF g) (.s x) [U.int .i64 u] = zjF (zdb g x u) := zhs (fun u : Int => [U.int .i64 u]) x u g
theorem zff (g : LM) (x : List UInt8) (u e : Int) (b : Bool) : zcS (zn0 g) (.s x) [U.int .i64 u, .int .i64 e, .bool b] = zn0 (zdb g x (u, e, b)) := zhs (fun q : Int × Int × Bool => [U.int .i64 q.1, .int .i64 q.2.1, .bool q.2.2]) x (u, e, b) g
theorem zer {α β : Type} (f : β → α → β) (b : β) {l : List α} {i : Nat} {x : α} (h : l[i]? = some x) : (l.take (i + 1)).foldl f b = f ((l.take i).foldl f b) x := by
 obtain ⟨hi, rfl⟩ := List.getElem?_eq_some_iff.1 h
 rw [List.take_succ_eq_append_getElem hi, List.foldl_append]
 rfl
theorem znw {names : List Var} {i : Nat} {v : Var} (h : names[i]? = some v) : gOf (names.take (i + 1)) = if asc (gOf (names.take i)) v.name = none then zdb (gOf (names.take i)) v.name v.unit else gOf (names.take i) := zer _ _ h
theorem znl {g : GM} {lets : List Let} {i : Nat} {l : Let} (h : lets[i]? = some l) : mOf g (lets.take (i + 1)) = zdb (mOf g (lets.take i)) l.name ((zdC (gF g) (mF (mOf g (lets.take i))) l.body).1, (zdC (gF g) (mF (mOf g (lets.take i))) l.body).2, zcK (sF (mOf g (lets.take i))) l.body) := zer _ _ h
theorem zmk (lets : List Let) (names : List Var) (e : Exp) : Fun Tryd.prog 64 [.u (zaw lets), .u (zcF names), za3 e] (· = zml lets names e) := by
 have h1 := zc9 e
 have h2 := ze4 lets 90 [] _ (fun x _ => zov x) (by simp) (fun _ => rfl) (fun _ => rfl)
 simp only [List.map_nil, zaw, za3] at h1 h2
 generalize hre : zax 12 e = re at h1
 generalize hrl : (lets.any fun l => !zax 12 l.body) = rl at h2
 have hok0 : okJ lets names e = (decide (lets.length ≤ 20) && re && !rl && names.all zf2) := by rw [okJ, zbL, hre, hrl]
 have hre' := hre
 have hrl' := hrl
 clear hre hrl
 unfold zml
 generalize okJ lets names e = K at hok0 ⊢
 (refine Fun.of_bodyW Tryd.func64 rfl (by simp) fun Γ hn => ?_); simp only [entry, List.zipIdx_cons, List.zipIdx_nil, List.map_cons, List.map_nil, Nat.zero_add, Tryd.ntmps64]
 simp only [za3, zaw, zcF]
 refine zfJ (x := 0) rfl fun hl0 => ?_
 refine zfJ (x := 1) rfl fun hl1 => ?_
 simp only [List.length_map] at hl0 hl1
 repeat' (first
  | (refine zah ?_; simp)
  | (refine zak ?_; simp)
  | (refine zai ?_; simp)
  | (refine zag ?_; simp)
  | (refine zam ?_; simp)
  | (refine zar ?_; simp only [zal])
  | (refine zaq ?_; simp only [zal])
  | (refine ⟨fun hc => ?_, fun hc => ?_⟩ <;> (try (exfalso; omega)))
  | (refine CallP.fun_ (h1) (by first | rfl | fail) (by first | assumption | (simp; done) | fail) (by first | (simp; done) | (simp; rfl) | fail) (by first | (simp; done) | fail) (fun d hd => ?_); subst hd; (try simp))
  | (refine CallP.fun_ (h2) (by first | rfl | fail) (by first | assumption | (simp; done) | fail) (by first | (simp; done) | (simp; rfl) | fail) (by first | (simp; done) | fail) (fun d hd => ?_); subst hd; (try simp))
  | fail)
 all_goals try (refine EndW.here ?_; have hKf : K = false := (by first | (rw [hok0]; clear h1 h2 hok0 hre' hrl'; simp; intros; simp_all; done) | (rw [hok0]; clear h1 h2 hok0 hre' hrl'; simp; intros; omega) | fail); subst hKf; (refine EndOK.val (.inr rfl) ?_; simp [zay, zae, zau, Tryd.results64]); done)
 refine zcR (α := { i : Nat // i ≤ names.length ∧ ∀ v ∈ names.take i, zf2 v = true }) [0, 8, 33, 34] (fun i => [(35, .u (.int .i64 i.1))])
  (fun i => [(3, .box [.mp 1, .mp 2]), (2, .map .s true []), (1, .map .s false (zhe (zjF (gOf (names.take i.1))))), (0, .box [.u (.int .i64 e.op), .u (.int .i64 e.n), .u (.int .i64 e.unit), .u (.str e.s), .u (.sl (e.args.map Exp.row))])]) 4
  (fun i => names.length - i.1) ⟨0, by omega, by simp⟩ ?_ ?_
 ·exact (Wk.cut rfl (by simp [hn, St.lp]) (by simp [wkO, St.lp, zaa, getK, Ob.under, D.under, zad, zaf, gOf, zjF, zaW, Ob.under]) (by simp [wkU, St.lp, zap, zaa, getK, D.under, gOf, zjF, zaW, Ob.under]) (by simp [wkE, St.lp, zap, zaa, getK, gOf, zjF, zaW, Ob.under] <;> (try (intros; simp_all; done)) <;> (try (intros; omega)) <;> (try grind)))
 rintro ⟨i, hi, hb⟩
 simp [St.lp, St.only, zap, zaa, getK]
 rcases hx : names[i]? with _ | v
 ·have hge : names.length ≤ i := by simpa using hx
  obtain rfl : i = names.length := by omega
  rw [List.take_length] at hb
  have hall : names.all zf2 = true := by simpa [List.all_eq_true] using hb
  repeat' (first
  | (refine zah ?_; simp [hx])
  | (refine zak ?_; simp [hx])
  | (refine zai ?_; simp [hx])
  | (refine zam ?_; simp [hx])
  | (refine zba ?_; simp [zal])
  | fail)
  refine zcR (α := { i : Nat // i ≤ lets.length }) [8, 68, 69] (fun i => [(70, .u (.int .i64 i.1))])
   (fun i => [(3, .box [.mp 1, .mp 2]), (2, .map .s true (zhe (zn0 (mOf (gOf names) (lets.take i.1))))), (1, .map .s false (zhe (zjF (gOf names)))), (0, .box [.u (.int .i64 e.op), .u (.int .i64 e.n), .u (.int .i64 e.unit), .u (.str e.s), .u (.sl (e.args.map Exp.row))])]) 4
   (fun i => lets.length - i.1) ⟨0, by omega⟩ ?_ ?_
  ·exact (Wk.cut rfl (by simp [hn, St.lp]) (by simp [wkO, St.lp, zaa, getK, Ob.under, D.under, zad, zaf, mOf, zn0, zaW, Ob.under]) (by simp [wkU, St.lp, zap, zaa, getK, D.under, mOf, zn0, zaW, Ob.under]) (by simp [wkE, St.lp, zap, zaa, getK, mOf, zn0, zaW, Ob.under] <;> (try (intros; simp_all; done)) <;> (try (intros; omega)) <;> (try grind)))
  rintro ⟨k, hk0⟩
  simp [St.lp, St.only, zap, zaa, getK]
  rcases hy : lets[k]? with _ | l
  ·have hgk : lets.length ≤ k := by simpa using hy
   obtain rfl : k = lets.length := by omega
   obtain rfl : K = true := by
    rw [hok0, hall]
    have : lets.length ≤ 20 := by omega
    clear h1 h2
    simp_all
   repeat' (first
  | (refine zah ?_; simp [hy])
  | (refine zak ?_; simp [hy])
  | (refine zai ?_; simp [hy])
  | (refine zar ?_; simp only [zal])
  | (refine zba ?_; simp [zal])
  | fail)
   (refine EndW.frzN 2 ?_; simp [frzN, frz1, zaV, zaU, St.frz, St.frzS, frzS, fv, zbH, zbJ, zbK, zaY, zaF, zaA, del, frz, zb2])
   (refine EndW.frzB 3 ?_; simp [frzB, zaV, zaU, St.frzS, frzS, fv, zbH, zbJ, zbK, zaY, zaF, zaA, del])
   refine EndW.here ?_
   (refine EndOK.val (.inr rfl) ?_; simp [zay, zae, zau, Tryd.results64])
   rfl
  ·have hltk : k < lets.length := (List.getElem?_eq_some_iff.1 hy).1
   have hsu := znl (g := gOf names) hy
   have hrl : zax 12 l.body = true := by
    have h7 : (lets.any fun l => !zax 12 l.body) = false := by rw [hrl']; assumption
    rw [List.any_eq_false] at h7
    simpa using h7 l (List.mem_of_getElem? hy)
   have h5 := zj5 (gOf names) (mOf (gOf names) (lets.take k)) 12 l.body hrl
   have h6 := zdJ (gOf names) (mOf (gOf names) (lets.take k)) 12 l.body hrl
   simp only [za3, jU] at h5 h6
   repeat' (first
  | (refine zah ?_; simp [hy, zff])
  | (refine zgy rfl ?_; simp [hy, zff])
  | (refine zgA rfl ?_; simp [hy, zff])
  | (refine zak ?_; simp [hy, zff])
  | (refine ⟨by omega, ?_⟩)
  | (refine zai ?_; simp [hy, zff])
  | (refine zgz (hC _ (by kernel_rfl)) (hk _ ?_); clear hC hk C k; simp only [zal])
  | (refine zgw rfl (by kernel_rfl) (by kernel_rfl) (by simp [hn]) fun C k hC hk => ?_; simp [hy, zff])
  | (refine zas ?_; simp [hy, zff])
  | (refine zaq ?_; simp only [zal])
  | (refine ⟨?_, by omega⟩)
  | (intro hc <;> (try (exfalso; omega)))
  | (refine CallP.fun_ (h5) (by first | rfl | fail) (by first | assumption | (simp; done) | fail) (by first | (simp [hy, zff]; done) | (simp [hy, zff]; rfl) | fail) (by first | (simp; done) | fail) (fun d hd => ?_); subst hd; (try simp [hy, zff]))
  | (refine CallV.fun_ (h6) (by first | rfl | fail) (by first | assumption | (simp; done) | fail) (by first | (simp [hy, zff]; done) | (simp [hy, zff]; rfl) | fail) (by first | (simp; done) | fail) ?_ <;> (try simp [hy, zff]))
  | fail)
   refine LoopW.next ⟨k + 1, by omega⟩ (by simp; omega) ?_
   exact (Wk.cut rfl (by simp [hn, St.lp]) (by simp [wkO, St.lp, zaa, getK, Ob.under, D.under, zad, zaf, hsu]) (by simp [wkU, St.lp, zap, zaa, getK, D.under, hsu]) (by simp [wkE, St.lp, zap, zaa, getK, hsu] <;> (try (intros; simp_all; done)) <;> (try (intros; omega)) <;> (try grind)))
 ·have hlt : i < names.length := (List.getElem?_eq_some_iff.1 hx).1
  have hg := zkf (gOf (names.take i)) v.name
  have hsu := znw hx
  have hok : zf2 v = (decide (0 ≤ v.unit) && decide (v.unit < 5)) := rfl
  have hbad : zf2 v = false → names.all zf2 = false := fun h => by
   rw [List.all_eq_false]
   exact ⟨v, List.mem_of_getElem? hx, by simp [h]⟩
  cases hga : asc (gOf (names.take i)) v.name with
  | some u =>
   rw [hga] at hg hsu
   simp only [Option.map_some] at hg
   repeat' (first
  | (refine zah ?_; simp [hx, hg])
  | (refine zcj ?_; simp [hx, hg])
  | (refine zak ?_; simp [hx, hg])
  | (refine ⟨by omega, ?_⟩)
  | (refine zai ?_; simp [hx, hg])
  | (refine zag ?_; simp [hx, hg])
  | (refine zcV ?_)
  | (refine hk _ ?_; clear hk k; simp only [zal])
  | (refine zci rfl (by kernel_rfl) (by kernel_rfl) fun k hk => ?_; simp [hx, hg])
  | (refine zas ?_; simp [hx, hg])
  | (refine zar ?_; simp only [zal])
  | (refine zaq ?_; simp only [zal])
  | (refine ⟨?_, by omega⟩)
  | (refine ⟨fun hc => ?_, fun hc => ?_⟩ <;> (try (exfalso; omega)))
  | (intro hc <;> (try (exfalso; omega)))
  | fail)
   all_goals first
    | (refine LoopW.next ⟨i + 1, by omega, zaG hx hb (by rw [hok]; simp; omega)⟩ (by simp; omega) ?_; exact (Wk.cut rfl (by simp [hn, St.lp]) (by simp [wkO, St.lp, zaa, getK, Ob.under, D.under, zad, zaf, hsu]) (by simp [wkU, St.lp, zap, zaa, getK, D.under, hsu]) (by simp [wkE, St.lp, zap, zaa, getK, hsu] <;> (try (intros; simp_all; done)) <;> (try (intros; omega)) <;> (try grind))))
    | (refine EndW.here ?_; have hKf : K = false := (by first | (rw [hok0, hbad (by rw [hok]; simp; omega)]; simp; done) | fail); subst hKf; (refine EndOK.val (.inr rfl) ?_; simp [zay, zae, zau, Tryd.results64]))
  | none =>
   rw [hga] at hg hsu
   simp only [Option.map_none] at hg
   repeat' (first
  | (refine zah ?_; simp [hx, hg, zd8])
  | (refine zgy rfl ?_; simp [hx, hg, zd8])
  | (refine zcj ?_; simp [hx, hg, zd8])
  | (refine zgA rfl ?_; simp [hx, hg, zd8])
  | (refine zak ?_; simp [hx, hg, zd8])
  | (refine ⟨by omega, ?_⟩)
  | (refine zai ?_; simp [hx, hg, zd8])
  | (refine zag ?_; simp [hx, hg, zd8])
  | (refine zgz (hC _ (by kernel_rfl)) (hk _ ?_); clear hC hk C k; simp only [zal])
  | (refine zcV ?_)
  | (refine hk _ ?_; clear hk k; simp only [zal])
  | (refine zci rfl (by kernel_rfl) (by kernel_rfl) fun k hk => ?_; simp [hx, hg, zd8])
  | (refine zgw rfl (by kernel_rfl) (by kernel_rfl) (by simp [hn]) fun C k hC hk => ?_; simp [hx, hg, zd8])
  | (refine zas ?_; simp [hx, hg, zd8])
  | (refine zar ?_; simp only [zal])
  | (refine zaq ?_; simp only [zal])
  | (refine ⟨?_, by omega⟩)
  | (refine ⟨fun hc => ?_, fun hc => ?_⟩ <;> (try (exfalso; omega)))
  | (intro hc <;> (try (exfalso; omega)))
  | fail)
   all_goals first
    | (refine LoopW.next ⟨i + 1, by omega, zaG hx hb (by rw [hok]; simp; omega)⟩ (by simp; omega) ?_; exact (Wk.cut rfl (by simp [hn, St.lp]) (by simp [wkO, St.lp, zaa, getK, Ob.under, D.under, zad, zaf, hsu]) (by simp [wkU, St.lp, zap, zaa, getK, D.under, hsu]) (by simp [wkE, St.lp, zap, zaa, getK, hsu] <;> (try (intros; simp_all; done)) <;> (try (intros; omega)) <;> (try grind))))
    | (refine EndW.here ?_; have hKf : K = false := (by first | (rw [hok0, hbad (by rw [hok]; simp; omega)]; simp; done) | fail); subst hKf; (refine EndOK.val (.inr rfl) ?_; simp [zay, zae, zau, Tryd.results64]))
end Go.Proofs.YtfcopibncpkdoaaDoor
namespace Go.Proofs.YtfcopibncpkdoaaDoor
open Go Go.VL
theorem zgX {lets : List Let} {e : Exp} (h : zbL lets e = true) : lets.length ≤ 20 ∧ zax 12 e = true ∧ ∀ l ∈ lets, zax 12 l.body = true := by
 simp only [zbL, Bool.and_eq_true, decide_eq_true_eq, Bool.not_eq_true', List.any_eq_false, Bool.not_eq_true] at h
 exact ⟨h.1.1, h.1.2, fun l hl => by have := h.2 l hl; simpa using this⟩
def zbC (lets : List Let) (e : Exp) : Bool := zbL lets e && zcK (sF (mOf [] lets)) e
abbrev Tab := List (Int × Int × Bool)
/-- A number that is not too great. -/
def zcG (n : Int) : Except Int Int := if 1099511627776 < n ∨ n < -1099511627776 then .error 3 else .ok n
def zdd (a b : Int) : Int := if a.tdiv b * b ≠ a ∧ ¬ (a < 0 ↔ b < 0) then a.tdiv b - 1 else a.tdiv b
def zeb (a b c : Int) : Except Int Int :=
 if a ≠ 0 ∧ ((1099511627777 * c).tdiv (max a (-a)) < b ∨ b < (-(1099511627777 * c)).tdiv (max a (-a))) then .error 3 else zcG (zdd (a * b) c)
def zbI (b : Bool) : Int := if b = true then 1 else 0
def zd5 (op : Int) (sh : Bool) (a b : Int) : Except Int Int :=
 if op = 2 then zcG (a + b) else if op = 3 then zcG (a - b) else if op = 4 then zeb a b (if sh = true then 1000 else 1)
 else if op = 5 then (if b = 0 then .error 15 else zcG (zdd a b))
 else if op = 6 then .ok (min a b) else if op = 7 then .ok (max a b) else if op = 8 then .ok (zbI (decide (a < b))) else .ok (zbI (decide (a = b)))
abbrev TM := Tab → Except Int Int × Tab
def TM.bind (f : TM) (g : Int → TM) : TM := fun t => match f t with | (.ok v, t') => g v t' | (.error e, t') => (.error e, t')
def TM.ret (x : Except Int Int) : TM := fun t => (x, t)
theorem TM.bind_ok {f : TM} {g : Int → TM} {t t' : Tab} {v : Int} (h : f t = (.ok v, t')) : f.bind g t = g v t' := by unfold TM.bind; rw [h]
theorem TM.zfV {f : TM} {g : Int → TM} {t t' : Tab} {e : Int} (h : f t = (.error e, t')) : f.bind g t = (.error e, t') := by unfold TM.bind; rw [h]
mutual
def zfE (nm : List UInt8 → TM) (sh : Exp → Bool) : Exp → TM
 | .mk op n _ s args =>
  if op = 0 then .ret (zcG n)
  else if op = 1 then nm s
  else if op = 10 then (zcJ nm sh args 0).bind fun a => if a = 0 then .ret (.ok 0) else (zcJ nm sh args 1).bind fun b => .ret (.ok (zbI (decide (b ≠ 0))))
  else if op = 11 then (zcJ nm sh args 0).bind fun a => if a ≠ 0 then .ret (.ok 1) else (zcJ nm sh args 1).bind fun b => .ret (.ok (zbI (decide (b ≠ 0))))
  else if op = 12 then (zcJ nm sh args 0).bind fun a => .ret (.ok (zbI (decide (a = 0))))
  else if op = 13 then (zcJ nm sh args 0).bind fun a => if a ≠ 0 then zcJ nm sh args 1 else zcJ nm sh args 2
  else (zcJ nm sh args 0).bind fun a => (zcJ nm sh args 1).bind fun b => .ret (zd5 op ((args.take 2).any sh) a b)
def zcJ (nm : List UInt8 → TM) (sh : Exp → Bool) : List Exp → Nat → TM
 | [], _ => .ret (.error 0)
 | e :: _, 0 => zfE nm sh e
 | _ :: r, i + 1 => zcJ nm sh r i
end
theorem zf1 {nm sh} : ∀ {l : List Exp} {i : Nat} {e : Exp}, l[i]? = some e → zcJ nm sh l i = zfE nm sh e
 | [], _, _, h => by simp at h
 | a :: r, 0, e, h => by simp at h; subst h; rw [zcJ]
 | a :: r, i + 1, e, h => by rw [zcJ]; exact zf1 (by simpa using h)
theorem zcn (nm sh) (e : Exp) : zfE nm sh e = if e.op = 0 then .ret (zcG e.n)
  else if e.op = 1 then nm e.s
  else if e.op = 10 then (zcJ nm sh e.args 0).bind fun a => if a = 0 then .ret (.ok 0) else (zcJ nm sh e.args 1).bind fun b => .ret (.ok (zbI (decide (b ≠ 0))))
  else if e.op = 11 then (zcJ nm sh e.args 0).bind fun a => if a ≠ 0 then .ret (.ok 1) else (zcJ nm sh e.args 1).bind fun b => .ret (.ok (zbI (decide (b ≠ 0))))
  else if e.op = 12 then (zcJ nm sh e.args 0).bind fun a => .ret (.ok (zbI (decide (a = 0))))
  else if e.op = 13 then (zcJ nm sh e.args 0).bind fun a => if a ≠ 0 then zcJ nm sh e.args 1 else zcJ nm sh e.args 2
  else (zcJ nm sh e.args 0).bind fun a => (zcJ nm sh e.args 1).bind fun b => .ret (zd5 e.op ((e.args.take 2).any sh) a b) := by
 cases e with | mk op n u s args => rw [zfE]; rfl
/-- The value and the error that a let's entry holds. -/
def zcT : Except Int Int → Int × Int × Bool
 | .ok v => (v, 0, true)
 | .error e => (0, e, true)
def zfF (v e : Int) : Except Int Int := if e = 0 then .ok v else .error e
def nmT (lets : List Let) (given : List UInt8 → Option Int) : Nat → List UInt8 → TM
 | 0, s => .ret (match given s with | some v => .ok v | none => .error 13)
 | n + 1, s => match given s with
  | some v => .ret (.ok v)
  | none => match lets[n]? with
   | none => .ret (.error 13)
   | some l => if l.name = s then fun t => match t[n]? with
          | some (v, e, true) => (zfF v e, t)
          | _ => match zfE (nmT lets given n) (zbC (lets.take n)) l.body t with
           | (r, t') => (zfF (zcT r).1 (zcT r).2.1, t'.set n (zcT r))
    else nmT lets given n s
/-- The value of an expression, for the first n lets. -/
def zbp (lets : List Let) (given : List UInt8 → Option Int) (n : Nat) (e : Exp) : TM := zfE (nmT lets given n) (zbC (lets.take n)) e
def inC (v : Int) : Prop := -1099511627776 ≤ v ∧ v ≤ 1099511627776
theorem zhQ {n v : Int} (h : zcG n = .ok v) : inC v ∧ v = n := by
 unfold zcG at h
 split at h
 ·cases h
 ·cases h; exact ⟨by unfold inC; omega, rfl⟩
theorem zgh {n e : Int} (h : zcG n = .error e) : e = 3 := by
 unfold zcG at h
 split at h <;> cases h
 rfl
theorem znc {a b c v : Int} (h : zeb a b c = .ok v) : inC v := by
 unfold zeb at h
 split at h
 ·cases h
 ·exact (zhQ h).1
theorem zlN {a b c e : Int} (h : zeb a b c = .error e) : e = 3 := by
 unfold zeb at h
 split at h
 ·cases h; rfl
 ·exact zgh h
theorem zeS (b : Bool) : inC (zbI b) := by unfold inC zbI; split <;> omega
theorem zoO {op sh a b v} (ha : inC a) (hb : inC b) (h : zd5 op sh a b = .ok v) : inC v := by
 unfold zd5 at h
 repeat' split at h
 all_goals first
  | exact (zhQ h).1
  | exact znc h
  | (cases h; done)
  | (cases h; exact zeS _)
  | (cases h; unfold inC at *; omega)
theorem znI {op sh a b e} (h : zd5 op sh a b = .error e) : e = 3 ∨ e = 15 := by
 unfold zd5 at h
 repeat' split at h
 all_goals first
  | exact .inl (zgh h)
  | exact .inl (zlN h)
  | (cases h; done)
  | (cases h; exact .inr rfl)
/-- What is known of a table: as many entries as lets, and small values. -/
structure TabOK (L : Nat) (t : Tab) : Prop where
 len : t.length = L
 small : ∀ (i : Nat) (v e : Int) (d : Bool), t[i]? = some (v, e, d) → inC v
def TMok (L : Nat) (f : TM) : Prop := ∀ t, TabOK L t → TabOK L (f t).2 ∧ (∀ v, (f t).1 = .ok v → inC v) ∧ (∀ e, (f t).1 = .error e → e ≠ 0)
theorem TMok.bind {L f g} (hf : TMok L f) (hg : ∀ a, inC a → TMok L (g a)) : TMok L (TM.bind f g) := fun t ht => by
 obtain ⟨h1, h2, h3⟩ := hf t ht
 unfold TM.bind
 rcases hft : f t with ⟨r | v, t'⟩
 ·rw [hft] at h1 h3
  refine ⟨h1, ?_, ?_⟩
  ·intro v h; cases h
  ·intro e h; exact h3 e h
 ·rw [hft] at h1 h2
  exact hg v (h2 v rfl) t' h1
theorem TMok.ret {L} {x : Except Int Int} (h : ∀ v, x = .ok v → inC v) (he : ∀ e, x = .error e → e ≠ 0) : TMok L (TM.ret x) := fun t ht => ⟨ht, h, he⟩
theorem TMok.ok {L} {v : Int} (h : inC v) : TMok L (TM.ret (.ok v)) := .ret (fun w hw => by cases hw; exact h) (fun e he => by cases he)
theorem zfZ {L nm sh} (hn : ∀ s, TMok L (nm s)) : ∀ (d : Nat) (e : Exp), zax d e = true → TMok L (zfE nm sh e)
 | 0, e, h => by simp [zax] at h
 | d + 1, e, h => by
  obtain ⟨h1, h2, h3, h4⟩ := zcc h
  rw [zcn]
  by_cases c0 : e.op = 0
  ·rw [if_pos c0]
   exact .ret (fun v hv => (zhQ hv).1) (fun e he => by rw [zgh he]; decide)
  rw [if_neg c0]
  by_cases c1 : e.op = 1
  ·rw [if_pos c1]
   exact hn _
  rw [if_neg c1]
  have hA : ∀ i : Nat, (i : Int) < zaE e.op → TMok L (zcJ nm sh e.args i) := fun i hi => by
   have hlt : i < e.args.length := by omega
   rw [zf1 (List.getElem?_eq_getElem hlt)]
   exact zfZ hn d _ (h4 c0 c1 _ (List.getElem_mem hlt))
  have i0 : inC 0 := by unfold inC; omega
  have i1 : inC 1 := by unfold inC; omega
  by_cases c2 : e.op = 10
  ·rw [if_pos c2]
   rw [c2] at hA
   refine .bind (hA 0 (by decide)) fun a ha => ?_
   split
   ·exact .ok i0
   ·exact .bind (hA 1 (by decide)) fun b hb => .ok (zeS _)
  rw [if_neg c2]
  by_cases c3 : e.op = 11
  ·rw [if_pos c3]
   rw [c3] at hA
   refine .bind (hA 0 (by decide)) fun a ha => ?_
   split
   ·exact .ok i1
   ·exact .bind (hA 1 (by decide)) fun b hb => .ok (zeS _)
  rw [if_neg c3]
  by_cases c4 : e.op = 12
  ·rw [if_pos c4]
   rw [c4] at hA
   exact .bind (hA 0 (by decide)) fun a ha => .ok (zeS _)
  rw [if_neg c4]
  by_cases c5 : e.op = 13
  ·rw [if_pos c5]
   rw [c5] at hA
   refine .bind (hA 0 (by decide)) fun a ha => ?_
   split
   ·exact hA 1 (by decide)
   ·exact hA 2 (by decide)
  rw [if_neg c5]
  have ho : zaE e.op = 2 := by unfold zaE; split <;> first | omega | (split <;> first | omega | (split <;> first | omega | (split <;> omega)))
  rw [ho] at hA
  exact .bind (hA 0 (by decide)) fun a ha => .bind (hA 1 (by decide)) fun b hb => .ret (fun v hv => zoO ha hb hv) (fun e he => by rcases znI he with h | h <;> omega)
theorem zmz {r : Except Int Int} (h : ∀ v, r = .ok v → inC v) : inC (zcT r).1 := by
 cases r with
 | ok v => exact h v rfl
 | error e => show inC 0; unfold inC; omega
theorem zlT {v e : Int} (h : inC v) : ∀ w, zfF v e = .ok w → inC w := fun w hw => by
 unfold zfF at hw
 split at hw
 ·cases hw; exact h
 ·cases hw
theorem zkb {v e w : Int} (hw : zfF v e = .error w) : w ≠ 0 := by
 unfold zfF at hw
 split at hw
 ·cases hw
 ·rename_i h; cases hw; exact h
theorem zg1 {lets : List Let} {given : List UInt8 → Option Int} (hl : ∀ l ∈ lets, zax 12 l.body = true) (hg : ∀ s v, given s = some v → inC v) : ∀ n s, TMok lets.length (nmT lets given n s)
 | 0, s => by
  rw [nmT]
  cases hgs : given s with
  | some v => exact .ok (hg s v hgs)
  | none => exact .ret (fun v hv => by cases hv) (fun e he => by cases he; decide)
 | n + 1, s => by
  rw [nmT]
  cases hgs : given s with
  | some v => exact .ok (hg s v hgs)
  | none =>
   simp only
   cases hx : lets[n]? with
   | none => exact .ret (fun v hv => by cases hv) (fun e he => by cases he; decide)
   | some l =>
    simp only
    split
    ·intro t ht
     have main : TabOK lets.length ((zfE (nmT lets given n) (zbC (lets.take n)) l.body t).2.set n (zcT (zfE (nmT lets given n) (zbC (lets.take n)) l.body t).1)) ∧
       (∀ v, zfF (zcT (zfE (nmT lets given n) (zbC (lets.take n)) l.body t).1).1 (zcT (zfE (nmT lets given n) (zbC (lets.take n)) l.body t).1).2.1 = .ok v → inC v) ∧
       (∀ e, zfF (zcT (zfE (nmT lets given n) (zbC (lets.take n)) l.body t).1).1 (zcT (zfE (nmT lets given n) (zbC (lets.take n)) l.body t).1).2.1 = .error e → e ≠ 0) := by
      obtain ⟨g1, g2, g3⟩ := zfZ (zg1 hl hg n) 12 l.body (hl l (List.mem_of_getElem? hx)) (sh := zbC (lets.take n)) t ht
      refine ⟨⟨by rw [List.length_set]; exact g1.len, fun i v e d hi => ?_⟩, zlT (zmz g2), fun e he => zkb he⟩
      rw [List.getElem?_set] at hi
      split at hi
      ·split at hi
       ·have h5 := zmz g2
        have h6 := Option.some.inj hi
        rw [h6] at h5
        exact h5
       ·cases hi
      ·exact g1.small i v e d hi
     rcases hti : t[n]? with _ | ⟨v, e, d⟩
     ·simp only [hti]; exact main
     ·cases d
      ·simp only [hti]; exact main
      ·simp only [hti]
       exact ⟨ht, zlT (ht.small n v e true hti), fun e he => zkb he⟩
    ·exact zg1 hl hg n s
theorem zhq {lets : List Let} {given : List UInt8 → Option Int} (hl : ∀ l ∈ lets, zax 12 l.body = true) (hg : ∀ s v, given s = some v → inC v) (n d : Nat) (e : Exp) (h : zax d e = true) : TMok lets.length (zbp lets given n e) :=
 zfZ (zg1 hl hg n) d e h
end Go.Proofs.YtfcopibncpkdoaaDoor
namespace Go.VL
open Go
/-- An entry put into a map. -/
abbrev zjQ := Nat × Key × List D
def zqE (o : List (Nat × Ob)) (e : zjQ) : List (Nat × Ob) := match getK o e.1 with | some (.map kk ag es) => zce o e.1 (.map kk ag (zcS es e.2.1 e.2.2)) | _ => o
def zpP : List zjQ → List (Nat × Ob) → List (Nat × Ob)
 | [], o => o
 | e :: L, o => zpP L (zqE o e)
def obE (e : zjQ) (x : Option Ob) : Option Ob := match x with | some (.map kk ag es) => some (.map kk ag (zcS es e.2.1 e.2.2)) | x => x
def zp1 : List zjQ → Nat → Option Ob → Option Ob
 | [], _, x => x
 | e :: L, z, x => zp1 L z (if z = e.1 then obE e x else x)
theorem ziT : ∀ (L : List zjQ) (o : List (Nat × Ob)) (z : Nat), getK (zpP L o) z = zp1 L z (getK o z)
 | [], _, _ => rfl
 | e :: L, o, z => by
  rw [zpP, ziT L, zp1]
  congr 1
  unfold zqE obE
  by_cases hz : z = e.1
  ·subst hz
   rw [if_pos rfl]
   cases hg : getK o e.1 with
   | none => exact hg
   | some ob => cases ob <;> simp [hg, zaj, zaa]
  ·rw [if_neg hz]
   cases hg : getK o e.1 with
   | none => rfl
   | some ob => cases ob <;> simp [zaj, zaa, hz]
/-- This operation puts this entry into a map that was empty. -/
def InsOK (P : Program) (st : St) (op : Op) (e : zjQ) : Prop :=
 ∃ t x ki v kk ag z ku, (op = .mapUpdate t x ki v ∨ op = .insert t x ki v) ∧ zdw P t = some (kk, ag, z) ∧ opd st x = .mp e.1 ∧ opd st ki = .u ku ∧ zev ku = some e.2.1 ∧ e.2.1.kk = kk ∧ zek ag (opd st v) = some e.2.2 ∧ getK st.obs e.1 = some (.map kk ag [])
theorem InsOK.base {P st op e} (h : InsOK P st op e) : ∃ kk ag, getK st.obs e.1 = some (.map kk ag []) := by
 obtain ⟨t, x, ki, v, kk, ag, z, ku, _, _, _, _, _, _, _, h⟩ := h
 exact ⟨kk, ag, h⟩
end Go.VL
namespace Go.VL
open Go
abbrev Ent.no : Ent := (.un, [], none, [])
def Op3 (P : Program) (s : St) (o : O1) (e : Ent) : Option zjQ → Prop
 | none => zaB o.dst s ∧ Op2 P s o e
 | some q => e = Ent.no ∧ o.guard = none ∧ o.dst = none ∧ InsOK P s o.op q
def zn8 (P : Program) : List O1 → St → Fp → List (Option zjQ) → (St → Fp → List (Option zjQ) → Prop) → Prop
 | [], s, fp, ins, k => k s fp ins
 | o :: rest, s, fp, ins, k => ∃ (e : Ent) (q : Option zjQ), Op3 P s o e q ∧ (∀ x, e.2.2.1 = some x → x = s.next) ∧ zn8 P rest (s.app o.dst e) (fp ++ [(e.2.2.2, zda e.2.1)]) (ins ++ [q]) k
def St.ins (s : St) (ins : List (Option zjQ)) : St := { s with obs := zpP (ins.filterMap id) s.obs }
def HD3 (P : Program) (l : List O1) (s : St) (fp : Fp) (ins : List (Option zjQ)) (C : Fp → List (Option zjQ) → Prop) (k : St → Prop) : Prop :=
 ∀ s0 : St, s0.Eqo s → zn8 P l s0 fp ins fun s1 fp ins => C fp ins ∧ ∃ s', (s1.ins ins).Eqo s' ∧ k s'
theorem St.Eqo.ins {s s' : St} (h : s.Eqo s') (L : List (Option zjQ)) : (s.ins L).Eqo (s'.ins L) :=
 ⟨h.1, fun x => by simp only [St.ins, ziT, h.2.1 x], h.2.2.1, h.2.2.2⟩
theorem InsOK.eqo {P : Program} {s s' : St} {op : Op} {q : zjQ} (e : s'.Eqo s) (h : InsOK P s op q) : InsOK P s' op q := by
 obtain ⟨t, x, ki, v, kk, ag, z, ku, h1, h2, h3, h4, h5, h6, h7, h8⟩ := h
 have ho : ∀ x, opd s' x = opd s x := fun x => by cases x <;> simp [opd, St.at, e.2.2.2]
 exact ⟨t, x, ki, v, kk, ag, z, ku, h1, h2, by rw [ho]; exact h3, by rw [ho]; exact h4, h5, h6, by rw [ho]; exact h7, by rw [e.2.1]; exact h8⟩
theorem zpu {P l s s' fp fp' ins ins' C k} (h : s = s') (h' : fp = fp') (h'' : ins = ins') : HD3 P l s fp ins C k = HD3 P l s' fp' ins' C k := by rw [h, h', h'']
attribute [congr] zpu
end Go.VL
namespace Go.VL
open Go
end Go.VL
namespace Go.VL
open Go Go.Sort Go.Proofs
end Go.VL
namespace Go.VL
open Go
def fam (b : Nat) : List Ob → List (Nat × Ob)
 | [] => []
 | o :: l => (b, o) :: fam (b + 1) l
theorem zkn : ∀ (b : Nat) (l : List Ob) (j : Nat), getK (fam b l) j = if b ≤ j then l[j - b]? else none
 | b, [], j => by simp [fam, getK]
 | b, o :: l, j => by
  rw [fam, zaa, zkn (b + 1) l j]
  by_cases h : j = b
  ·subst h; simp
  ·rw [if_neg h]
   by_cases h2 : b ≤ j
   ·rw [if_pos (show b + 1 ≤ j by omega), if_pos h2, show j - b = (j - (b + 1)) + 1 by omega, List.getElem?_cons_succ]
   ·rw [if_neg (by omega), if_neg h2]
theorem ziV (b : Nat) (l : List Ob) (i : Nat) : getK (fam b l) (i + b) = l[i]? := by rw [zkn, if_pos (by omega), Nat.add_sub_cancel]
theorem Wk.eqo {Γ : Ctx} {s s' : St} (h : s.Eqo s') : Wk Γ s s' := fun K _ _ h1 h2 => ⟨K, h1, h2.eqo h⟩
/-- The objects end in T; those ahead of it lie outside of its numbers. -/
def EndsIn (T : List (Nat × Ob)) (b k : Nat) : List (Nat × Ob) → Prop
 | [] => T = []
 | p :: l => (p :: l = T) ∨ ((p.1 < b ∨ k + b ≤ p.1) ∧ EndsIn T b k l)
theorem EndsIn.out {T b k} : ∀ {obs}, EndsIn T b k obs → ∃ A, obs = A ++ T ∧ ∀ p ∈ A, p.1 < b ∨ k + b ≤ p.1
 | [], h => ⟨[], by rw [show T = [] from h]; rfl, by simp⟩
 | p :: l, h => by
  rcases h with h | ⟨h1, h2⟩
  ·exact ⟨[], by rw [h]; rfl, by simp⟩
  ·obtain ⟨A, e, h3⟩ := EndsIn.out h2
   exact ⟨p :: A, by rw [e]; rfl, fun q hq => (List.mem_cons.1 hq).elim (fun e => by rw [e]; exact h1) (h3 q)⟩
theorem EndsIn.get {L : List Ob} {b obs} (h : EndsIn (fam b L) b L.length obs) {i : Nat} (hi : i < L.length) : getK obs (i + b) = L[i]? := by
 obtain ⟨A, rfl, h2⟩ := h.out
 rw [zab]
 have : getK A (i + b) = none := by
  cases hq : getK A (i + b) with
  | none => rfl
  | some o =>
   obtain ⟨p, hp, e⟩ := List.mem_map.1 (zfR hq)
   have := h2 p hp
   omega
 rw [this, ziV]
def famPure (L : List Ob) : Prop := ∀ o ∈ L, ∃ e sz B, o = .vec e sz B ∧ zbU B
theorem famPure.under {L : List Ob} (h : famPure L) {o : Ob} (ho : o ∈ L) (nx : Nat) : o.under nx = true := by
 obtain ⟨e, sz, B, rfl, hB⟩ := h o ho
 exact Ob.zjd (zea hB)
theorem Ret.re {P : Program} {f : FuncId} {ds : List D} {obs : List (Nat × Ob)} {nx : Nat} {p q : D → List (Nat × Ob) → Nat → Prop} (h : Ret P f ds obs nx p) (hq : ∀ d o n, p d o n → ∃ o', (∀ j, getK o' j = getK o j) ∧ q d o' n) : Ret P f ds obs nx q :=
 fun k own w vs h1 h2 h3 h4 => (h k own w vs h1 h2 h3 h4).mono fun e w' ⟨v, d, o, nx', k', a1, a2, a3, a4, a5, a6, a7⟩ =>
  let ⟨o', b1, b2⟩ := hq d o nx' a7
  ⟨v, d, o', nx', k', a1, a2, a3.congr b1, a4, a5, a6, b2⟩
end Go.VL
namespace Go.VL
open Go
theorem zkE {P : Program} {Γ : Ctx} {s s' : St} {k : St → Prop} {dst : Option Tmp} {fop : Operand} {args : List Operand} (hw : Wk Γ s s') (h : CallP P Γ fop args dst s' k) : CallP P Γ fop args dst s k := fun ts ty pos after K a w hin hs =>
 let ⟨K', h1, h2⟩ := hw K a w hin hs
 h ts ty pos after K' a w h1 h2
end Go.VL
namespace Go.VL
open Go
/-- How a call ends: a value, or a panic. -/
inductive Out where
 | val (d : D)
 | pan (ch : List PanicEntry)
def zoc (k : Kr) (e : Ending) : Out → Prop
 | .val d => ∃ v, e = .returned v ∧ Rep k d v
 | .pan ch => e = .panicked ch
/-- What a call gives back, or how it panics. -/
def RetX (P : Program) (f : FuncId) (ds : List D) (obs : List (Nat × Ob)) (nx : Nat) (post : Out → List (Nat × Ob) → Nat → Prop) : Prop :=
 ∀ (k : Kr) (own : Nat → Prop) (w : World) (vs : Array Value), Sat k own obs w → (∀ i, nx ≤ i → k.hdr i = none) → (∀ b, w.heap.size ≤ b → own b) → RepL k ds vs →
  Calls P f vs w fun e w' => ∃ r obs' nx' k', zoc k' e r ∧ In (.of own k nx w) k' w' ∧ Sat k' own obs' w' ∧ (∀ i, nx' ≤ i → k'.hdr i = none) ∧ nx ≤ nx' ∧ post r obs' nx'
theorem Ret.x {P f ds obs nx post} (h : Ret P f ds obs nx post) : RetX P f ds obs nx fun r o n => match r with | .val d => post d o n | .pan _ => False :=
 fun k own w vs h1 h2 h3 h4 => (h k own w vs h1 h2 h3 h4).mono fun _ _ ⟨v, d, o, n, k', e, a, b, c, g, r, hp⟩ => ⟨.val d, o, n, k', ⟨v, e, r⟩, a, b, c, g, hp⟩
theorem RetX.mono {P f ds obs nx} {p q : Out → List (Nat × Ob) → Nat → Prop} (h : RetX P f ds obs nx p) (hq : ∀ r o n, p r o n → q r o n) : RetX P f ds obs nx q :=
 fun k own w vs h1 h2 h3 h4 => (h k own w vs h1 h2 h3 h4).mono fun _ _ ⟨r, o, n, k', e, a, b, c, g, hp⟩ => ⟨r, o, n, k', e, a, b, c, g, hq _ _ _ hp⟩
theorem RetX.ret {P f ds obs nx} {p : Out → List (Nat × Ob) → Nat → Prop} {q : D → List (Nat × Ob) → Nat → Prop} (h : RetX P f ds obs nx p) (hv : ∀ d o n, p (.val d) o n → q d o n) (hx : ∀ ch o n, ¬ p (.pan ch) o n) : Ret P f ds obs nx q :=
 fun k own w vs h1 h2 h3 h4 => (h k own w vs h1 h2 h3 h4).mono fun _ _ ⟨r, o, n, k', e, a, b, c, g, hp⟩ => by
  cases r with
  | val d =>
   obtain ⟨v, e, hr⟩ := e
   exact ⟨v, d, o, n, k', e, a, b, c, g, hr, hv d o n hp⟩
  | pan ch => exact absurd hp (hx ch o n)
theorem RetX.congr {P f ds obs obs' nx post} (h : RetX P f ds obs nx post) (e : ∀ i, getK obs' i = getK obs i) : RetX P f ds obs' nx post :=
 fun k own w vs hsat hhdr hfresh hrep => h k own w vs (Sat.congr hsat fun i => (e i).symm) hhdr hfresh hrep
/-- What a call does not know of stays az it is: the memory behind it. -/
theorem ziW {k k' : Kr} {own : Nat → Prop} {obs F o1 : List (Nat × Ob)} {nx : Nat} {w w' : World} (hsat : Sat k own (F ++ obs) w)
  (hin : In (.of (fun b => own b ∧ ¬ Blk k F b) k nx w) k' w') (hs1 : Sat k' (fun b => own b ∧ ¬ Blk k F b) o1 w') : Sat k' own (F ++ o1) w' := by
 have hfo : ∀ i ob, getK F i = some ob → getK (F ++ obs) i = some ob := fun i ob hi => by rw [zab, hi]
 have hFat : ∀ i ob, getK F i = some ob → ∃ g, k.hdr i = some g ∧ k'.hdr i = some g ∧ (∀ b, g.1 = some b → own b ∧ (∀ o, k'.mem b o = none) ∧ Blk k F b) ∧ ObAt k' w' g ob := fun i ob hi => by
  obtain ⟨g, h1, h2, h3⟩ := hsat.ob i ob (hfo i ob hi)
  have hB : ∀ b, g.1 = some b → Blk k F b := fun b hb => ⟨i, ob, g, hi, h1, hb⟩
  refine ⟨g, h1, hin.le.hdr i g h1, fun b hb => ⟨(h2 b hb).1, fun o => ?_, hB b hb⟩, h3.keep hin.le fun b hb => hin.block b fun hb' => hb'.2 (hB b hb)⟩
  cases hm : k'.mem b o with
  | none => rfl
  | some x =>
   rcases hin.memNew b o x hm with h4 | h4
   ·have h4' : k.mem b o = some x := h4
    rw [(h2 b hb).2 o] at h4'; cases h4'
   ·exact absurd (hB b hb) h4.2
 refine ⟨hs1.mem, fun i ob hi => ?_, fun i j x y g g' b hx hy hij hg hg' hb => ?_⟩
 ·rw [zab] at hi
  cases hf : getK F i with
  | some x =>
   rw [hf] at hi
   cases hi
   obtain ⟨g, _, h2, h3, h4⟩ := hFat i _ hf
   exact ⟨g, h2, fun b hb => ⟨(h3 b hb).1, (h3 b hb).2.1⟩, h4⟩
  | none =>
   rw [hf] at hi
   obtain ⟨g, h1, h2, h3⟩ := hs1.ob i ob hi
   exact ⟨g, h1, fun b hb => ⟨(h2 b hb).1.1, (h2 b hb).2⟩, h3⟩
 ·rw [zab] at hx hy
  cases hfx : getK F i with
  | some x' =>
   obtain ⟨g1, k1, k2, k3, _⟩ := hFat i _ hfx
   rw [hg] at k2
   cases k2
   cases hfy : getK F j with
   | some y' =>
    obtain ⟨g2, l1, l2, l3, _⟩ := hFat j _ hfy
    rw [hg'] at l2
    cases l2
    exact hsat.apart i j x' y' g g' b (hfo i _ hfx) (hfo j _ hfy) hij k1 l1 hb
   | none =>
    rw [hfy] at hy
    obtain ⟨g2, l1, l2, _⟩ := hs1.ob j y hy
    rw [hg'] at l1
    cases l1
    exact fun e => (l2 b e).1.2 (k3 b hb).2.2
  | none =>
   rw [hfx] at hx
   cases hfy : getK F j with
   | some y' =>
    obtain ⟨g2, l1, l2, l3, _⟩ := hFat j _ hfy
    rw [hg'] at l2
    cases l2
    obtain ⟨g1, k1, k2, _⟩ := hs1.ob i x hx
    rw [hg] at k1
    cases k1
    exact fun e => (k2 b hb).1.2 (l3 b e).2.2
   | none =>
    rw [hfy] at hy
    exact hs1.apart i j x y g g' b hx hy hij hg hg' hb
theorem zha {k : Kr} {own : Nat → Prop} {obs F : List (Nat × Ob)} {w : World} (hF : ∀ i ob, getK F i = some ob → getK obs i = none) (hsat : Sat k own (F ++ obs) w) : Sat k (fun b => own b ∧ ¬ Blk k F b) obs w := by
 have hob : ∀ i ob, getK obs i = some ob → getK F i = none ∧ getK (F ++ obs) i = some ob := fun i ob hi => by
  have hn : getK F i = none := by
   cases hf : getK F i with
   | none => rfl
   | some x => rw [hF i x hf] at hi; cases hi
  exact ⟨hn, by rw [zab, hn]; exact hi⟩
 have hfo : ∀ i ob, getK F i = some ob → getK (F ++ obs) i = some ob := fun i ob hi => by rw [zab, hi]
 refine ⟨hsat.mem, fun i ob hi => ?_, fun i j x y g g' b hx hy hij => ?_⟩
 ·obtain ⟨hn, hi'⟩ := hob i ob hi
  obtain ⟨g, h1, h2, h3⟩ := hsat.ob i ob hi'
  refine ⟨g, h1, fun b hb => ⟨⟨(h2 b hb).1, ?_⟩, (h2 b hb).2⟩, h3⟩
  rintro ⟨j, oj, g', h4, h5, h6⟩
  exact hsat.apart i j ob oj g g' b hi' (hfo j oj h4) (fun e => by subst e; rw [hn] at h4; cases h4) h1 h5 hb h6
 ·exact hsat.apart i j x y g g' b (hob i x hx).2 (hob j y hy).2 hij
theorem zgo {k : Kr} {own : Nat → Prop} {obs F : List (Nat × Ob)} {w : World} (hsat : Sat k own (F ++ obs) w) (hfresh : ∀ b, w.heap.size ≤ b → own b) : ∀ b, w.heap.size ≤ b → own b ∧ ¬ Blk k F b := fun b hb => by
 refine ⟨hfresh b hb, fun hB => ?_⟩
 obtain ⟨i, ob, g, h1, h2, h3⟩ := hB
 exact absurd (hsat.lt ⟨i, ob, g, by rw [zab, h1], h2, h3⟩) (by omega)
theorem zko {k k' : Kr} {own : Nat → Prop} {F : List (Nat × Ob)} {nx : Nat} {w w' : World} (hfresh : ∀ b, w.heap.size ≤ b → own b) (hin : In (.of (fun b => own b ∧ ¬ Blk k F b) k nx w) k' w') : In (.of own k nx w) k' w' :=
 ⟨hin.le, hin.none0, fun b o x hx => (hin.memNew b o x hx).imp id (·.1), hfresh, hin.os, hin.tape, hin.output, hin.size, fun b hb => hin.block b fun hb' => hb hb'.1⟩
theorem RetX.frame {P f ds obs nx post} (F : List (Nat × Ob)) (hF : ∀ i ob, getK F i = some ob → getK obs i = none) (h : RetX P f ds obs nx post) :
  RetX P f ds (F ++ obs) nx (fun r o n => ∃ o1, o = F ++ o1 ∧ post r o1 n) := by
 intro k own w vs hsat hhdr hfresh hrep
 refine (h k _ w vs (zha hF hsat) hhdr (zgo hsat hfresh) hrep).mono ?_
 rintro e w' ⟨r, o1, n', k', he, hin, hs1, hh1, hle, hp⟩
 exact ⟨r, F ++ o1, n', k', he, zko hfresh hin, ziW hsat hin hs1, hh1, hle, o1, rfl, hp⟩
/-- A call that may panic, by what it does to the objects. -/
theorem EffP.zqz {P Γ s k} {fop : Operand} {args : Array Operand} {ts : Array TypeId} {ty : TypeId} {f caps dst pos after} {ds : List D} {post : Out → List (Nat × Ob) → Nat → Prop}
  (hf : zav (opd s fop) = some (f, caps)) (hc : zao P f = true) (hds : args.toList.map (opd s) ++ caps = ds) (hret : RetX P f ds s.obs s.next post) (hp : zaB dst s)
  (hk : ∀ d obs' nx', s.next ≤ nx' → post (.val d) obs' nx' → k (({ s with obs := obs', next := nx' } : St).put dst d))
  (hx : ∀ ch obs' nx', s.next ≤ nx' → post (.pan ch) obs' nx' → ∃ s2, Wk Γ { s with obs := obs', next := nx' } s2 ∧ Γ.pan ch s2) :
  EffP P Γ { dst, op := .call { callee := .value fop, args, argTypes := ts }, type := ty, pos, after, guard := none } s k := by
 intro K a w hin hs Kont Q hK hP
 obtain ⟨vs, hrep, hrun⟩ := zkw hs (args := args) (ts := ts) (ty := ty) hf hc dst pos after none
 rw [hds] at hrep
 unfold Oper.wp
 rw [hrun]
 refine Calls.mono (hret K Γ.own w vs hs.sat hs.hdr (fun b hb => hin.own_of_ge hb) hrep) ?_
 rintro e w' ⟨r, obs', nx', k', hr, hin', hsat', hhdr', hnx, hpost⟩
 have hle : K.le k' := hin'.le
 have hin2 : In Γ k' w' := hin.step hle (fun b o v e => hin'.memNew b o v e) hin'.os hin'.tape hin'.output hin'.size hin'.block
 have hsim : Sim k' Γ.own ({ s with obs := obs', next := nx' } : St) a w' := ⟨hsat', hs.defers, hs.size, fun x d hx => ⟨(hs.env x d hx).1, (hs.env x d hx).2.mono hle⟩, hhdr'⟩
 cases r with
 | val d =>
  obtain ⟨v, rfl, hr⟩ := hr
  exact hK k' _ w' _ hin2 (hsim.put (by cases dst <;> simp_all [zaB]) hr) (hk d obs' nx' hnx hpost)
 | pan ch =>
  obtain rfl := hr
  obtain ⟨s2, hw, hpn⟩ := hx ch obs' nx' hnx hpost
  obtain ⟨k2, g1, g2⟩ := hw k' a w' hin2 hsim
  exact hP ch k2 a w' s2 g1 g2 hpn
theorem CallP.x_ {P : Program} {Γ : Ctx} {s : St} {k : St → Prop} {dst : Option Tmp} {fop : Operand} {args : List Operand} {f caps} {ds : List D} {post : Out → List (Nat × Ob) → Nat → Prop} (hret : RetX P f ds s.obs s.next post)
  (hf : zav (opd s fop) = some (f, caps)) (hc : zao P f = true) (hds : args.map (opd s) ++ caps = ds) (hp : zaB dst s)
  (hk : ∀ d obs' nx', s.next ≤ nx' → post (.val d) obs' nx' → k (({ s with obs := obs', next := nx' } : St).put dst d))
  (hx : ∀ ch obs' nx', s.next ≤ nx' → post (.pan ch) obs' nx' → ∃ s2, Wk Γ { s with obs := obs', next := nx' } s2 ∧ Γ.pan ch s2) : CallP P Γ fop args dst s k :=
 fun _ _ _ _ => EffP.zqz hf hc hds hret hp hk hx
theorem CallP.xF {P : Program} {Γ : Ctx} {s : St} {k : St → Prop} {dst : Option Tmp} {fop : Operand} {args : List Operand} {f caps} {ds : List D} {post : Out → List (Nat × Ob) → Nat → Prop} (F obs : List (Nat × Ob)) (hret : RetX P f ds obs s.next post)
  (heq : ∀ i, getK s.obs i = getK (F ++ obs) i) (hF : ∀ i ob, getK F i = some ob → getK obs i = none)
  (hf : zav (opd s fop) = some (f, caps)) (hc : zao P f = true) (hds : args.map (opd s) ++ caps = ds) (hp : zaB dst s)
  (hk : ∀ d o1 nx', s.next ≤ nx' → post (.val d) o1 nx' → k (({ s with obs := F ++ o1, next := nx' } : St).put dst d))
  (hx : ∀ ch o1 nx', s.next ≤ nx' → post (.pan ch) o1 nx' → ∃ s2, Wk Γ { s with obs := F ++ o1, next := nx' } s2 ∧ Γ.pan ch s2) : CallP P Γ fop args dst s k :=
 CallP.x_ ((hret.frame F hF).congr heq) hf hc hds hp (fun d o n hn ⟨o1, ho, hpo⟩ => by subst ho; exact hk d o1 n hn hpo) (fun ch o n hn ⟨o1, ho, hpo⟩ => by subst ho; exact hx ch o1 n hn hpo)
theorem CallP.x0 {P : Program} {Γ : Ctx} {s : St} {k : St → Prop} {dst : Option Tmp} {fop : Operand} {args : List Operand} {f caps} {ds : List D} {post : Out → List (Nat × Ob) → Nat → Prop} (hret : RetX P f ds [] s.next post)
  (hf : zav (opd s fop) = some (f, caps)) (hc : zao P f = true) (hds : args.map (opd s) ++ caps = ds) (hp : zaB dst s)
  (hk : ∀ d o1 nx', s.next ≤ nx' → post (.val d) o1 nx' → k (({ s with obs := s.obs ++ o1, next := nx' } : St).put dst d))
  (hx : ∀ ch o1 nx', s.next ≤ nx' → post (.pan ch) o1 nx' → ∃ s2, Wk Γ { s with obs := s.obs ++ o1, next := nx' } s2 ∧ Γ.pan ch s2) : CallP P Γ fop args dst s k :=
 CallP.xF s.obs [] hret (fun i => by simp) (fun i ob _ => rfl) hf hc hds hp hk hx
theorem CallP.x1 {P : Program} {Γ : Ctx} {s : St} {k : St → Prop} {dst : Option Tmp} {fop : Operand} {args : List Operand} {f caps} {ds : List D} {post : Out → List (Nat × Ob) → Nat → Prop} {j : Nat} {ob : Ob} (hret : RetX P f ds [(j, ob)] s.next post)
  (hj : getK s.obs j = some ob) (hf : zav (opd s fop) = some (f, caps)) (hc : zao P f = true) (hds : args.map (opd s) ++ caps = ds) (hp : zaB dst s)
  (hk : ∀ d o1 nx', s.next ≤ nx' → post (.val d) o1 nx' → k (({ s with obs := del s.obs j ++ o1, next := nx' } : St).put dst d))
  (hx : ∀ ch o1 nx', s.next ≤ nx' → post (.pan ch) o1 nx' → ∃ s2, Wk Γ { s with obs := del s.obs j ++ o1, next := nx' } s2 ∧ Γ.pan ch s2) : CallP P Γ fop args dst s k :=
 CallP.xF (del s.obs j) [(j, ob)] hret (fun i => by
  rw [zab, zac]
  by_cases h : i = j
  ·subst h; simp [hj, getK]
  ·simp only [if_neg h, getK]
   cases getK s.obs i <;> rfl) (fun i o hi => by
  rw [zac] at hi
  by_cases h : i = j
  ·rw [if_pos h] at hi; cases hi
  ·simp [getK, h]) hf hc hds hp hk hx
/-- A call that is handed one object, and goes through, or panics. -/
theorem CallP.ok1 {P : Program} {Γ : Ctx} {s : St} {k : St → Prop} {dst : Option Tmp} {fop : Operand} {args : List Operand} {f caps} {ds : List D} {j : Nat} {ob ob' : Ob} {d : D}
  (hret : RetX P f ds [(j, ob)] s.next fun r o n => r = .val d ∧ o = [(j, ob')] ∧ n = s.next)
  (hj : getK s.obs j = some ob) (hf : zav (opd s fop) = some (f, caps)) (hc : zao P f = true) (hds : args.map (opd s) ++ caps = ds) (hp : zaB dst s)
  (hk : k (({ s with obs := del s.obs j ++ [(j, ob')], next := s.next } : St).put dst d)) : CallP P Γ fop args dst s k :=
 CallP.x1 hret hj hf hc hds hp (fun d' o1 nx' _ ⟨h1, h2, h3⟩ => by cases h1; subst h2; subst h3; exact hk) (fun ch o1 nx' _ ⟨h1, _⟩ => by cases h1)
theorem CallP.zfc {P : Program} {Γ : Ctx} {s : St} {k : St → Prop} {dst : Option Tmp} {fop : Operand} {args : List Operand} {f caps} {ds : List D} {j : Nat} {ob : Ob} {ch : List PanicEntry} {p : Ob → Prop}
  (hret : RetX P f ds [(j, ob)] s.next fun r o n => r = .pan ch ∧ (∃ ob', p ob' ∧ o = [(j, ob')]) ∧ n = s.next)
  (hj : getK s.obs j = some ob) (hf : zav (opd s fop) = some (f, caps)) (hc : zao P f = true) (hds : args.map (opd s) ++ caps = ds) (hp : zaB dst s)
  (hx : ∀ ob', p ob' → ∃ s2, Wk Γ { s with obs := del s.obs j ++ [(j, ob')], next := s.next } s2 ∧ Γ.pan ch s2) : CallP P Γ fop args dst s k :=
 CallP.x1 hret hj hf hc hds hp (fun d' o1 nx' _ ⟨h1, _⟩ => by cases h1) (fun ch' o1 nx' _ ⟨h1, ⟨ob', h2, h3⟩, h4⟩ => by cases h1; subst h3; subst h4; exact hx ob' h2)
/-- The same, and a second object that is gone behind it. -/
theorem CallP.x2 {P : Program} {Γ : Ctx} {s : St} {k : St → Prop} {dst : Option Tmp} {fop : Operand} {args : List Operand} {f caps} {ds : List D} {post : Out → List (Nat × Ob) → Nat → Prop} {j q : Nat} {ob oq : Ob} (hret : RetX P f ds [(j, ob), (q, oq)] s.next post)
  (hj : getK s.obs j = some ob) (hq : getK s.obs q = some oq) (hne : j ≠ q) (hf : zav (opd s fop) = some (f, caps)) (hc : zao P f = true) (hds : args.map (opd s) ++ caps = ds) (hp : zaB dst s)
  (hk : ∀ d o1 nx', s.next ≤ nx' → post (.val d) o1 nx' → k (({ s with obs := del (del s.obs j) q ++ o1, next := nx' } : St).put dst d))
  (hx : ∀ ch o1 nx', s.next ≤ nx' → post (.pan ch) o1 nx' → ∃ s2, Wk Γ { s with obs := del (del s.obs j) q ++ o1, next := nx' } s2 ∧ Γ.pan ch s2) : CallP P Γ fop args dst s k :=
 CallP.xF (del (del s.obs j) q) [(j, ob), (q, oq)] hret (fun i => by
  rw [zab, zac, zac]
  by_cases h : i = q
  ·subst h; rw [if_pos rfl]; simp [getK, Ne.symm hne, hq]
  ·rw [if_neg h]
   by_cases h2 : i = j
   ·subst h2; simp [hj, getK]
   ·simp only [if_neg h2, getK, if_neg h]
    cases getK s.obs i <;> rfl) (fun i o hi => by
  rw [zac, zac] at hi
  by_cases h : i = q
  ·rw [if_pos h] at hi; cases hi
  ·rw [if_neg h] at hi
   by_cases h2 : i = j
   ·rw [if_pos h2] at hi; cases hi
   ·simp [getK, h, h2]) hf hc hds hp hk hx
/-- The same call, nothing put off. -/
def Ctx.base (Γ : Ctx) : Ctx := .of Γ.own.own Γ.k0 Γ.n0 Γ.w0
/-- A panic, up to what the state may be told az. -/
def zpE (Γ : Ctx) (post : Out → List (Nat × Ob) → Nat → Prop) (ch : List PanicEntry) (s : St) : Prop := ∃ s', Wk Γ s s' ∧ Γ.n0 ≤ s'.next ∧ post (.pan ch) s'.obs s'.next
/-- What a call leaves behind. -/
def RX (Γ : Ctx) (post : Out → List (Nat × Ob) → Nat → Prop) (e : Ending) (w' : World) : Prop :=
 ∃ r obs' nx' k', zoc k' e r ∧ In Γ k' w' ∧ Sat k' Γ.own obs' w' ∧ (∀ i, nx' ≤ i → k'.hdr i = none) ∧ Γ.n0 ≤ nx' ∧ post r obs' nx'
theorem zef {P Γ fn e s K a w} {post : Out → List (Nat × Ob) → Nat → Prop} (hend : EndW P Γ fn Γ.n0 (fun d o n => post (.val d) o n) e s) (hin : In Γ K w) (hs : Sim K Γ.own s a w) :
  ∃ v, (results fn a.tmps).run P w = .ok v w ∧ RX Γ post (.returned v) w := by
 obtain ⟨s', hw, _, hres⟩ := hend
 obtain ⟨K', hin, hs⟩ := hw K a w hin hs
 obtain ⟨rs, rv, hfin, hrun, hlen, hr⟩ := zfO hs _ _ hres
 have hres' : (results fn a.tmps).run P w = .ok (if h : rv.toArray.size = 1 then rv.toArray[0] else .tuple rv.toArray) w := by
  unfold results
  rw [Array.mapM_eq_mapM_toList]
  have e : (fn.results.toList.mapM fun (x : ResultVar) => match x with | .tmp t => (pure (a.tmps.getD t undef) : Sem Value) | .cell x t => do loadVar t (← asAddr (a.tmps.getD x undef))).run P w = .ok rv w := hrun
  simp only [Sem.run_bind, Sem.run_map, Result.andThen_ok]
  erw [e]
  simp
 have hrepv : Rep K' (zae rs) (if h : rv.toArray.size = 1 then rv.toArray[0] else .tuple rv.toArray) := by
  match rs, rv, hlen, hr with
  | [], [], _, hr => exact .tup [] [] rfl (by simp)
  | [d], [v], _, hr => simpa [zae] using hr 0 d rfl
  | d :: d1 :: ds, v :: v1 :: vs, hlen, hr =>
   simp only [zae]
   rw [dif_neg (by simp)]
   exact .tup _ _ hlen hr
 refine ⟨_, hres', ?_⟩
 rcases hfin with ⟨s2, ρ, d', hle, hd, hu, hnx, hpost⟩ | ⟨hnx, hpost⟩
 ·obtain ⟨h1, h2⟩ := Sim.weak hin hs hle
  exact ⟨.val d', s2.obs, s2.next, _, ⟨_, rfl, hrepv.weak hd hu⟩, h1, h2.sat, h2.hdr, hnx, hpost⟩
 ·exact ⟨.val _, s'.obs, s'.next, K', ⟨_, rfl, hrepv⟩, hin, hs.sat, hs.hdr, hnx, hpost⟩
theorem RX.conv {Γ Γ' : Ctx} {post e w'} (h : RX Γ post e w') (h1 : Γ'.own.own = Γ.own.own) (h2 : Γ'.k0 = Γ.k0) (h3 : Γ'.n0 = Γ.n0) (h4 : Γ'.w0 = Γ.w0) : RX Γ' post e w' := by
 obtain ⟨r, o, n, k', a, b, c, d, e, f⟩ := h
 exact ⟨r, o, n, k', a, b.conv h1 h2 h3 h4, by rw [h1]; exact c, d, by rw [h3]; exact e, f⟩
theorem Wk.conv {Γ Γ' : Ctx} {s s'} (h : Wk Γ s s') (h1 : Γ'.own = Γ.own) (h2 : Γ'.k0 = Γ.k0) (h3 : Γ'.n0 = Γ.n0) (h4 : Γ'.w0 = Γ.w0) : Wk Γ' s s' := fun K a w hin hs => by
 obtain ⟨K', g1, g2⟩ := h K a w (hin.conv (by rw [h1]) h2.symm h3.symm h4.symm) (by rw [← h1]; exact hs)
 exact ⟨K', g1.conv (by rw [h1]) h2 h3 h4, by rw [h1]; exact g2⟩
/-- A function's body, with all the ways in which it may end. -/
theorem RetX.zdz {P f fn c ds obs nx post} (hf : P.funcs[f]? = some fn) (hb : fn.body = some c) (hn : ds.length ≤ fn.ntmps)
  (h : ∀ Γ : Ctx, Γ.n0 = nx → Γ.own.dfr = [] → (∀ ch s, zpE Γ post ch s → Γ.pan ch s) → (∀ e a w', bodyPostD P fn (RX Γ.base post) e a w' → Γ.esc e a w') → V P Γ c (entry ds fn.ntmps obs nx) (zal P Γ (EndW P Γ fn nx fun d o n => post (.val d) o n) .done)) : RetX P f ds obs nx post := by
 intro k own w vs hsat hhdr hfresh hrep
 have hsz : vs.size = ds.length := hrep.1
 let Γ0 : Ctx := .of own k nx w
 let Γ : Ctx := ⟨⟨own, []⟩, k, nx, w, zpE Γ0 post, bodyPostD P fn (RX Γ0 post)⟩
 have hpan : ∀ ch s, zpE Γ post ch s → Γ.pan ch s := fun ch s ⟨s', h1, h2, h3⟩ => ⟨s', h1.conv rfl rfl rfl rfl, h2, h3⟩
 have hR : ∀ e w', RX Γ post e w' → RX Γ0 post e w' := fun e w' h => h.conv rfl rfl rfl rfl
 have hesc : ∀ e a w', bodyPostD P fn (RX Γ.base post) e a w' → Γ.esc e a w' := fun e a w' h => h
 refine calls_of_wp_defers (R := RX Γ0 post) hf hb (wp_mono (h Γ rfl rfl hpan hesc k _ w ⟨.refl _, hhdr, fun b o v e => .inl e, hfresh, rfl, rfl, rfl, Nat.le_refl _, fun _ _ => rfl⟩
  ⟨hsat, rfl, ?_, fun x d hx => ?_, hhdr⟩) ?_)
 ·simp [entry, hsz]; omega
 ·simp only [entry, zeF, Nat.zero_le, if_true, Nat.sub_zero] at hx
  have hlt := (List.getElem?_eq_some_iff.1 hx).1
  refine ⟨by simp [entry]; omega, ?_⟩
  have := hrep.2 x d hx
  have e : (vs ++ Array.replicate (fn.ntmps - vs.size) undef).getD x undef = vs.getD x undef := by
   simp [Array.getElem?_append, show x < vs.size by omega]
  rw [e]
  exact this
 ·rintro e a' w' (⟨K', s', hin, hs, hend⟩ | hx)
  ·have hd : a'.defers = [] := hs.defers
   cases e with
   | panic ch =>
    obtain ⟨s2, hw, hn2, hp⟩ := (hend : zpE Γ0 post ch s')
    obtain ⟨K2, h1, h2⟩ := hw K' a' w' (hin.conv rfl rfl rfl rfl) hs
    show Leaves P fn a'.tmps (RX Γ0 post) a'.defers (.panicking ch) w'
    rw [hd]
    exact ⟨.pan ch, s2.obs, s2.next, K2, rfl, h1, h2.sat, h2.hdr, hn2, hp⟩
   | normal =>
    obtain ⟨v, h1, h2⟩ := zef (Γ := Γ) (post := post) hend hin hs
    show Leaves P fn a'.tmps (RX Γ0 post) a'.defers .returning w'
    rw [hd]
    exact ⟨v, h1, hR _ _ h2⟩
   | ret =>
    obtain ⟨v, h1, h2⟩ := zef (Γ := Γ) (post := post) hend hin hs
    show Leaves P fn a'.tmps (RX Γ0 post) a'.defers .returning w'
    rw [hd]
    exact ⟨v, h1, hR _ _ h2⟩
   | exit i => obtain ⟨_, _, h1, _⟩ := hend; rcases h1 with h1 | h1 <;> cases h1
   | goto i => obtain ⟨_, _, h1, _⟩ := hend; rcases h1 with h1 | h1 <;> cases h1
   | outgrown => obtain ⟨_, _, h1, _⟩ := hend; rcases h1 with h1 | h1 <;> cases h1
  ·exact hx.2
theorem RetX.of_bodyW {P f fn c ds obs nx post} (hf : P.funcs[f]? = some fn) (hb : fn.body = some c) (hn : ds.length ≤ fn.ntmps)
  (h : ∀ Γ : Ctx, Γ.n0 = nx → (∀ ch s, zpE Γ post ch s → Γ.pan ch s) → V P Γ c (entry ds fn.ntmps obs nx) (zal P Γ (EndW P Γ fn nx fun d o n => post (.val d) o n) .done)) : RetX P f ds obs nx post :=
 RetX.zdz hf hb hn fun Γ h1 _ h2 _ => h Γ h1 h2
end Go.VL
