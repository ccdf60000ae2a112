/- Texts joined by a program of mine: Ty VLP Ua Ub Uc UD UI Uf Ug Uh Fa Fp VLR VLS VLT VLU VLV VLW VLX. -/
import Derived.Test.YtmoohdpnmkkgpaaK2
import Derived.Test.YtmoohdpnmkkgpaaRows
import Derived.ProofKit
import Derived.Below
import Derived.ChangeSame
import Derived.Deep.Slices
import Derived.Sort.OwnSortedInts
import Derived.Recover
set_option linter.all false
set_option maxRecDepth 100000
set_option maxHeartbeats 8000000
namespace Go.Proofs.Ytmoohdpnmkkgpaa
open Go Go.VL
@[simp] theorem ld3 : ldSz Try.prog 3 = some none := by kernel_rfl
@[simp] theorem ts3 : tsz Try.prog 3 = some 1 := by kernel_rfl
@[simp] theorem io3 : intOfT Try.prog 3 = some .i64 := by kernel_rfl
@[simp] theorem zc3 : zeroC Try.prog 3 = some [.int .i64 0] := by kernel_rfl
@[simp] theorem sl3 : isSl Try.prog 3 = false := by kernel_rfl
@[simp] theorem ld4 : ldSz Try.prog 4 = some none := by kernel_rfl
@[simp] theorem ts4 : tsz Try.prog 4 = some 1 := by kernel_rfl
@[simp] theorem sl4 : isSl Try.prog 4 = false := by kernel_rfl
@[simp] theorem io5 : intOfT Try.prog 5 = some .u8 := by kernel_rfl
@[simp] theorem ld9 : ldSz Try.prog 9 = some none := by kernel_rfl
@[simp] theorem st9 : isStr Try.prog 9 = true := by kernel_rfl
@[simp] theorem an20 : isAny Try.prog 20 = true := by kernel_rfl
@[simp] theorem ld22 : ldSz Try.prog 22 = some none := by kernel_rfl
@[simp] theorem na22 : notArr Try.prog 22 = true := by kernel_rfl
@[simp] theorem sf22 : stT Try.prog 22 = none := by kernel_rfl
@[simp] theorem es22 : elSz Try.prog 22 = some (32, 6) := by kernel_rfl
@[simp] theorem na23 : notArr Try.prog 23 = true := by kernel_rfl
@[simp] theorem sf23 : stT Try.prog 23 = none := by kernel_rfl
@[simp] theorem es23 : elSz Try.prog 23 = some (34, 3) := by kernel_rfl
@[simp] theorem ei23 : elInf Try.prog 23 = some (34, 3, 32, [.string ⟨#[]⟩, .int .i64 0, .int .i64 0]) := by kernel_rfl
@[simp] theorem ld24 : ldSz Try.prog 24 = some none := by kernel_rfl
@[simp] theorem es24 : elSz Try.prog 24 = some (26, 5) := by kernel_rfl
@[simp] theorem ld26 : ldSz Try.prog 26 = some (some 5) := by kernel_rfl
@[simp] theorem ts26 : tsz Try.prog 26 = some 5 := by kernel_rfl
@[simp] theorem sf26 : stT Try.prog 26 = some [3, 3, 3, 9, 24] := by kernel_rfl
@[simp] theorem zc26 : zeroC Try.prog 26 = some [.int .i64 0, .int .i64 0, .int .i64 0, .string ⟨#[]⟩, .slice none 0 0] := by kernel_rfl
@[simp] theorem fl26_0 : fldAt Try.prog 26 0 = some (0, 1, none) := by kernel_rfl
@[simp] theorem fl26_1 : fldAt Try.prog 26 1 = some (1, 1, none) := by kernel_rfl
@[simp] theorem fl26_2 : fldAt Try.prog 26 2 = some (2, 1, none) := by kernel_rfl
@[simp] theorem fl26_3 : fldAt Try.prog 26 3 = some (3, 1, none) := by kernel_rfl
@[simp] theorem fl26_4 : fldAt Try.prog 26 4 = some (4, 1, none) := by kernel_rfl
@[simp] theorem ld32 : ldSz Try.prog 32 = some (some 6) := by kernel_rfl
@[simp] theorem ts32 : tsz Try.prog 32 = some 6 := by kernel_rfl
@[simp] theorem sf32 : stT Try.prog 32 = some [9, 26] := by kernel_rfl
@[simp] theorem zc32 : zeroC Try.prog 32 = some [.string ⟨#[]⟩, .int .i64 0, .int .i64 0, .int .i64 0, .string ⟨#[]⟩, .slice none 0 0] := by kernel_rfl
@[simp] theorem fl32_0 : fldAt Try.prog 32 0 = some (0, 1, none) := by kernel_rfl
@[simp] theorem fl32_1 : fldAt Try.prog 32 1 = some (1, 5, some 5) := by kernel_rfl
@[simp] theorem ld34 : ldSz Try.prog 34 = some (some 3) := by kernel_rfl
@[simp] theorem ts34 : tsz Try.prog 34 = some 3 := by kernel_rfl
@[simp] theorem sf34 : stT Try.prog 34 = some [9, 3, 3] := by kernel_rfl
@[simp] theorem zc34 : zeroC Try.prog 34 = some [.string ⟨#[]⟩, .int .i64 0, .int .i64 0] := by kernel_rfl
@[simp] theorem fl34_0 : fldAt Try.prog 34 0 = some (0, 1, none) := by kernel_rfl
@[simp] theorem fl34_1 : fldAt Try.prog 34 1 = some (1, 1, none) := by kernel_rfl
@[simp] theorem fl34_2 : fldAt Try.prog 34 2 = some (2, 1, none) := by kernel_rfl
@[simp] theorem zp34 : zp Try.prog 34 = some ([.string ⟨#[]⟩, .int .i64 0, .int .i64 0], [(0, 1), (1, 1), (2, 1)]) := by kernel_rfl
@[simp] theorem ld35 : ldSz Try.prog 35 = some none := by kernel_rfl
@[simp] theorem ts35 : tsz Try.prog 35 = some 1 := by kernel_rfl
@[simp] theorem zc35 : zeroC Try.prog 35 = some [.int .i64 0] := by kernel_rfl
@[simp] theorem sl35 : isSl Try.prog 35 = false := by kernel_rfl
@[simp] theorem ld38 : ldSz Try.prog 38 = some none := by kernel_rfl
@[simp] theorem ts38 : tsz Try.prog 38 = some 1 := by kernel_rfl
@[simp] theorem es38 : elSz Try.prog 38 = some (45, 3) := by kernel_rfl
@[simp] theorem ei38 : elInf Try.prog 38 = some (45, 3, 32, [.int .i64 0, .int .i64 0, .string ⟨#[]⟩]) := by kernel_rfl
@[simp] theorem ld45 : ldSz Try.prog 45 = some (some 3) := by kernel_rfl
@[simp] theorem ts45 : tsz Try.prog 45 = some 3 := by kernel_rfl
@[simp] theorem zc45 : zeroC Try.prog 45 = some [.int .i64 0, .int .i64 0, .string ⟨#[]⟩] := by kernel_rfl
@[simp] theorem fl45_0 : fldAt Try.prog 45 0 = some (0, 1, none) := by kernel_rfl
@[simp] theorem fl45_1 : fldAt Try.prog 45 1 = some (1, 1, none) := by kernel_rfl
@[simp] theorem fl45_2 : fldAt Try.prog 45 2 = some (2, 1, none) := by kernel_rfl
@[simp] theorem zp45 : zp Try.prog 45 = some ([.int .i64 0, .int .i64 0, .string ⟨#[]⟩], [(0, 1), (1, 1), (2, 1)]) := by kernel_rfl
@[simp] theorem ld50 : ldSz Try.prog 50 = some none := by kernel_rfl
@[simp] theorem ld51 : ldSz Try.prog 51 = some none := by kernel_rfl
@[simp] theorem es51 : elSz Try.prog 51 = some (100, 3) := by kernel_rfl
@[simp] theorem ei51 : elInf Try.prog 51 = some (100, 3, 24, [.int .i64 0, .int .i64 0, .bool false]) := by kernel_rfl
@[simp] theorem ld52 : ldSz Try.prog 52 = some none := by kernel_rfl
@[simp] theorem mi52 : mapInf Try.prog 52 = some (.s, false, [.int .i64 0]) := by kernel_rfl
@[simp] theorem fl54_0 : fldAt Try.prog 54 0 = some (0, 1, none) := by kernel_rfl
@[simp] theorem fl54_1 : fldAt Try.prog 54 1 = some (1, 1, none) := by kernel_rfl
@[simp] theorem fl54_2 : fldAt Try.prog 54 2 = some (2, 1, none) := by kernel_rfl
@[simp] theorem zp54 : zp Try.prog 54 = some ([.slice none 0 0, .slice none 0 0, .map none], [(0, 1), (1, 1), (2, 1)]) := by kernel_rfl
@[simp] theorem ld60 : ldSz Try.prog 60 = some none := by kernel_rfl
@[simp] theorem ts60 : tsz Try.prog 60 = some 1 := by kernel_rfl
@[simp] theorem es60 : elSz Try.prog 60 = some (4, 1) := by kernel_rfl
@[simp] theorem ei60 : elInf Try.prog 60 = some (4, 1, 1, [.bool false]) := by kernel_rfl
@[simp] theorem fl62_0 : fldAt Try.prog 62 0 = some (0, 1, none) := by kernel_rfl
@[simp] theorem fl62_1 : fldAt Try.prog 62 1 = some (1, 1, none) := by kernel_rfl
@[simp] theorem fl62_2 : fldAt Try.prog 62 2 = some (2, 1, none) := by kernel_rfl
@[simp] theorem zp62 : zp Try.prog 62 = some ([.slice none 0 0, .slice none 0 0, .slice none 0 0], [(0, 1), (1, 1), (2, 1)]) := by kernel_rfl
@[simp] theorem ld66 : ldSz Try.prog 66 = some none := by kernel_rfl
@[simp] theorem ts66 : tsz Try.prog 66 = some 1 := by kernel_rfl
@[simp] theorem na66 : notArr Try.prog 66 = true := by kernel_rfl
@[simp] theorem es66 : elSz Try.prog 66 = some (3, 1) := by kernel_rfl
@[simp] theorem ei66 : elInf Try.prog 66 = some (3, 1, 8, [.int .i64 0]) := by kernel_rfl
@[simp] theorem zc68 : zeroC Try.prog 68 = some [.int .i64 0, .slice none 0 0, .bool false, .int .i64 0, .int .i64 0] := by kernel_rfl
@[simp] theorem fl68_0 : fldAt Try.prog 68 0 = some (0, 1, none) := by kernel_rfl
@[simp] theorem fl68_1 : fldAt Try.prog 68 1 = some (1, 1, none) := by kernel_rfl
@[simp] theorem fl68_2 : fldAt Try.prog 68 2 = some (2, 1, none) := by kernel_rfl
@[simp] theorem fl68_3 : fldAt Try.prog 68 3 = some (3, 1, none) := by kernel_rfl
@[simp] theorem fl68_4 : fldAt Try.prog 68 4 = some (4, 1, none) := by kernel_rfl
@[simp] theorem ts71 : tsz Try.prog 71 = some 1 := by kernel_rfl
@[simp] theorem ni71 : notIf Try.prog 71 = true := by kernel_rfl
@[simp] theorem zc71 : zeroC Try.prog 71 = some [.int .i64 0] := by kernel_rfl
@[simp] theorem fl71_0 : fldAt Try.prog 71 0 = some (0, 1, none) := by kernel_rfl
@[simp] theorem zp71 : zp Try.prog 71 = some ([.int .i64 0], [(0, 1)]) := by kernel_rfl
@[simp] theorem es95 : elSz Try.prog 95 = some (9, 1) := by kernel_rfl
@[simp] theorem ei95 : elInf Try.prog 95 = some (9, 1, 16, [.string ⟨#[]⟩]) := by kernel_rfl
@[simp] theorem fl100_0 : fldAt Try.prog 100 0 = some (0, 1, none) := by kernel_rfl
@[simp] theorem fl100_1 : fldAt Try.prog 100 1 = some (1, 1, none) := by kernel_rfl
@[simp] theorem fl100_2 : fldAt Try.prog 100 2 = some (2, 1, none) := by kernel_rfl
@[simp] theorem io102 : intOfT Try.prog 102 = some .u64 := by kernel_rfl
@[simp] theorem io112 : intOfT Try.prog 112 = some .u64 := by kernel_rfl
@[simp] theorem ld116 : ldSz Try.prog 116 = some none := by kernel_rfl
@[simp] theorem mi116 : mapInf Try.prog 116 = some (.s, true, [.int .i64 0, .int .i64 0, .bool false]) := by kernel_rfl
@[simp] theorem fl118_0 : fldAt Try.prog 118 0 = some (0, 1, none) := by kernel_rfl
@[simp] theorem fl118_1 : fldAt Try.prog 118 1 = some (1, 1, none) := by kernel_rfl
@[simp] theorem zp118 : zp Try.prog 118 = some ([.map none, .map none], [(0, 1), (1, 1)]) := by kernel_rfl
@[simp] theorem ts121 : tsz Try.prog 121 = some 3 := by kernel_rfl
@[simp] theorem zc121 : zeroC Try.prog 121 = some [.int .i64 0, .int .i64 0, .bool false] := by kernel_rfl
@[simp] theorem fl121_0 : fldAt Try.prog 121 0 = some (0, 1, none) := by kernel_rfl
@[simp] theorem fl121_1 : fldAt Try.prog 121 1 = some (1, 1, none) := by kernel_rfl
@[simp] theorem fl121_2 : fldAt Try.prog 121 2 = some (2, 1, none) := by kernel_rfl
@[simp] theorem zp121 : zp Try.prog 121 = some ([.int .i64 0, .int .i64 0, .bool false], [(0, 1), (1, 1), (2, 1)]) := by kernel_rfl
@[simp] theorem ca4 : callable Try.prog 4 = true := by kernel_rfl
@[simp] theorem ca5 : callable Try.prog 5 = true := by kernel_rfl
@[simp] theorem ca6 : callable Try.prog 6 = true := by kernel_rfl
@[simp] theorem ca7 : callable Try.prog 7 = true := by kernel_rfl
@[simp] theorem ca8 : callable Try.prog 8 = true := by kernel_rfl
@[simp] theorem ca9 : callable Try.prog 9 = true := by kernel_rfl
@[simp] theorem ca10 : callable Try.prog 10 = true := by kernel_rfl
@[simp] theorem ca11 : callable Try.prog 11 = true := by kernel_rfl
@[simp] theorem ca12 : callable Try.prog 12 = true := by kernel_rfl
@[simp] theorem ca13 : callable Try.prog 13 = true := by kernel_rfl
@[simp] theorem ca14 : callable Try.prog 14 = true := by kernel_rfl
@[simp] theorem ca15 : callable Try.prog 15 = true := by kernel_rfl
@[simp] theorem ca16 : callable Try.prog 16 = true := by kernel_rfl
@[simp] theorem ca17 : callable Try.prog 17 = true := by kernel_rfl
@[simp] theorem ca18 : callable Try.prog 18 = true := by kernel_rfl
@[simp] theorem ca19 : callable Try.prog 19 = true := by kernel_rfl
@[simp] theorem ca20 : callable Try.prog 20 = true := by kernel_rfl
@[simp] theorem ca21 : callable Try.prog 21 = true := by kernel_rfl
@[simp] theorem ca22 : callable Try.prog 22 = true := by kernel_rfl
@[simp] theorem ca23 : callable Try.prog 23 = true := by kernel_rfl
@[simp] theorem ca25 : callable Try.prog 25 = true := by kernel_rfl
@[simp] theorem ca26 : callable Try.prog 26 = true := by kernel_rfl
@[simp] theorem ca27 : callable Try.prog 27 = true := by kernel_rfl
@[simp] theorem ca28 : callable Try.prog 28 = true := by kernel_rfl
@[simp] theorem ca29 : callable Try.prog 29 = true := by kernel_rfl
@[simp] theorem ca30 : callable Try.prog 30 = true := by kernel_rfl
@[simp] theorem ca31 : callable Try.prog 31 = true := by kernel_rfl
@[simp] theorem ca32 : callable Try.prog 32 = true := by kernel_rfl
@[simp] theorem ca33 : callable Try.prog 33 = true := by kernel_rfl
@[simp] theorem ca34 : callable Try.prog 34 = true := by kernel_rfl
@[simp] theorem ca35 : callable Try.prog 35 = true := by kernel_rfl
@[simp] theorem ca36 : callable Try.prog 36 = true := by kernel_rfl
@[simp] theorem ca37 : callable Try.prog 37 = true := by kernel_rfl
@[simp] theorem ca38 : callable Try.prog 38 = true := by kernel_rfl
@[simp] theorem ca39 : callable Try.prog 39 = true := by kernel_rfl
@[simp] theorem ca40 : callable Try.prog 40 = true := by kernel_rfl
@[simp] theorem ca41 : callable Try.prog 41 = true := by kernel_rfl
@[simp] theorem ca42 : callable Try.prog 42 = true := by kernel_rfl
@[simp] theorem ca43 : callable Try.prog 43 = true := by kernel_rfl
@[simp] theorem ca44 : callable Try.prog 44 = true := by kernel_rfl
@[simp] theorem ca45 : callable Try.prog 45 = true := by kernel_rfl
@[simp] theorem ca46 : callable Try.prog 46 = true := by kernel_rfl
@[simp] theorem ca47 : callable Try.prog 47 = true := by kernel_rfl
@[simp] theorem ca48 : callable Try.prog 48 = true := by kernel_rfl
@[simp] theorem ca49 : callable Try.prog 49 = true := by kernel_rfl
@[simp] theorem ca50 : callable Try.prog 50 = true := by kernel_rfl
@[simp] theorem ca51 : callable Try.prog 51 = true := by kernel_rfl
@[simp] theorem ca52 : callable Try.prog 52 = true := by kernel_rfl
@[simp] theorem ca53 : callable Try.prog 53 = true := by kernel_rfl
@[simp] theorem ca54 : callable Try.prog 54 = true := by kernel_rfl
@[simp] theorem ca55 : callable Try.prog 55 = true := by kernel_rfl
@[simp] theorem ca56 : callable Try.prog 56 = true := by kernel_rfl
@[simp] theorem ca57 : callable Try.prog 57 = true := by kernel_rfl
@[simp] theorem ca58 : callable Try.prog 58 = true := by kernel_rfl
@[simp] theorem ca59 : callable Try.prog 59 = true := by kernel_rfl
@[simp] theorem ca60 : callable Try.prog 60 = true := by kernel_rfl
@[simp] theorem ca61 : callable Try.prog 61 = true := by kernel_rfl
@[simp] theorem ca62 : callable Try.prog 62 = true := by kernel_rfl
@[simp] theorem ca63 : callable Try.prog 63 = true := by kernel_rfl
@[simp] theorem ca64 : callable Try.prog 64 = true := by kernel_rfl
@[simp] theorem ca65 : callable Try.prog 65 = true := by kernel_rfl
@[simp] theorem ca66 : callable Try.prog 66 = true := by kernel_rfl
@[simp] theorem ca67 : callable Try.prog 67 = true := by kernel_rfl
@[simp] theorem ca68 : callable Try.prog 68 = true := by kernel_rfl
@[simp] theorem ca69 : callable Try.prog 69 = true := by kernel_rfl
@[simp] theorem ca70 : callable Try.prog 70 = true := by kernel_rfl
@[simp] theorem ca71 : callable Try.prog 71 = true := by kernel_rfl
@[simp] theorem ca72 : callable Try.prog 72 = true := by kernel_rfl
@[simp] theorem ca73 : callable Try.prog 73 = true := by kernel_rfl
@[simp] theorem ca74 : callable Try.prog 74 = true := by kernel_rfl
@[simp] theorem ca75 : callable Try.prog 75 = true := by kernel_rfl
@[simp] theorem ca76 : callable Try.prog 76 = true := by kernel_rfl
@[simp] theorem ca77 : callable Try.prog 77 = true := by kernel_rfl
@[simp] theorem ca78 : callable Try.prog 78 = true := by kernel_rfl
end Go.Proofs.Ytmoohdpnmkkgpaa
namespace Go.VL
open Go Go.ChangeShapes Go.WideShapes Go.ChangeAt Go.RowKit Go.Deep
open Go.Proofs.Ytmoohdpnmkkgpaa.Rows (uptoBulk uptoBulkAll)
/-- The memory of a world. -/
def wmem (w : World) : Mem := fun b o => look w b o
inductive HasRow (P : Program) : TypeId → List U → Prop
  | bool {t b} (h : P.underlying t = some .bool) : HasRow P t [.bool b]
  | int {t k n} (h : P.underlying t = some (.int k)) (h1 : k.min ≤ n) (h2 : n ≤ k.max) : HasRow P t [.int k n]
  | str {t l} (h : P.underlying t = some .string) (h1 : l.length ≤ maxLen) : HasRow P t [.str l]
  | slice {t e rows} (h : P.underlying t = some (.slice e)) (h1 : rows.length ≤ maxLen) (h2 : ∀ r ∈ rows, HasRow P e r) : HasRow P t [.sl rows]
  | struct {t fs} (rs : List (List U)) (h : P.underlying t = some (.struct fs)) (h1 : rs.length = fs.size) (h2 : ∀ (i : Nat) (f : Field) (r : List U), fs[i]? = some f → rs[i]? = some r → HasRow P f.type r) : HasRow P t rs.flatten
  | other {t r} (h : match P.underlying t with | some .bool | some (.int _) | some .string | some (.struct _) => False | some (.slice e) => P.cellsOf e = 0 | _ => True) : HasRow P t r
/-- The fields lie one behind the other. -/
def seqB (P : Program) : Nat → List Field → Nat → Bool
  | o, [], n => o == n
  | o, f :: l, n => f.offset == o && seqB P (o + P.cellsOf f.type) l n
def seqAll (P : Program) : Bool := (List.range P.types.size).all fun t => match P.underlying t with
  | some (.struct fs) => seqB P 0 fs.toList (P.cellsOf t) && fs.toList.all fun f => decide (f.type < P.types.size)
  | some (.slice e) => decide (e < P.types.size)
  | _ => true
theorem seqAll_struct {P : Program} (h : seqAll P = true) {t fs} (hlt : t < P.types.size) (ht : P.underlying t = some (.struct fs)) : seqB P 0 fs.toList (P.cellsOf t) = true ∧ ∀ f ∈ fs.toList, f.type < P.types.size := by
  have := List.all_eq_true.1 h t (List.mem_range.2 hlt)
  simp only [ht, Bool.and_eq_true, List.all_eq_true, decide_eq_true_eq] at this
  exact this
theorem seqAll_slice {P : Program} (h : seqAll P = true) {t e} (hlt : t < P.types.size) (ht : P.underlying t = some (.slice e)) : e < P.types.size := by
  have := List.all_eq_true.1 h t (List.mem_range.2 hlt)
  simp only [ht, decide_eq_true_eq] at this
  exact this
/-- Cells az plain values. -/
def RepRow (m : Mem) (r : List U) (cs : List Value) : Prop := r.length = cs.length ∧ ∀ (j : Nat) (u : U), r[j]? = some u → RepU m u (cs.getD j undef)
theorem RepRow.one {m : Mem} {u : U} {v : Value} (h : RepU m u v) : RepRow m [u] [v] := ⟨rfl, fun j w hj => by
  cases j with
  | zero => simp at hj; subst hj; exact h
  | succ j => simp at hj⟩
theorem RepRow.append {m : Mem} {a b : List U} {x y : List Value} (h : RepRow m a x) (g : RepRow m b y) : RepRow m (a ++ b) (x ++ y) := by
  refine ⟨by simp [h.1, g.1], fun j u hj => ?_⟩
  rw [List.getElem?_append] at hj
  rw [List.getD_eq_getElem?_getD, List.getElem?_append, ← h.1]
  by_cases hl : j < a.length
  · rw [if_pos hl] at hj ⊢
    rw [← List.getD_eq_getElem?_getD]
    exact h.2 j u hj
  · rw [if_neg hl] at hj ⊢
    rw [← List.getD_eq_getElem?_getD]
    exact g.2 _ u hj
theorem RepRow.flatten {m : Mem} : ∀ {rs : List (List U)} {xs : List (List Value)}, rs.length = xs.length → (∀ (i : Nat) r x, rs[i]? = some r → xs[i]? = some x → RepRow m r x) → RepRow m rs.flatten xs.flatten
  | [], [], _, _ => ⟨rfl, by simp⟩
  | r :: rs, x :: xs, hl, h => by
    rw [List.flatten_cons, List.flatten_cons]
    exact (h 0 r x rfl rfl).append (RepRow.flatten (by simpa using hl) fun i r x h1 h2 => h (i + 1) r x (by simpa using h1) (by simpa using h2))
  | [], _ :: _, hl, _ => by simp at hl
  | _ :: _, [], hl, _ => by simp at hl
theorem seq_pieces {P : Program} {cs : List Value} : ∀ (l : List Field) (o : Nat), seqB P o l cs.length = true → cs.drop o = (l.map fun f => (cs.drop f.offset).take (P.cellsOf f.type)).flatten
  | [], o, h => by
    simp [seqB] at h
    subst h
    simp
  | f :: l, o, h => by
    simp only [seqB, Bool.and_eq_true, beq_iff_eq] at h
    obtain ⟨h1, h2⟩ := h
    rw [List.map_cons, List.flatten_cons, ← seq_pieces l _ h2, h1]
    conv => lhs; rw [← List.take_append_drop (P.cellsOf f.type) (cs.drop o)]
    rw [List.drop_drop]
theorem exists_list {α : Type} {p : Nat → α → Prop} : ∀ (n : Nat), (∀ i, i < n → ∃ x, p i x) → ∃ l : List α, l.length = n ∧ ∀ i x, l[i]? = some x → p i x
  | 0, _ => ⟨[], rfl, by simp⟩
  | n + 1, h => by
    obtain ⟨l, hl, hp⟩ := exists_list n fun i hi => h i (by omega)
    obtain ⟨x, hx⟩ := h n (by omega)
    refine ⟨l ++ [x], by simp [hl], fun i y hy => ?_⟩
    rw [List.getElem?_append] at hy
    by_cases hi : i < l.length
    · rw [if_pos hi] at hy; exact hp i y hy
    · rw [if_neg hi] at hy
      have hi2 := (List.getElem?_eq_some_iff.1 hy).1
      simp at hi2
      have : i = n := by omega
      subst this
      rw [hl] at hy
      simp at hy
      subst hy
      exact hx
theorem cells_none {w : World} {base : Nat} {a : Addr} {n : Nat} {cs : List Value} (h : w.cells? base a n = some cs) (hn : 0 < n) : a.spot = none := by
  obtain ⟨_, hl, hc⟩ := World.cells?_some h
  have h0 := hc 0 hn
  have hlt : 0 < cs.length := by omega
  rw [List.getElem?_eq_getElem hlt] at h0
  simp only [Addr.add, if_true] at h0
  unfold World.cell? at h0
  cases hs : a.spot with
  | none => rfl
  | some x =>
    exfalso
    split at h0
    · simp [hs] at h0
    · simp at h0
/-- How many elements and letters a value holds, each counted each time it is reached. -/
def szU : U → Nat
  | .str l => l.length
  | .sl rows => (rows.map fun r => 1 + (r.map fun u => szU u).sum).sum
  | .agg cs => (cs.map fun u => szU u).sum
  | _ => 0
termination_by u => SizeOf.sizeOf u
decreasing_by
  · rename_i h1 h2
    have h1 := List.sizeOf_lt_of_mem h1
    have h2 := List.sizeOf_lt_of_mem h2
    simp_wf
    omega
  · rename_i h2
    have h2 := List.sizeOf_lt_of_mem h2
    simp_wf
    omega
theorem szU_sl (rows : List (List U)) : szU (.sl rows) = (rows.map fun r => 1 + (r.map szU).sum).sum := by rw [szU]
theorem szU_agg (cs : List U) : szU (.agg cs) = (cs.map szU).sum := by rw [szU]
theorem szU_o (v : Value) : szU (.oth v) = 0 := by simp [szU]
open Go.Proofs.Ytmoohdpnmkkgpaa.Rows (uptoBulk uptoBulkAll)
theorem bulk_pos {H : Type} (d : DataW H) : 1 ≤ uptoBulk d := by
  cases d with
  | lit l => cases l <;> simp [uptoBulk]
  | _ => simp [uptoBulk]
theorem bulkAll_ge {H : Type} : ∀ {l : List (DataW H)} {ns : List Nat}, ns.length = l.length → (∀ (i n : Nat) (d : DataW H), ns[i]? = some n → l[i]? = some d → n ≤ uptoBulk d) → ns.sum ≤ uptoBulkAll l
  | [], [], _, _ => by simp
  | d :: l, n :: ns, hl, h => by
    have h1 := h 0 n d rfl rfl
    have h2 := bulkAll_ge (l := l) (ns := ns) (by simpa using hl) fun i n d hn hd => h (i + 1) n d (by simpa using hn) (by simpa using hd)
    simp only [uptoBulkAll, List.sum_cons]
    omega
  | [], _ :: _, hl, _ => by simp at hl
  | _ :: _, [], hl, _ => by simp at hl
theorem szU_oth (cs : List Value) : ((cs.map U.oth).map szU).sum = 0 := by
  induction cs with
  | nil => rfl
  | cons c cs ih => simp only [List.map_cons, List.sum_cons, ih, szU_o]
theorem sum_flatten (f : U → Nat) : ∀ (rs : List (List U)), (rs.flatten.map f).sum = (rs.map fun r => (r.map f).sum).sum
  | [] => rfl
  | r :: rs => by rw [List.flatten_cons, List.map_append, List.sum_append, List.map_cons, List.sum_cons, sum_flatten f rs]
theorem trod_rep {H : Type} {enc : TypeId × Value → H} {P : Program} (hseq : seqAll P = true) {w : World} {base : Nat} {spare : Nat → Bool} {held : Bool} : ∀ (fuel : Nat) {t : TypeId} {cs : List Value} {x : DataW H × List MemPlace}, t < P.types.size →
    DataW.trod enc P w base spare held fuel t cs = some x → ∃ r, HasRow P t r ∧ RepRow (wmem w) r cs ∧ 1 + (r.map szU).sum ≤ uptoBulk x.1
  | 0, t, cs, x, _, h => by simp [DataW.trod] at h
  | fuel + 1, t, cs, x, hts, h => by
    have h0 := h
    have hb1 := bulk_pos x.1
    have oth : ∀ cs : List Value, RepRow (wmem w) (cs.map .oth) cs := fun cs => ⟨by simp, fun j u hj => by
      rw [List.getElem?_map] at hj
      cases hc : cs[j]? with
      | none => rw [hc] at hj; cases hj
      | some v => rw [hc] at hj; cases hj; rw [List.getD_eq_getElem?_getD, hc]; exact .oth v⟩
    cases hu : P.underlying t with
    | none => exact ⟨_, .other (by rw [hu]; trivial), oth cs, by rw [szU_oth]; exact hb1⟩
    | some td =>
      cases td with
      | bool =>
        unfold DataW.trod at h
        rw [hu] at h
        split at h <;> simp_all
        exact ⟨_, .bool hu, .one (.bool _), by simp [szU]; omega⟩
      | int k =>
        unfold DataW.trod at h
        rw [hu] at h
        split at h <;> simp_all [Lit.wf]
        rename_i hk
        obtain ⟨⟨hk1, h1, h2⟩, _⟩ := h
        subst hk1
        exact ⟨_, .int hu h1 h2, .one (.int _ _), by simp [szU]; omega⟩
      | string =>
        unfold DataW.trod at h
        rw [hu] at h
        split at h <;> simp_all
        rename_i s
        refine ⟨[.str s.data.toList], .str hu (by simpa using h.1), .one ?_, ?_⟩
        · have h := RepU.str (m := wmem w) s.data.toList
          simpa using h
        · rw [← h.2]
          simp [szU, uptoBulk, uptoBulk, ByteArray.toList_eq]
          omega
      | slice e =>
        rcases DataW.trod_slice hu h with ⟨rfl, rfl⟩ | ⟨a, len, cap, elems, rest, n, hn, rfl, rfl, hb, hl, hm, hlen, hel, _, _⟩
        · exact ⟨[.sl []], .slice hu (by simp) (by simp), .one (.slE none 0 fun _ => rfl), by simp [szU]; exact bulk_pos _⟩
        · have hnf : n = fuel := by omega
          subst hnf
          by_cases h0 : len = 0
          · subst h0
            exact ⟨[.sl []], .slice hu (by simp) (by simp), .one (.slE (some a) cap fun e => by cases e), by simp [szU]; exact bulk_pos _⟩
          · have hrow : ∀ i, i < len → ∃ q, ∃ cs', w.cells? base (a.add (i * P.cellsOf e)) (P.cellsOf e) = some cs' ∧ HasRow P e q ∧ RepRow (wmem w) q cs' ∧ ∀ d, elems[i]? = some d → 1 + (q.map szU).sum ≤ uptoBulk d.1 := fun i hi => by
              have h1 := hel i hi
              rw [List.getElem?_eq_getElem (by omega)] at h1
              cases hc : w.cells? base (a.add (i * P.cellsOf e)) (P.cellsOf e) with
              | none => rw [hc] at h1; cases h1
              | some cs' =>
                rw [hc] at h1
                obtain ⟨q, h2, h3, h4⟩ := trod_rep hseq n (seqAll_slice hseq hts hu) (by simpa using h1)
                exact ⟨q, cs', rfl, h2, h3, fun d hd => by rw [List.getElem?_eq_getElem (by omega)] at hd; cases hd; exact h4⟩
            obtain ⟨rows, hrl, hrows⟩ := exists_list len hrow
            by_cases hz : P.cellsOf e = 0
            · exact ⟨_, .other (by rw [hu]; exact hz), oth _, by rw [szU_oth]; exact hb1⟩
            · have hsp : a.spot = none := by
                obtain ⟨cs', h1, _⟩ := hrows 0 rows[0] (List.getElem?_eq_getElem (by omega))
                have := cells_none h1 (by omega)
                simpa [Addr.add] using this
              obtain ⟨b, o, sp⟩ := a
              simp only at hsp
              subst hsp
              refine ⟨[.sl rows], .slice hu (by omega) fun r hr => ?_, .one ?_, ?_⟩
              · obtain ⟨i, hi⟩ := List.getElem?_of_mem hr
                obtain ⟨_, _, h2, _⟩ := hrows i r hi
                exact h2
              · have hat : ∀ i r, rows[i]? = some r → r.length = P.cellsOf e ∧ ∀ j, j < P.cellsOf e → ∃ v, w.cell? ⟨b, o + i * P.cellsOf e + j, none⟩ = some v ∧ ∀ u, r[j]? = some u → RepU (wmem w) u v := fun i r hi => by
                  obtain ⟨cs', h1, _, h3, _⟩ := hrows i r hi
                  obtain ⟨_, h4, h5⟩ := World.cells?_some h1
                  refine ⟨by rw [h3.1, h4], fun j hj => ?_⟩
                  have h6 := h5 j hj
                  rw [addr_add, addr_add, List.getElem?_eq_getElem (by omega)] at h6
                  refine ⟨_, h6, fun u hu => ?_⟩
                  have := h3.2 j u hu
                  rw [List.getD_eq_getElem?_getD, List.getElem?_eq_getElem (by omega)] at this
                  exact this
                have := RepU.sl (m := wmem w) rows b o (P.cellsOf e) cap (fun i j => (w.cell? ⟨b, o + i * P.cellsOf e + j, none⟩).getD undef) (by omega) hm (fun r hr => by
                    obtain ⟨i, hi⟩ := List.getElem?_of_mem hr
                    exact (hat i r hi).1)
                  (fun i hi j hj => by
                    obtain ⟨v, hv, _⟩ := (hat i rows[i] (List.getElem?_eq_getElem hi)).2 j hj
                    exact look_cell (by simp [hv]))
                  (fun i r hi j u hj => by
                    have hl := (hat i r hi).1
                    obtain ⟨v, hv, hr⟩ := (hat i r hi).2 j (by have := (List.getElem?_eq_some_iff.1 hj).1; omega)
                    rw [hv]
                    exact hr u hj)
                rw [hrl] at this
                exact this
              · have := bulkAll_ge (l := elems.map (·.1)) (ns := rows.map fun r => 1 + (r.map szU).sum) (by simp [hrl, hlen]) fun i n' d hn' hd => by
                  rw [List.getElem?_map] at hn' hd
                  cases hr : rows[i]? with
                  | none => rw [hr] at hn'; cases hn'
                  | some r =>
                    cases he : elems[i]? with
                    | none => rw [he] at hd; cases hd
                    | some y =>
                      rw [hr] at hn'
                      rw [he] at hd
                      cases hn'
                      cases hd
                      obtain ⟨_, _, _, _, h7⟩ := hrows i r hr
                      exact h7 y he
                simp only [List.map_cons, List.map_nil, List.sum_cons, List.sum_nil, szU_sl, uptoBulk]
                omega
      | struct fs =>
        obtain ⟨xs, n, hn, rfl, hcl, hxl, hf⟩ := DataW.trod_struct hu h
        have hnf : n = fuel := by omega
        subst hnf
        obtain ⟨hs, hfl⟩ := seqAll_struct hseq hts hu
        rw [← hcl] at hs
        have hp := seq_pieces fs.toList 0 hs
        rw [List.drop_zero] at hp
        have hrow : ∀ i, i < fs.size → ∃ q, ∃ f, fs[i]? = some f ∧ HasRow P f.type q ∧ RepRow (wmem w) q ((cs.drop f.offset).take (P.cellsOf f.type)) ∧ ∀ d, xs[i]? = some d → (q.map szU).sum ≤ uptoBulk d.1 := fun i hi => by
          have h1 := hf i fs[i] (Array.getElem?_eq_getElem hi)
          rw [List.getElem?_eq_getElem (by omega)] at h1
          obtain ⟨q, h2, h3, h4⟩ := trod_rep hseq n (hfl _ (by rw [← Array.getElem_toList]; exact List.getElem_mem _)) h1
          exact ⟨q, fs[i], Array.getElem?_eq_getElem hi, h2, h3, fun d hd => by rw [List.getElem?_eq_getElem (by omega)] at hd; cases hd; omega⟩
        obtain ⟨rs, hrl, hrs⟩ := exists_list fs.size hrow
        refine ⟨rs.flatten, .struct rs hu hrl fun i f r hi hr => ?_, ?_, ?_⟩
        · obtain ⟨f', h1, h2, _⟩ := hrs i r hr
          rw [hi] at h1
          cases h1
          exact h2
        · rw [hp]
          refine RepRow.flatten (by simp [hrl]) fun i r x hr hx => ?_
          obtain ⟨f', h1, _, h3, _⟩ := hrs i r hr
          rw [List.getElem?_map, Array.getElem?_toList, h1] at hx
          cases hx
          exact h3
        · have := bulkAll_ge (l := xs.map (·.1)) (ns := rs.map fun r => (r.map szU).sum) (by simp [hrl, hxl]) fun i n' d hn' hd => by
            rw [List.getElem?_map] at hn' hd
            cases hr : rs[i]? with
            | none => rw [hr] at hn'; cases hn'
            | some r =>
              cases he : xs[i]? with
              | none => rw [he] at hd; cases hd
              | some y =>
                rw [hr] at hn'
                rw [he] at hd
                cases hn'
                cases hd
                obtain ⟨_, _, _, _, h7⟩ := hrs i r hr
                exact h7 y he
          rw [sum_flatten]
          simp only [uptoBulk]
          omega
      | _ => exact ⟨_, .other (by rw [hu]; trivial), oth cs, by rw [szU_oth]; exact hb1⟩
end Go.VL
namespace Go.VL
open Go Go.ChangeShapes Go.WideShapes Go.ChangeAt Go.RowKit Go.Deep
open Go.Proofs.Ytmoohdpnmkkgpaa.Rows (uptoBulk uptoBulkAll)
def HasRows (P : Program) : List TypeId → List (List U) → Prop
  | [], [] => True
  | t :: ts, r :: rs => HasRow P t r ∧ HasRows P ts rs
  | _, _ => False
section
variable {P : Program} {t : TypeId} {r : List U}
theorem HasRow.of_int {k : IntKind} (h : HasRow P t r) (ht : intOfT P t = some k) : ∃ n, r = [.int k n] ∧ k.min ≤ n ∧ n ≤ k.max := by
  have hu := intOfT_some ht
  cases h with
  | int h h1 h2 => rw [hu] at h; cases h; exact ⟨_, rfl, h1, h2⟩
  | other h => rw [hu] at h; exact h.elim
  | struct rs h => rw [hu] at h; cases h
  | _ h => rw [hu] at h; cases h
theorem HasRow.of_str (h : HasRow P t r) (ht : isStr P t = true) : ∃ l, r = [.str l] ∧ l.length ≤ maxLen := by
  have hu := isStr_some ht
  cases h with
  | str h h1 => exact ⟨_, rfl, h1⟩
  | other h => rw [hu] at h; exact h.elim
  | struct rs h => rw [hu] at h; cases h
  | _ h => rw [hu] at h; cases h
theorem HasRow.of_slice {e sz : Nat} (h : HasRow P t r) (ht : elSz P t = some (e, sz + 1)) : ∃ rows, r = [.sl rows] ∧ rows.length ≤ maxLen ∧ ∀ q ∈ rows, HasRow P e q := by
  obtain ⟨hu, hs⟩ := elSz_some ht
  cases h with
  | slice h h1 h2 => rw [hu] at h; cases h; exact ⟨_, rfl, h1, h2⟩
  | other h =>
    rw [hu] at h
    unfold tsz at hs
    unfold Program.cellsOf at h
    simp only at h
    rw [hs] at h
    simp at h
  | struct rs h => rw [hu] at h; cases h
  | _ h => rw [hu] at h; cases h
theorem HasRow.of_struct {ts : List TypeId} (h : HasRow P t r) (ht : stT P t = some ts) : ∃ rs, r = rs.flatten ∧ HasRows P ts rs := by
  unfold stT at ht
  split at ht
  · rename_i fs hu
    cases ht
    cases h with
    | struct rs h h1 h2 =>
      rw [hu] at h
      cases h
      refine ⟨rs, rfl, ?_⟩
      have key : ∀ (l : List Field) (rs : List (List U)), rs.length = l.length → (∀ (i : Nat) (f : Field) (r : List U), l[i]? = some f → rs[i]? = some r → HasRow P f.type r) → HasRows P (l.map (·.type)) rs := by
        intro l
        induction l with
        | nil => intro rs hl _; simp at hl; subst hl; trivial
        | cons f l ih =>
          intro rs hl h
          cases rs with
          | nil => simp at hl
          | cons r rs => exact ⟨h 0 f r rfl rfl, ih rs (by simpa using hl) fun i f r h1 h2 => h (i + 1) f r (by simpa using h1) (by simpa using h2)⟩
      exact key fs.toList rs (by simpa using h1) fun i f r hf hr => h2 i f r (by simpa using hf) hr
    | other h => rw [hu] at h; exact h.elim
    | _ h => rw [hu] at h; cases h
  · cases ht
end
/-- Rows that all come of a typed thing are those of a list of such things. -/
theorem rows_list {α : Type} (f : α → List U) (Q : α → Prop) : ∀ {rows : List (List U)}, (∀ r ∈ rows, ∃ x, r = f x ∧ Q x) → ∃ l : List α, rows = l.map f ∧ ∀ x ∈ l, Q x
  | [], _ => ⟨[], rfl, by simp⟩
  | r :: rows, h => by
    obtain ⟨x, rfl, hx⟩ := h r (by simp)
    obtain ⟨l, rfl, hl⟩ := rows_list f Q (rows := rows) fun r hr => h r (by simp [hr])
    exact ⟨x :: l, rfl, by simpa using ⟨hx, hl⟩⟩
def ArgU (P : Program) (t : TypeId) (u : U) : Prop := match P.underlying t with
  | some (.struct _) => ∃ r, u = .agg r ∧ HasRow P t r
  | some (.array _ _) => True
  | _ => HasRow P t [u]
theorem ArgU.one {P : Program} {t u} (h : ArgU P t u) (hn : stT P t = none) (ha : notArr P t = true) : HasRow P t [u] := by
  unfold ArgU at h
  unfold stT at hn
  unfold notArr at ha
  split at h <;> simp_all
theorem ArgU.agg {P : Program} {t u ts} (h : ArgU P t u) (hn : stT P t = some ts) : ∃ r, u = .agg r ∧ HasRow P t r := by
  unfold ArgU at h
  unfold stT at hn
  split at h <;> simp_all
def ArgsU (P : Program) : List TypeId → List U → Prop
  | [], [] => True
  | t :: ts, u :: us => ArgU P t u ∧ ArgsU P ts us
  | _, _ => False
theorem okWide_one {P : Program} {w r b t v} (h : Value.okWide P w r b t v) (h1 : ∀ fs, P.underlying t ≠ some (.struct fs)) (h2 : ∀ n e, P.underlying t ≠ some (.array n e)) : v.cells = #[v] := by
  unfold Value.okWide at h
  split at h
  · rename_i fs hu; exact absurd hu (h1 fs)
  · rename_i n e hu; exact absurd hu (h2 n e)
  · cases v <;> first | rfl | (exfalso; unfold Cell.okWide at h; split at h <;> simp_all [Cell.ok])
theorem args_rep {H : Type} {enc : TypeId × Value → H} {P : Program} (hseq : seqAll P = true) {w : World} {spare : Nat → Bool} {held : Bool} {r : Reach} {b : Nat} : ∀ {ts : List TypeId} {vs : List Value} {ds : List (DataW H)} {p : List MemPlace},
    DataW.TrodAll enc P w 0 spare held ts vs ds p → (∀ t ∈ ts, t < P.types.size) → (∀ (j : Nat) t v, ts[j]? = some t → vs[j]? = some v → Value.okWide P w r b t v) → ∃ us, ArgsU P ts us ∧ RepRow (wmem w) us vs ∧ (us.map szU).sum ≤ uptoBulkAll ds
  | [], [], [], _, _, _, _ => ⟨[], trivial, ⟨rfl, by simp⟩, by simp⟩
  | t :: ts, v :: vs, d :: ds, p, h, hlt, hok => by
    obtain ⟨p1, q1, ⟨fuel, h1⟩, h2, _⟩ := h
    obtain ⟨us, h3, h4, hsz⟩ := args_rep hseq h2 (fun t ht => hlt t (by simp [ht])) fun j t v ht hv => hok (j + 1) t v (by simpa using ht) (by simpa using hv)
    have hv := hok 0 t v rfl rfl
    obtain ⟨row, h5, h6, h6s⟩ := trod_rep hseq fuel (hlt t (by simp)) h1
    simp only at h6s
    have hone : ∀ (_ : ∀ fs, P.underlying t ≠ some (.struct fs)) (_ : ∀ n e, P.underlying t ≠ some (.array n e)), ∃ u, HasRow P t [u] ∧ RepU (wmem w) u v ∧ szU u ≤ uptoBulk d := fun n1 n2 => by
      have hc := okWide_one hv n1 n2
      rw [hc] at h6
      have hl := h6.1
      match row, hl with
      | [u], _ => exact ⟨u, h5, by simpa using h6.2 0 u rfl, by simp at h6s; omega⟩
    have hcons : ∀ u, ArgU P t u → RepU (wmem w) u v → szU u ≤ uptoBulk d → ∃ us, ArgsU P (t :: ts) us ∧ RepRow (wmem w) us (v :: vs) ∧ (us.map szU).sum ≤ uptoBulkAll (d :: ds) := fun u hu hr hz => ⟨u :: us, ⟨hu, h3⟩, (RepRow.one hr).append h4, by
      simp only [List.map_cons, List.sum_cons, uptoBulkAll]
      omega⟩
    cases hu : P.underlying t with
    | none =>
      obtain ⟨u, h7, h8, h9⟩ := hone (fun fs e => by rw [hu] at e; cases e) (fun n x e => by rw [hu] at e; cases e)
      exact hcons u (by unfold ArgU; rw [hu]; exact h7) h8 h9
    | some td =>
      cases td with
      | struct fs =>
        unfold Value.okWide at hv
        rw [hu] at hv
        obtain ⟨cs, rfl, _⟩ := hv
        refine hcons (.agg row) (by unfold ArgU; rw [hu]; exact ⟨row, rfl, h5⟩) ?_ (by rw [szU_agg]; omega)
        have := RepU.agg (m := wmem w) row cs.toList (by simpa [Value.cells] using h6.1) (by simpa [Value.cells] using h6.2)
        simpa using this
      | array n e => exact hcons (.oth v) (by unfold ArgU; rw [hu]; trivial) (.oth v) (by rw [szU_o]; exact Nat.zero_le _)
      | _ =>
        obtain ⟨u, h7, h8, h9⟩ := hone (fun fs e => by rw [hu] at e; cases e) (fun n x e => by rw [hu] at e; cases e)
        exact hcons u (by unfold ArgU; rw [hu]; exact h7) h8 h9
/-- The call out of a contract by value. -/
theorem calls_of_fun {P : Program} {f : FuncId} {us : List U} {b : Bool} (h : Fun P f (us.map .u) (· = .u (.bool b))) {W : World} {args : Array Value} (hg : GlobIn (wmem W)) (ha : RepRow (wmem W) us args.toList) :
    Calls P f args W fun e W' => e = .returned (.bool b) ∧ Below W.heap.size W W' := by
  have := h ⟨wmem W, fun _ => none, hg⟩ (W.heap.size ≤ ·) W args ⟨fun _ _ _ h => h, by simp [getK], by simp [getK]⟩ (fun _ _ => rfl) (fun _ h => h)
    ⟨by simpa using ha.1.symm, fun j d hj => by
      rw [List.getElem?_map] at hj
      cases hu : us[j]? with
      | none => rw [hu] at hj; cases hj
      | some u =>
        rw [hu] at hj
        cases hj
        have := ha.2 j u hu
        have e : args.getD j undef = args.toList.getD j undef := by simp
        rw [e]
        exact Rep.u _ _ this⟩
  refine this.mono ?_
  rintro e W' ⟨v, d, o, n, k', rfl, hin, _, _, _, hr, _, rfl⟩
  exact ⟨by rw [rep_bool hr], ⟨hin.os, hin.tape, hin.output, hin.size, fun k hk => hin.block k (by omega)⟩⟩
theorem trodAll_below {H : Type} {enc : TypeId × Value → H} {P : Program} (hl : laidOutB P = true) {W W' : World} (hb : Below W.heap.size W W') {sp : Nat → Bool} : ∀ {ts : List TypeId} {vs : List Value} {ds : List (DataW H)} {ps : List MemPlace},
    (∀ t ∈ ts, P.readableRec t = true ∧ t < P.types.size) → DataW.TrodAll enc P W 0 (fun _ => true) true ts vs ds ps → (∀ x ∈ ps, x.block < W.heap.size) → (∀ x ∈ ps, sp x.block = true) → DataW.TrodAll enc P W' 0 sp true ts vs ds ps
  | [], [], [], _, _, h, _, _ => h
  | t :: ts, v :: vs, d :: ds, ps, hr, h, hlt, hsp => by
    obtain ⟨p, q, h1, h2, rfl⟩ := h
    obtain ⟨h3, h4⟩ := hr t (by simp)
    refine ⟨p, q, WideElems.Trod_stays hl h3 h4 h1 (fun x hx => hb.same (hlt x (by simp [hx]))) (fun x hx => hsp x (by simp [hx])), trodAll_below hl hb (fun t ht => hr t (by simp [ht])) h2 (fun x hx => hlt x (by simp [hx])) (fun x hx => hsp x (by simp [hx])), rfl⟩
theorem post_below {H : Type} {enc : TypeId × Value → H} {P : Program} {f : Func} {s : ChangeSpec} {apart fresh handsOn again : Bool} {W W' : World} {args : Array Value} {v : Value} {ds gs : List (DataW H)} {before pa pv : List MemPlace}
    (hW : DataW.Whole enc P f.params.toList s.vars apart W args.toList ds gs before)
    (hres : ∀ (b : Nat) (sp : Nat → Bool) (hd : Bool), DataW.TrodAll enc P W' b sp hd f.resultTypes.toList (v.resultList f.resultTypes.size) (s.fn H (ds ++ gs)).results [])
    (hargs : ∀ sp : Nat → Bool, (∀ p ∈ before, sp p.block = true) → DataW.TrodAll enc P W' 0 sp true f.params.toList args.toList (s.fn H (ds ++ gs)).args pa)
    (hvars : ∀ sp : Nat → Bool, (∀ p ∈ before, sp p.block = true) → DataW.TrodVars enc P W' sp s.vars (s.fn H (ds ++ gs)).vars pv)
    (hps : before = pa ++ pv) (hb : Below W.heap.size W W')
    (hok : ∀ (j : Nat) (t : TypeId) (r : Value), f.resultTypes[j]? = some t → (v.resultList f.resultTypes.size)[j]? = some r → Value.okWide P W' .any 0 t r) :
    s.post enc P f apart fresh handsOn again W args v W' := by
  have hlt : ∀ p ∈ before, p.block < W.heap.size := fun p hp => hW.lt p hp
  have hold : ∀ p ∈ before, (fun b => decide (b < W.heap.size)) p.block = true := fun p hp => by simpa using hlt p hp
  refine ⟨ds, gs, before, [], pa, pv, hW, hres _ _ _, hargs _ hold, hvars _ hold, World.keptBut_mono (fun p hp => ⟨hp, ?_⟩) (hb.frame (· ∈ before)), fun _ => ?_⟩
  · rw [hps, List.mem_append] at hp
    exact Or.inr hp
  · obtain ⟨_, _, _, _, _, hz, hn⟩ := hW
    refine ⟨hok, _, _, ([] ++ pa) ++ pv, ⟨[] ++ pa, pv, trodAll_append (hargs _ (fun _ _ => rfl)) (hres _ _ _), hvars _ (fun _ _ => rfl), rfl, ?_, ?_⟩, ?_⟩
    · intro b off hp
      have hin : MemPlace.cell b off ∈ before := by rw [hps]; simpa using hp
      rw [hb.frozen (hlt _ hin)]
      exact hz b off hin
    · intro ha
      have := hn ha
      rw [hps] at this
      simpa using this
    · intro p hp _
      rw [hps]
      simpa using hp
/-- What a contract by value gives for the row's own form. -/
theorem law_contract {H : Type} {enc : TypeId × Value → H} {C : Checked} {f : FuncId} {fn : Func} {s : ChangeSpec} {apart fresh handsOn again : Bool} {tb : TypeId}
    (hl : laidOutB C.prog = true) (hseq : seqAll C.prog = true) (hpar : (fn.params.toList.all fun t => C.prog.readableRec t && decide (t < C.prog.types.size)) = true)
    (hvars : s.vars = []) (hspec : ∀ ds : List (DataW H), ds.length = fn.params.size → s.fn H ds = { results := [.lit (.bool true)], args := ds })
    (hres : fn.resultTypes = #[tb]) (htb : C.prog.underlying tb = some .bool) (hglob : globs = [])
    (W : World) (base : Nat) (args : Array Value) (ds gs : List (DataW H)) (before : List MemPlace) (hval : ∀ (j : Nat) t v, fn.params[j]? = some t → args[j]? = some v → Value.okWide C.prog W .any base t v)
    (hW : DataW.Whole enc C.prog fn.params.toList s.vars apart W args.toList ds gs before)
    (hfun : ∀ us : List U, ArgsU C.prog fn.params.toList us → (us.map szU).sum ≤ uptoBulkAll (ds ++ gs) → Fun C.prog f (us.map .u) (· = .u (.bool true))) :
    Calls C.prog f args W fun e W' => ∃ v, e = .returned v ∧ s.post enc C.prog fn apart fresh handsOn again W args v W' := by
  have hpar' : ∀ t ∈ fn.params.toList, C.prog.readableRec t = true ∧ t < C.prog.types.size := by
    intro t ht
    have := List.all_eq_true.1 hpar t ht
    simpa using this
  have hW' := hW
  obtain ⟨p, q, hA, hV, rfl, hfz, hnd⟩ := hW
  rw [hvars] at hV
  obtain ⟨rfl, rfl⟩ := trodVars_none hV
  have hlt : ∀ x ∈ p, x.block < W.heap.size := fun x hx => hW'.lt x (by simp [hx])
  obtain ⟨us, h1, h2, hbulk⟩ := args_rep hseq hA (fun t ht => (hpar' t ht).2) (fun j t v ht hv => hval j t v (by simpa using ht) (by simpa using hv))
  refine (calls_of_fun (hfun us h1 (by rw [List.append_nil]; exact hbulk)) (fun p hp => by rw [hglob] at hp; cases hp) h2).mono ?_
  rintro e W' ⟨rfl, hb⟩
  have hdl : ds.length = fn.params.size := by
    have : ∀ {ts : List TypeId} {vs : List Value} {ds : List (DataW H)} {p : List MemPlace}, DataW.TrodAll enc C.prog W 0 (fun _ => true) true ts vs ds p → ds.length = ts.length := by
      intro ts
      induction ts with
      | nil => intro vs ds p h; cases vs <;> cases ds <;> simp_all [DataW.TrodAll]
      | cons t ts ih =>
        intro vs ds p h
        cases vs <;> cases ds <;> simp only [DataW.TrodAll] at h
        obtain ⟨p, q, _, h2, _⟩ := h
        simp [ih h2]
    simpa using this hA
  have hs := hspec ds hdl
  refine ⟨_, rfl, post_below (pa := p) (pv := []) hW' (fun b sp hd => ?_) (fun sp hsp => ?_) (fun sp _ => ?_) rfl hb (fun j t r ht hr => ?_)⟩
  · rw [List.append_nil, hs, hres]
    exact trodAll_mk1 ⟨1, by simp [DataW.trod, Value.cells, htb]⟩
  · rw [List.append_nil, hs]
    exact trodAll_below hl hb hpar' hA hlt fun x hx => hsp x (by simp [hx])
  · rw [List.append_nil, hs, hvars]
    try rfl
  · rw [hres] at ht hr
    cases j with
    | zero =>
      simp at ht
      subst ht
      simp [Value.resultList] at hr
      subst hr
      simp [Value.okWide, htb, Cell.okWide, Cell.ok]
    | succ j => simp at ht
/-- A law of plain data, told by value for every input, az the row's own statement. -/
theorem law_lifted {H : Type} {enc : TypeId × Value → H} {C : Checked} {os : Os} {f : FuncId} {fn : Func} {s : ChangeSpec} {conds : List PathCond} {apart fresh handsOn again : Bool} {tb : TypeId}
    (own : ownKnob C.prog.godebug = none) (started : os.Started) (noInit : C.prog.inits.idxOf? f = none) (hfn : C.prog.funcs[f]? = some fn)
    (witness : ∃ (w : World) (tape : Tape) (i : Input), w.os = os ∧ (w.forCall tape i).Shaped C.prog ∧ i.vars = [] ∧ Input.okWide C.prog (w.forCall tape i) .any w.heap.size f i ∧
      s.pre6 enc C.prog fn conds apart (w.forCall tape i).memory i.args ∧ (({} : Assume)).holds C.prog (lone (Frame.enter C.prog f i.args .normal) [] (w.forCall tape i)))
    (hl : laidOutB C.prog = true) (hseq : seqAll C.prog = true) (hpar : (fn.params.toList.all fun t => C.prog.readableRec t && decide (t < C.prog.types.size)) = true)
    (hvars : s.vars = []) (hspec : ∀ ds : List (DataW H), ds.length = fn.params.size → s.fn H ds = { results := [.lit (.bool true)], args := ds })
    (hres : fn.resultTypes = #[tb]) (htb : C.prog.underlying tb = some .bool)
    (hfun : ∀ us : List U, ArgsU C.prog fn.params.toList us → Fun C.prog f (us.map .u) (· = .u (.bool true))) (hglob : globs = []) :
    ReturnsInHanded {} C os f .any (s.pre6 enc C.prog fn conds apart) (s.post enc C.prog fn apart fresh handsOn again) := by
  refine returnsInHanded_of_change own started noInit hfn witness ?_
  intro W base args ds gs before hval hW _ _
  exact law_contract hl hseq hpar hvars hspec hres htb hglob W base args ds gs before hval hW fun us h _ => hfun us h
end Go.VL
namespace Go.VL
open Go
theorem getK_frzO (obs : List (Nat × Ob)) (i : Nat) (σ : D → Option U) (js : List Nat) (x : Nat) : getK ((del obs i).map fun p => if js.contains p.1 then (p.1, frzObS σ p.2) else p) x =
    if x = i then none else (getK obs x).map fun ob => if js.contains x then frzObS σ ob else ob := by
  have e : ((del obs i).map fun p => if js.contains p.1 then (p.1, frzObS σ p.2) else p) = (del obs i).map fun p => (p.1, if js.contains p.1 then frzObS σ p.2 else p.2) := by
    apply List.map_congr_left
    intro p _
    split <;> rfl
  rw [e, getK_map (fun x (o : Ob) => if js.contains x then frzObS σ o else o), getK_del]
  by_cases h : x = i <;> simp [h]
theorem frz_obs (s : St) (i : Nat) (σ : D → Option U) (js : List Nat) (x : Nat) : getK (s.frzS i σ js).obs x = if x = i then none else (getK s.obs x).map fun ob => if js.contains x then frzObS σ ob else ob := getK_frzO s.obs i σ js x
theorem frz_env (s : St) (i : Nat) (σ : D → Option U) (js : List Nat) (x : Nat) : getK (s.frzS i σ js).env x = (getK s.env x).map (VL.frzS σ) := getK_map (fun _ d => VL.frzS σ d) s.env x
def norm1 : U → U
  | .nil => .sl []
  | x => x
def normU : U → U
  | .nil => .sl []
  | .agg cs => .agg (cs.map norm1)
  | x => x
def normD : D → D
  | .u x => .u (normU x)
  | d => d
def normOb : Ob → Ob
  | .box cs => .box (cs.map normD)
  | ob => ob
def St.norm (s : St) : St := { s with env := s.env.map fun p => (p.1, normD p.2), obs := s.obs.map fun p => (p.1, normOb p.2) }
theorem getK_normO (obs : List (Nat × Ob)) (x : Nat) : getK (obs.map fun p => (p.1, normOb p.2)) x = (getK obs x).map normOb := getK_map (fun _ o => normOb o) obs x
theorem norm_obs (s : St) (x : Nat) : getK s.norm.obs x = (getK s.obs x).map normOb := getK_normO s.obs x
theorem norm_env (s : St) (x : Nat) : getK s.norm.env x = (getK s.env x).map normD := getK_map (fun _ d => normD d) s.env x
theorem norm1_rep {m : Mem} {x : U} {v : Value} (h : RepU m x v) : RepU m (norm1 x) v := by
  cases h with
  | nil => exact .slE none 0 fun _ => rfl
  | int k n => exact .int k n
  | bool b => exact .bool b
  | str l => exact .str l
  | oth v => exact .oth v
  | slE a c h => exact .slE a c h
  | sl rows b o sz c f h1 h2 h3 h4 h5 => exact .sl rows b o sz c f h1 h2 h3 h4 h5
  | row cells off b o f h1 h2 => exact .row cells off b o f h1 h2
  | agg cells vs h1 h2 => exact .agg cells vs h1 h2
  | map kk ag es0 es hp b ents clock f h1 h2 h3 h4 => exact .map kk ag es0 es hp b ents clock f h1 h2 h3 h4
theorem normU_rep {m : Mem} {x : U} {v : Value} (h : RepU m x v) : RepU m (normU x) v := by
  cases h with
  | map kk ag es0 es hp b ents clock f h1 h2 h3 h4 => exact .map kk ag es0 es hp b ents clock f h1 h2 h3 h4
  | nil => exact .slE none 0 fun _ => rfl
  | int k n => exact .int k n
  | bool b => exact .bool b
  | str l => exact .str l
  | oth v => exact .oth v
  | slE a c h => exact .slE a c h
  | sl rows b o sz c f h1 h2 h3 h4 h5 => exact .sl rows b o sz c f h1 h2 h3 h4 h5
  | row cells off b o f h1 h2 => exact .row cells off b o f h1 h2
  | agg cells vs h1 h2 =>
    refine .agg _ vs (by simpa using h1) fun j u hj => ?_
    rw [List.getElem?_map] at hj
    cases hc : cells[j]? with
    | none => rw [hc] at hj; cases hj
    | some e => rw [hc] at hj; cases hj; exact norm1_rep (h2 j e hc)
theorem normD_rep {k : Kr} {d : D} {v : Value} (h : Rep k d v) : Rep k (normD d) v := by
  cases h with
  | u x v h => exact .u _ _ (normU_rep h)
  | any v => exact .any v
  | ptr i off b c h => exact .ptr i off b c h
  | vec i len h hh => exact .vec i len h hh
  | mp i b c h => exact .mp i b c h
  | elt i sz idx off b c h => exact .elt i sz idx off b c h
  | fnc f caps vs hl hr => exact .fnc f caps vs hl hr
  | agg cells vs hl hr => exact .agg cells vs hl hr
  | tup cells vs hl hr => exact .tup cells vs hl hr
theorem Wk.norm {Γ : Ctx} (s : St) : Wk Γ s s.norm := by
  intro k a w hin hs
  have ho : ∀ i ob, getK s.norm.obs i = some ob → ∃ ob0, getK s.obs i = some ob0 ∧ ob = normOb ob0 := fun i ob hi => by
    have : getK (s.obs.map fun p => (p.1, normOb p.2)) i = some ob := hi
    rw [getK_map (fun _ o => normOb o)] at this
    cases hc : getK s.obs i with
    | none => rw [hc] at this; cases this
    | some o => rw [hc] at this; cases this; exact ⟨o, rfl, rfl⟩
  refine ⟨k, hin, ⟨⟨hs.sat.mem, fun i ob hi => ?_, fun i j x y g g' b hx hy hij => ?_⟩, hs.defers, hs.size, fun x d hx => ?_, hs.hdr⟩⟩
  · obtain ⟨ob0, h1, rfl⟩ := ho i ob hi
    obtain ⟨g, h2, h3, h4⟩ := hs.sat.ob i ob0 h1
    refine ⟨g, h2, h3, ?_⟩
    cases ob0 with
    | box cs =>
      obtain ⟨b, vs, t, e, h5, h6, h7⟩ := h4
      refine ⟨b, vs, t, e, h5, by simpa using h6, fun j d hj => ?_⟩
      rw [List.getElem?_map] at hj
      cases hc : cs[j]? with
      | none => rw [hc] at hj; cases hj
      | some e => rw [hc] at hj; cases hj; exact ⟨(h7 j e hc).1, normD_rep (h7 j e hc).2⟩
    | vec e sz rows => exact h4
    | map kk ag es => exact h4
    | it => exact h4
  · obtain ⟨o1, h1, _⟩ := ho i x hx
    obtain ⟨o2, h2, _⟩ := ho j y hy
    exact hs.sat.apart i j o1 o2 g g' b h1 h2 hij
  · have hx' : getK (s.env.map fun p => (p.1, normD p.2)) x = some d := hx
    rw [getK_map (fun _ d => normD d)] at hx'
    cases hc : getK s.env x with
    | none => rw [hc] at hx'; cases hx'
    | some e => rw [hc] at hx'; cases hx'; exact ⟨(hs.env x e hc).1, normD_rep (hs.env x e hc).2⟩
end Go.VL
namespace Go.VL
open Go
def frz1 (s : St) : List Nat → Option St
  | [] => none
  | i :: l => match getK s.obs i with
    | some (.vec _ _ rows) => match allU2 rows with
      | some us => some (s.frz i us (s.obs.map (·.1)))
      | none => frz1 s l
    | some (.map kk ag es) => match allUE es with
      | some us => some (s.frzS i (fzMap i kk ag us) (s.obs.map (·.1)))
      | none => frz1 s l
    | _ => frz1 s l
def frzN : Nat → St → St
  | 0, s => s
  | n + 1, s => match frz1 s (s.obs.map (·.1)) with
    | some s' => frzN n s'
    | none => s
theorem Wk.frz1 {Γ : Ctx} {s s' : St} : ∀ {l : List Nat}, frz1 s l = some s' → Wk Γ s s'
  | [], h => by cases h
  | i :: l, h => by
    rw [VL.frz1] at h
    split at h
    · rename_i e sz rows hg
      split at h
      · rename_i us hu
        cases h
        exact Wk.frz i _ hg hu
      · exact Wk.frz1 h
    · rename_i kk ag es hg
      split at h
      · rename_i us hu
        cases h
        exact Wk.frzM i _ hg hu
      · exact Wk.frz1 h
    · exact Wk.frz1 h
theorem Wk.frzN {Γ : Ctx} : ∀ (n : Nat) (s : St), Wk Γ s (frzN n s)
  | 0, s => .refl s
  | n + 1, s => by
    rw [VL.frzN]
    split
    · rename_i s' h
      exact (Wk.frz1 h).trans (Wk.frzN n s')
    · exact .refl s
theorem EndW.frzN {P Γ fn n0 post e s} (n : Nat) (h : EndW P Γ fn n0 post e (frzN n s)) : EndW P Γ fn n0 post e s := .wk _ (Wk.frzN n s) h
theorem EndW.norm {P Γ fn n0 post e s} (h : EndW P Γ fn n0 post e s.norm) : EndW P Γ fn n0 post e s := .wk _ (Wk.norm s) h
/-- A variable told az a value. -/
def frzB (i : Nat) (s : St) : St := match getK s.obs i with
  | some (.box cs) => match allU cs with
    | some us => s.frzS i (fzBox i us) (s.obs.map (·.1))
    | none => s
  | _ => s
theorem Wk.frzBx {Γ : Ctx} (i : Nat) (s : St) : Wk Γ s (VL.frzB i s) := by
  unfold VL.frzB
  split
  · rename_i cs hg
    split
    · rename_i us hu
      exact Wk.frzB i _ hg hu
    · exact .refl s
  · exact .refl s
theorem EndW.frzB {P Γ fn n0 post e s} (i : Nat) (h : EndW P Γ fn n0 post e (VL.frzB i s)) : EndW P Γ fn n0 post e s := .wk _ (Wk.frzBx i s) h
end Go.VL
namespace Go.VL
open Go
theorem cg_H {P Γ l s s' k} (h : s = s') : H P Γ l s k = H P Γ l s' k := by rw [h]
theorem cg_hcons {P Γ o r s s' k} (h : s = s') : hcons P Γ o r s k = hcons P Γ o r s' k := by rw [h]
theorem cg_HD {P l s s' k} (h : s = s') : HD P l s k = HD P l s' k := by rw [h]
theorem cg_HD2 {P l s s' fp fp' C k} (h : s = s') (h' : fp = fp') : HD2 P l s fp C k = HD2 P l s' fp' C k := by rw [h, h']
theorem cg_V {P Γ c s s' Q} (h : s = s') : V P Γ c s Q = V P Γ c s' Q := by rw [h]
theorem cg_RunK {P Γ Q k e s s'} (h : s = s') : RunK P Γ Q k e s = RunK P Γ Q k e s' := by rw [h]
theorem cg_LoopW {α : Type} {Γ : Ctx} {S : α → St} {μ : α → Nat} {x : α} {s s' : St} (h : s = s') : LoopW Γ S μ x s = LoopW Γ S μ x s' := by rw [h]
theorem cg_LoopI {α : Type} {n0 : Nat} {S : α → St} {μ : α → Nat} {x : α} {s s' : St} (h : s = s') : LoopI n0 S μ x s = LoopI n0 S μ x s' := by rw [h]
attribute [congr] cg_H cg_hcons cg_HD cg_HD2 cg_V cg_RunK cg_LoopW cg_LoopI
theorem RK_seq {P Γ Q b k s} : RunK P Γ Q (.seq b k) .normal s = V P Γ b s (RunK P Γ Q k) := rfl
theorem RK_seq_ret {P Γ Q b k s} : RunK P Γ Q (.seq b k) .ret s = RunK P Γ Q k .ret s := rfl
theorem RK_seq_exit {P Γ Q b k s i} : RunK P Γ Q (.seq b k) (.exit i) s = RunK P Γ Q k (.exit i) s := rfl
theorem RK_blk {P Γ Q i k s} : RunK P Γ Q (.blk i k) .normal s = RunK P Γ Q k .normal s := rfl
theorem RK_blk_ret {P Γ Q i k s} : RunK P Γ Q (.blk i k) .ret s = RunK P Γ Q k .ret s := rfl
theorem RK_blk_exit {P Γ Q i j k s} : RunK P Γ Q (.blk i k) (.exit j) s = if j = i then RunK P Γ Q k .normal s else RunK P Γ Q k (.exit j) s := rfl
theorem RK_loop {P Γ Q I k s} : RunK P Γ Q (.loop I k) .normal s = I s := rfl
theorem RK_loop_ret {P Γ Q I k s} : RunK P Γ Q (.loop I k) .ret s = RunK P Γ Q k .ret s := rfl
theorem RK_loop_exit {P Γ Q I k s i} : RunK P Γ Q (.loop I k) (.exit i) s = RunK P Γ Q k (.exit i) s := rfl
theorem RK_done {P Γ Q e s} : RunK P Γ Q .done e s = Q e s := rfl
/-- Control, told az a step. -/
def vstep (P : Program) (Γ : Ctx) (Q : Exit → St → Prop) : Code → Kt → St → Prop
  | .seq a b, k, s => vstep P Γ Q a (.seq b k) s
  | .block id c, k, s => vstep P Γ Q c (.blk id k) s
  | .skip, k, s => RunK P Γ Q k .normal s
  | .label _, k, s => RunK P Γ Q k .normal s
  | .exit id, k, s => RunK P Γ Q k (.exit id) s
  | .ret, k, s => RunK P Γ Q k .ret s
  | .cond c x y, k, s => match opd s c with
    | .u (.bool t) => (t = true → V P Γ x s (RunK P Γ Q k)) ∧ (t = false → V P Γ y s (RunK P Γ Q k))
    | _ => False
  | .region _ l false, k, s => match stripL l l.toList with | some l' => H P Γ l' s (RunK P Γ Q k .normal) | none => False
  | c, k, s => V P Γ c s (RunK P Γ Q k)
theorem V_step {P Γ Q} : ∀ {c : Code} {k : Kt} {s : St}, vstep P Γ Q c k s → V P Γ c s (RunK P Γ Q k)
  | .seq a b, k, s, h => V_seq (V_step (c := a) (by rw [vstep] at h; exact h))
  | .block id c, k, s, h => V_block (V_step (c := c) (by rw [vstep] at h; exact h))
  | .skip, k, s, h => V_skip (by rw [vstep] at h; exact h)
  | .label _, k, s, h => V_label (by rw [vstep] at h; exact h)
  | .exit id, k, s, h => V_exit (by rw [vstep] at h; exact h)
  | .ret, k, s, h => V_ret (by rw [vstep] at h; exact h)
  | .cond c x y, k, s, h => by
    rw [vstep] at h
    split at h
    · rename_i t ht
      exact V_cond ht h.1 h.2
    · exact h.elim
  | .region id l false, k, s, h => by
    rw [vstep] at h
    have := V_region1 (P := P) (Γ := Γ) (s := s) (Q := Q) (kt := k) (id := id) (l := l.toList) fun K hK => by
      split at h
      · rename_i l' hl
        simp only [Array.toArray_toList]
        rw [hl]
        exact fun all ops e K' a w h1 h2 Q' hQ => h all ops e K' a w h1 h2 Q' fun K2 a2 w2 s2 h3 h4 h5 => hQ K2 a2 w2 s2 h3 h4 (hK _ h5)
      · exact h.elim
    simpa using this
  | .region _ _ true, k, s, h => by rw [vstep] at h; exact h; all_goals simp
  | .loop c, k, s, h => by rw [vstep] at h; exact h; all_goals simp
  | .rangeFunc .., k, s, h => by rw [vstep] at h; exact h; all_goals simp
  | .scope .., k, s, h => by rw [vstep] at h; exact h; all_goals simp
  | .goto .., k, s, h => by rw [vstep] at h; exact h; all_goals simp
  | .refuse .., k, s, h => by rw [vstep] at h; exact h; all_goals simp
theorem cg_vstep {P Γ Q c k s s'} (h : s = s') : vstep P Γ Q c k s = vstep P Γ Q c k s' := by rw [h]
attribute [congr] cg_vstep
section
variable {P : Program} {Γ : Ctx} {Q : Exit → St → Prop} {k : Kt} {s : St}
theorem vs_seq {a b : Code} : vstep P Γ Q (.seq a b) k s = vstep P Γ Q a (.seq b k) s := by rw [vstep]
theorem vs_block {i} {a : Code} : vstep P Γ Q (.block i a) k s = vstep P Γ Q a (.blk i k) s := by rw [vstep]
theorem vs_cond {c x y} : vstep P Γ Q (.cond c x y) k s = match opd s c with
    | .u (.bool t) => (t = true → V P Γ x s (RunK P Γ Q k)) ∧ (t = false → V P Γ y s (RunK P Γ Q k))
    | _ => False := by rw [vstep]
theorem vs_region {i} {l : List Oper} : vstep P Γ Q (.region i l.toArray false) k s = match stripL l.toArray l with | some l' => H P Γ l' s (RunK P Γ Q k .normal) | none => False := by rw [vstep]
theorem vs_loop {c} : vstep P Γ Q (.loop c) k s = V P Γ (.loop c) s (RunK P Γ Q k) := by rw [vstep] <;> simp
theorem vs_draw {i l} : vstep P Γ Q (.region i l true) k s = V P Γ (.region i l true) s (RunK P Γ Q k) := by rw [vstep] <;> simp
theorem V_sseq {a b : Code} (h : vstep P Γ Q a (.seq b k) s) : V P Γ (.seq a b) s (RunK P Γ Q k) := V_seq (V_step h)
theorem V_sblock {i} {a : Code} (h : vstep P Γ Q a (.blk i k) s) : V P Γ (.block i a) s (RunK P Γ Q k) := V_block (V_step h)
theorem V_scond {c x y} (h : vstep P Γ Q (.cond c x y) k s) : V P Γ (.cond c x y) s (RunK P Γ Q k) := V_step h
theorem V_sregion {i} {l : List Oper} (h : vstep P Γ Q (.region i l.toArray false) k s) : V P Γ (.region i l.toArray false) s (RunK P Γ Q k) := V_step h
end
def wkO (s : St) (nx : Nat) : List (Nat × Ob) → Prop
  | [] => True
  | p :: l => (p.1 < nx ∧ getK s.obs p.1 = some p.2 ∧ p.2.under nx = true) ∧ wkO s nx l
def wkU (nx : Nat) : List (Nat × D) → Prop
  | [] => True
  | p :: l => p.2.under nx = true ∧ wkU nx l
theorem wkO_get {s nx} : ∀ {l : List (Nat × Ob)} {x ob}, wkO s nx l → getK l x = some ob → x < nx ∧ getK s.obs x = some ob ∧ ob.under nx = true
  | [], x, ob, _, h => by simp [getK] at h
  | (y, e) :: l, x, ob, hw, h => by
    rw [getK_cons] at h
    by_cases hx : x = y
    · rw [if_pos hx] at h; cases h; subst hx; exact hw.1
    · rw [if_neg hx] at h; exact wkO_get hw.2 h
theorem wkU_get {nx} : ∀ {l : List (Nat × D)} {x d}, wkU nx l → getK l x = some d → d.under nx = true
  | [], x, d, _, h => by simp [getK] at h
  | (y, e) :: l, x, d, hw, h => by
    rw [getK_cons] at h
    by_cases hx : x = y
    · rw [if_pos hx] at h; cases h; subst hx; exact hw.1
    · rw [if_neg hx] at h; exact wkU_get hw.2 h
theorem Wk.cut {Γ : Ctx} {s s' : St} (hn : s'.n = s.n) (hx : Γ.n0 ≤ s'.next) (ho : wkO s s'.next s'.obs) (hu : wkU s'.next s'.env) (he : wkE s s'.env) : Wk Γ s s' := by
  intro K0 a w hin0 hs0
  let s1 : St := { s with env := s'.env }
  obtain ⟨K1, hin1, hs1⟩ := (Wk.env (s := s) (s' := s1) (Γ := Γ) rfl rfl rfl he) K0 a w hin0 hs0
  refine ⟨_, Sim.weak (ρ := fun i => i) hin1 hs1 ⟨hn, fun x d' h => ⟨?_, wkU_get hu h⟩, fun x d' h => (hs1.env x d' h).1, fun i ob' h => ?_, fun i j ob ob' _ _ e => e, fun i hi => ⟨rfl, by omega⟩⟩⟩
  · have : s1.at x = d' := by show (getK s'.env x).getD .any = d'; rw [h]; rfl
    rw [this]
    exact D.le_id d'
  · obtain ⟨h1, h2, h3⟩ := wkO_get ho h
    exact ⟨h1, ob', h2, Ob.le_id ob', h3⟩
theorem under_rowsD (n : Nat) (us : List (List U)) : ((rowsD us).all fun r => r.all (·.under n)) = true := by
  simp [rowsD, List.all_eq_true, D.under]
theorem under_entD (n : Nat) (us : List (Key × List U)) : ((entD us).all fun p => p.2.all (·.under n)) = true := by
  simp [entD, List.all_eq_true, D.under]
def pureRow : List D → Prop
  | [] => True
  | .u _ :: l => pureRow l
  | _ => False
def pureRows : List (List D) → Prop
  | [] => True
  | r :: l => pureRow r ∧ pureRows l
theorem pureRow_out : ∀ {r : List D}, pureRow r → ∀ c ∈ r, ∃ x, c = D.u x
  | [], _, c, hc => by cases hc
  | d :: l, h, c, hc => by
    cases d <;> simp only [pureRow] at h
    rcases List.mem_cons.1 hc with rfl | hc
    · exact ⟨_, rfl⟩
    · exact pureRow_out h c hc
theorem pureRows_out : ∀ {r : List (List D)}, pureRows r → uRows r
  | [], _ => uRows_nil
  | r :: l, h => uRows_cons (pureRow_out h.1) (pureRows_out h.2)
@[simp] theorem pureRow_map (l : List U) : pureRow (l.map .u) = True := by
  induction l with
  | nil => simp [pureRow]
  | cons a l ih => simpa [pureRow] using ih
@[simp] theorem pureRows_rowsD (l : List (List U)) : pureRows (rowsD l) = True := by
  induction l with
  | nil => simp [pureRows]
  | cons a l ih => simpa [pureRows] using ih
@[simp] theorem pureRows_append (a b : List (List D)) : pureRows (a ++ b) = (pureRows a ∧ pureRows b) := by
  induction a with
  | nil => simp [pureRows]
  | cons r l ih => simp [pureRows, ih, and_assoc]
def pureEs (es : List (Key × List D)) : Prop := ∃ us, es = entD us
def leU (ρ : Nat → Nat) (nx : Nat) : List D → List D → Prop
  | [], [] => True
  | a :: az, b :: bs => (D.le ρ a b ∧ b.under nx = true) ∧ leU ρ nx az bs
  | _, _ => False
def fixRows (ρ : Nat → Nat) (nx : Nat) (B : List (List D)) : Prop := ∀ r ∈ B, ∀ c ∈ r, c = c.ren ρ ∧ c.under nx = true
def obR (ρ : Nat → Nat) (nx : Nat) : Ob → Ob → Prop
  | .box cs, .box cs' => leU ρ nx cs cs'
  | .vec e sz A, .vec e' sz' B => e = e' ∧ sz = sz' ∧ A = B ∧ (pureRows B ∨ fixRows ρ nx B)
  | .map kk ag es, .map kk' ag' es' => kk = kk' ∧ ag = ag' ∧ es = es' ∧ pureEs es'
  | .it kk ag es left cur, .it kk' ag' es' left' cur' => kk = kk' ∧ ag = ag' ∧ es = es' ∧ left = left' ∧ cur = cur'
  | _, _ => False
def wkR (s : St) (ρ : Nat → Nat) (nx : Nat) : List (Nat × Ob) → Prop
  | [] => True
  | p :: l => (p.1 < nx ∧ (match getK s.obs (ρ p.1) with | some ob => obR ρ nx ob p.2 | none => False)) ∧ wkR s ρ nx l
def wkER (s : St) (ρ : Nat → Nat) (nx : Nat) : List (Nat × D) → Prop
  | [] => True
  | p :: l => ((match getK s.env p.1 with | some d => D.le ρ d p.2 | none => False) ∧ p.2.under nx = true) ∧ wkER s ρ nx l
theorem leU_out {ρ nx} : ∀ {a b : List D}, leU ρ nx a b → leL ρ a b ∧ b.all (·.under nx) = true
  | [], [], _ => ⟨trivial, rfl⟩
  | a :: az, b :: bs, h => by
    obtain ⟨h1, h2⟩ := leU_out h.2
    exact ⟨⟨h.1.1, h1⟩, by simp [h.1.2, h2]⟩
  | [], b :: bs, h => h.elim
  | a :: az, [], h => h.elim
theorem obR_out {ρ nx ob ob'} (h : obR ρ nx ob ob') : Ob.le ρ ob ob' ∧ ob'.under nx = true := by
  cases ob <;> cases ob' <;> simp only [obR] at h
  · obtain ⟨h1, h2⟩ := leU_out h
    exact ⟨Ob.le_box h1, h2⟩
  · obtain ⟨rfl, rfl, rfl, h⟩ := h
    rcases h with h | h
    · have hu := pureRows_out h
      exact ⟨Ob.le_vec_refl hu, Ob.under_vec hu⟩
    · refine ⟨⟨rfl, rfl, Nat.le_refl _, fun i r r' hi hi' => ?_⟩, ?_⟩
      · rw [hi] at hi'
        cases hi'
        refine ⟨rfl, fun j c c' hj hj' => ?_⟩
        rw [hj] at hj'
        cases hj'
        exact .inr (.inl (h r (List.mem_of_getElem? hi) c (List.mem_of_getElem? hj)).1)
      · simp only [Ob.under, List.all_eq_true]
        exact fun r hr c hc => (h r hr c hc).2
  · obtain ⟨rfl, rfl, rfl, us, rfl⟩ := h
    refine ⟨⟨rfl, rfl, rfl, fun i p p' hi hi' => ?_⟩, under_entD _ _⟩
    rw [hi] at hi'
    cases hi'
    refine ⟨rfl, fun j c c' hj hj' => ?_⟩
    rw [hj] at hj'
    cases hj'
    rw [entD, List.getElem?_map] at hi
    cases hq : us[i]? with
    | none => rw [hq] at hi; cases hi
    | some q =>
      rw [hq] at hi
      cases hi
      simp only [List.getElem?_map] at hj
      cases hx : q.2[j]? with
      | none => rw [hx] at hj; cases hj
      | some x => rw [hx] at hj; cases hj; exact .inr (.inl (by simp [D.ren]))
  · exact ⟨h, rfl⟩
theorem wkR_out {s ρ nx} : ∀ {l : List (Nat × Ob)}, wkR s ρ nx l → ∀ x ob', getK l x = some ob' → x < nx ∧ ∃ ob, getK s.obs (ρ x) = some ob ∧ Ob.le ρ ob ob' ∧ ob'.under nx = true
  | [], _, x, d', h => by simp [getK] at h
  | (y, d) :: l, h, x, d', hx => by
    rw [getK_cons] at hx
    by_cases e : x = y
    · rw [if_pos e] at hx
      cases hx
      subst e
      obtain ⟨⟨h1, h2⟩, _⟩ := h
      refine ⟨h1, ?_⟩
      split at h2
      · rename_i ob hg
        exact ⟨ob, hg, obR_out h2⟩
      · exact h2.elim
    · rw [if_neg e] at hx; exact wkR_out h.2 x d' hx
theorem wkER_out {s ρ nx} : ∀ {l : List (Nat × D)}, wkER s ρ nx l → ∀ x d', getK l x = some d' → (∃ d, getK s.env x = some d ∧ D.le ρ d d') ∧ d'.under nx = true
  | [], _, x, d', h => by simp [getK] at h
  | (y, d) :: l, h, x, d', hx => by
    rw [getK_cons] at hx
    by_cases e : x = y
    · rw [if_pos e] at hx
      cases hx
      subst e
      obtain ⟨⟨h1, h2⟩, _⟩ := h
      refine ⟨?_, h2⟩
      split at h1
      · rename_i d0 hg
        exact ⟨d0, hg, h1⟩
      · exact h1.elim
    · rw [if_neg e] at hx; exact wkER_out h.2 x d' hx
theorem Wk.ren {Γ : Ctx} {s s' : St} (ρ : Nat → Nat) (hn : s'.n = s.n) (hx : ∀ i, i < Γ.n0 → ρ i = i ∧ i < s'.next) (he : wkER s ρ s'.next s'.env) (ho : wkR s ρ s'.next s'.obs)
    (hi : ∀ i ∈ s'.obs.map (·.1), ∀ j ∈ s'.obs.map (·.1), ρ i = ρ j → i = j) : Wk Γ s s' := by
  intro K0 a w hin0 hs0
  refine ⟨_, Sim.weak (ρ := ρ) hin0 hs0 ⟨hn, fun x d' h => ?_, fun x d' h => ?_, fun i ob h => wkR_out ho i ob h, fun i j ob ob' hi' hj' e => hi i (getK_mem hi') j (getK_mem hj') e, hx⟩⟩
  · obtain ⟨⟨d, h1, h2⟩, h3⟩ := wkER_out he x d' h
    have : s.at x = d := by show (getK s.env x).getD .any = d; rw [h1]; rfl
    rw [this]
    exact ⟨h2, h3⟩
  · obtain ⟨⟨d, h1, h2⟩, h3⟩ := wkER_out he x d' h
    exact (hs0.env x d h1).1
theorem frz_entD (σ : D → Option U) (us : List (Key × List U)) : (entD us).map (fun p => (p.1, p.2.map (frzS σ))) = entD us := by
  simp only [entD, List.map_map]
  apply List.map_congr_left
  intro p _
  have : (p.2.map D.u).map (frzS σ) = p.2.map D.u := by
    rw [List.map_map]
    apply List.map_congr_left
    intro x _
    simp [frzS]
  simp [Function.comp, frzS]
theorem frz_rowsD (σ : D → Option U) (us : List (List U)) : (rowsD us).map (fun r => r.map (frzS σ)) = rowsD us := by
  simp only [rowsD, List.map_map]
  apply List.map_congr_left
  intro p _
  simp [Function.comp, frzS]
end Go.VL
namespace Go.Proofs.Ytmoohdpnmkkgpaa
open Go Go.VL
attribute [local simp] hcons hstep evPure opd uOf putOK St.put St.at getK binD binI binS binB nilD aggD eqUs cmpK lookD lookR rangeD Go.VL.nextD entryD keyD valU keyU lookK mkV entD_nil lookK_entD updK_entD1 updK_entD3 allUE allUE_entD makeMapD mapUpdD mapEff updK valM Key.kk shiftI arith unD convD pickD loadD cellsAt fieldAddrD fieldD indexAddrD indexD sliceD cutD lenD minmaxD nilCheckD buildD fillD cellsD isOne ones setAll mkAgg allU allocD boxD storeD St.add buildSliceD appendD rowsOf makeD setOb getK_setOb getK_del getK_cons stripL strip guardTmp entry chunks zcells valD argsV argsW argW argU1 argU0 argsU0 argsU1 calleeOf scalarD scalarU delAll effD St.effS RK_seq RK_seq_ret RK_seq_exit RK_blk RK_blk_ret RK_blk_exit RK_loop RK_loop_ret RK_loop_exit RK_done vs_seq vs_block vs_cond vs_region vs_loop vs_draw applyW mkD rdIds lentIds callOf calleeOf freeOp D.ids Op.operands Call.operands isEffOp makeIfD typeAssertD conc concs conc1 uOfV panicD IntKind.bits allU2 List.take_of_length_le List.range_succ
attribute [local irreducible] V G H HD HD2 RunK Eff CallP CallV EndOK Fun Ret FinOK LoopI LoopW EndW
inductive Exp where
  | mk (op n unit : Int) (s : List UInt8) (args : List Exp)
  deriving Inhabited
def Exp.row : Exp → List U
  | .mk op n u s args => [.int .i64 op, .int .i64 n, .int .i64 u, .str s, .sl (args.map fun e => e.row)]
def Exp.op : Exp → Int | .mk op _ _ _ _ => op
def Exp.n : Exp → Int | .mk _ n _ _ _ => n
def Exp.unit : Exp → Int | .mk _ _ u _ _ => u
def Exp.s : Exp → List UInt8 | .mk _ _ _ s _ => s
def Exp.args : Exp → List Exp | .mk _ _ _ _ args => args
theorem Exp.row_eq (e : Exp) : e.row = [.int .i64 e.op, .int .i64 e.n, .int .i64 e.unit, .str e.s, .sl (e.args.map Exp.row)] := by
  cases e with
  | mk op n u s args => rw [Exp.row]; rfl
structure Var where
  name : List UInt8
  unit : Int
  n : Int
  deriving DecidableEq, Inhabited
structure Let where
  name : List UInt8
  body : Exp
  deriving Inhabited
def Var.row (v : Var) : List U := [.str v.name, .int .i64 v.unit, .int .i64 v.n]
def Let.row (l : Let) : List U := .str l.name :: l.body.row
def vars (l : List Var) : U := .sl (l.map Var.row)
def lets (l : List Let) : U := .sl (l.map Let.row)
def isLetter (c : UInt8) : Bool := decide (97 ≤ c.toNat) && decide (c.toNat ≤ 122)
def isDigit (c : UInt8) : Bool := decide (48 ≤ c.toNat) && decide (c.toNat ≤ 57)
theorem letter_fun (c : UInt8) : Fun Try.prog 64 [.u (.int .u8 c.toNat)] (· = .u (.bool (isLetter c))) := by
  unfold isLetter
  (refine Fun.of_body Try.func64 rfl (by simp) fun Γ hn => ?_); simp only [entry, List.zipIdx_cons, List.zipIdx_nil, List.map_cons, List.map_nil, Nat.zero_add, Try.ntmps64]
  repeat' (first
    | (refine H_cons ?_; simp)
    | (refine H_nil ?_; simp)
    | (refine V_sseq ?_; simp)
    | (refine V_ret ?_; simp only [RunK])
    | (refine ⟨fun hc => ?_, fun hc => ?_⟩ <;> (try (exfalso; omega)))
    | fail)
  all_goals
    (refine EndOK.val (.inr rfl) ?_; simp [resD, oneOrTup, pureD, Try.results64])
  all_goals first | omega | (simp; omega) | (rw [Bool.eq_iff_iff]; simp; omega)
theorem digit_fun (c : UInt8) : Fun Try.prog 67 [.u (.int .u8 c.toNat)] (· = .u (.bool (isDigit c))) := by
  unfold isDigit
  (refine Fun.of_body Try.func67 rfl (by simp) fun Γ hn => ?_); simp only [entry, List.zipIdx_cons, List.zipIdx_nil, List.map_cons, List.map_nil, Nat.zero_add, Try.ntmps67]
  repeat' (first
    | (refine H_cons ?_; simp)
    | (refine H_nil ?_; simp)
    | (refine V_sseq ?_; simp)
    | (refine V_ret ?_; simp only [RunK])
    | (refine ⟨fun hc => ?_, fun hc => ?_⟩ <;> (try (exfalso; omega)))
    | fail)
  all_goals
    (refine EndOK.val (.inr rfl) ?_; simp [resD, oneOrTup, pureD, Try.results67])
  all_goals first | omega | (simp; omega) | (rw [Bool.eq_iff_iff]; simp; omega)
theorem word1_fun (c : UInt8) : Fun Try.prog 66 [.u (.int .u8 c.toNat)] (· = .u (.bool (isLetter c || isDigit c))) := by
  (refine Fun.of_body Try.func66 rfl (by simp) fun Γ hn => ?_); simp only [entry, List.zipIdx_cons, List.zipIdx_nil, List.map_cons, List.map_nil, Nat.zero_add, Try.ntmps66]
  repeat' (first
    | (refine H_cons ?_; simp)
    | (refine H_nil ?_; simp)
    | (refine V_sseq ?_; simp)
    | (refine V_ret ?_; simp only [RunK])
    | (refine ⟨fun hc => ?_, fun hc => ?_⟩ <;> (try (exfalso; omega)))
    | (refine CallP.fun_ (letter_fun c) (by first | rfl | fail) (by first | assumption | (simp; done) | fail) (by first | (simp; done) | (simp; rfl) | fail) (by first | (simp; done) | fail) (fun d hd => ?_); subst hd; (try simp))
    | (refine CallP.fun_ (digit_fun c) (by first | rfl | fail) (by first | assumption | (simp; done) | fail) (by first | (simp; done) | (simp; rfl) | fail) (by first | (simp; done) | fail) (fun d hd => ?_); subst hd; (try simp))
    | fail)
  all_goals
    (refine EndOK.val (.inr rfl) ?_; simp [resD, oneOrTup, pureD, Try.results66])
  all_goals simp_all
def spanL (p : UInt8 → Bool) (l : List UInt8) : Nat := (l.takeWhile p).length
theorem spanL_at {p : UInt8 → Bool} {l : List UInt8} {i : Nat} (h : ∀ c ∈ l.take i, p c = true) (hi : i ≤ l.length) (he : i = l.length ∨ ∃ c, l[i]? = some c ∧ p c = false) : spanL p l = i := by
  unfold spanL
  induction l generalizing i with
  | nil => simp at hi; simp [hi]
  | cons a l ih =>
    cases i with
    | zero =>
      rcases he with he | ⟨c, h1, h2⟩
      · simp at he
      · simp at h1; subst h1; simp [h2]
    | succ i =>
      have ha : p a = true := h a (by simp)
      rw [List.takeWhile_cons, if_pos ha, List.length_cons]
      rw [ih (i := i) (fun c hc => h c (by simp [hc])) (by simpa using hi) (by simpa using he)]
/-- The first place where something holds; -1 without one. -/
def idxP {α : Type} (p : α → Bool) : List α → Int → Int
  | [], _ => -1
  | x :: l, i => if p x = true then i else idxP p l (i + 1)
theorem idxP_at {α : Type} {p : α → Bool} {l : List α} {i : Nat} {x : α} {k : Int} (h : ∀ c ∈ l.take i, p c = false) (hx : l[i]? = some x) (hp : p x = true) : idxP p l k = k + i := by
  induction l generalizing i k with
  | nil => simp at hx
  | cons s l ih =>
    cases i with
    | zero => simp at hx; simp [idxP, hx, hp]
    | succ i =>
      rw [idxP, if_neg (by rw [h s (by simp)]; simp), ih (i := i) (fun c hc => h c (by simp [hc])) (by simpa using hx)]
      omega
theorem idxP_none {α : Type} {p : α → Bool} {l : List α} {k : Int} (h : ∀ c ∈ l, p c = false) : idxP p l k = -1 := by
  induction l generalizing k with
  | nil => rfl
  | cons s l ih => rw [idxP, if_neg (by rw [h s (by simp)]; simp), ih fun c hc => h c (by simp [hc])]
theorem idxP_any {α : Type} (p : α → Bool) (l : List α) : ∀ k : Int, 0 ≤ k → (0 ≤ idxP p l k ↔ l.any p = true) := by
  induction l with
  | nil => intro k hk; simp [idxP]
  | cons s l ih =>
    intro k hk
    by_cases h : p s = true
    · simp [idxP, h, hk]
    · rw [idxP, if_neg h, ih (k + 1) (by omega)]
      simp [h]
theorem take_succ_all {α : Type} {p : α → Prop} {l : List α} {i : Nat} {x : α} (hx : l[i]? = some x) (h : ∀ c ∈ l.take i, p c) (hp : p x) : ∀ c ∈ l.take (i + 1), p c := by
  obtain ⟨hi, rfl⟩ := List.getElem?_eq_some_iff.1 hx
  rw [List.take_succ_eq_append_getElem hi]
  intro c hc
  rcases List.mem_append.1 hc with hc | hc
  · exact h c hc
  · simp at hc; subst hc; exact hp
theorem span_fun (l : List UInt8) (hl : l.length ≤ 1000000) (f : FuncId) (p : UInt8 → Bool) (hf : ∀ c ∈ l, Fun Try.prog f [.u (.int .u8 c.toNat)] (· = .u (.bool (p c)))) (hcl : callable Try.prog f = true) :
    Fun Try.prog 65 [.u (.str l), .fnc (.func f) []] (· = .u (.int .i64 (spanL p l))) := by
  (refine Fun.of_body Try.func65 rfl (by simp) fun Γ hn => ?_); simp only [entry, List.zipIdx_cons, List.zipIdx_nil, List.map_cons, List.map_nil, Nat.zero_add, Try.ntmps65]
  repeat' (first
    | (refine H_cons ?_; simp)
    | (refine H_nil ?_; simp)
    | (refine V_sseq ?_; simp)
    | fail)
  refine V_loopF (α := { i : Nat // i ≤ l.length ∧ ∀ c ∈ l.take i, p c = true }) [0, 1] (fun i => [(5, .u (.int .i64 i.1))]) (fun i => l.length - i.1) ⟨0, by omega, by simp⟩ ?_ ?_
  · exact (Wk.env rfl rfl rfl (by simp [wkE, St.lp, keepE, getK_cons, getK] <;> (try (intros; simp_all; done)) <;> (try (intros; omega)) <;> (try grind)))
  rintro ⟨i, hi, hb⟩
  simp [St.lp, St.only, keepE, getK_cons, getK]
  rcases hx : l[i]? with _ | c
  · have hge : l.length ≤ i := by simpa using hx
    repeat' (first
    | (refine H_cons ?_; simp [hx])
    | (refine H_nil ?_; simp [hx])
    | (refine ⟨by omega, ?_⟩)
    | (refine V_sseq ?_; simp [hx])
    | (refine V_scond ?_; simp [hx])
    | (refine V_ret ?_; simp only [RunK])
    | (refine V_exit ?_; simp [RunK])
    | (intro hc <;> (try (exfalso; omega)))
    | fail)
    (refine EndOK.val (.inr rfl) ?_; simp [resD, oneOrTup, pureD, Try.results65])
    rw [spanL_at hb hi (.inl (by omega))]
  · have hlt := (List.getElem?_eq_some_iff.1 hx).1
    have h1 := hf c (List.mem_of_getElem? hx)
    repeat' (first
    | (refine H_cons ?_; simp [hx])
    | (refine H_nil ?_; simp [hx])
    | (refine ⟨by omega, ?_⟩)
    | (refine V_sseq ?_; simp [hx])
    | (refine V_scond ?_; simp [hx])
    | (refine V_sblock ?_; simp [hx])
    | (refine V_ret ?_; simp only [RunK])
    | (refine V_skip ?_; simp only [RunK])
    | (refine V_exit ?_; simp [RunK])
    | (refine ⟨?_, by omega⟩)
    | (refine ⟨fun hc => ?_, fun hc => ?_⟩ <;> (try (exfalso; omega)))
    | (intro hc <;> (try (exfalso; omega)))
    | (refine CallP.fun_ (h1) (by first | rfl | fail) (by first | assumption | (simp; done) | fail) (by first | (simp [hx]; done) | (simp [hx]; rfl) | fail) (by first | (simp; done) | fail) (fun d hd => ?_); subst hd; (try simp [hx]))
    | fail)
    · refine LoopW.next ⟨i + 1, by omega, take_succ_all hx hb (by assumption)⟩ (by simp; omega) ?_
      exact (Wk.env rfl rfl rfl (by simp [wkE, St.lp, keepE, getK_cons, getK] <;> (try (intros; simp_all; done)) <;> (try (intros; omega)) <;> (try grind)))
    · (refine EndOK.val (.inr rfl) ?_; simp [resD, oneOrTup, pureD, Try.results65])
      rw [spanL_at hb hi (.inr ⟨c, hx, by assumption⟩)]
def wordB (s : List UInt8) : Bool := match s with
  | [] => false
  | c :: _ => isLetter c && decide (s.length ≤ 20) && decide (spanL (fun c => isLetter c || isDigit c) s = s.length)
theorem word_fun (s : List UInt8) : Fun Try.prog 55 [.u (.str s)] (· = .u (.bool (wordB s))) := by
  cases s with
  | nil =>
    (refine Fun.of_body Try.func55 rfl (by simp) fun Γ hn => ?_); simp only [entry, List.zipIdx_cons, List.zipIdx_nil, List.map_cons, List.map_nil, Nat.zero_add, Try.ntmps55]
    repeat' (first
    | (refine H_cons ?_; simp)
    | (refine H_nil ?_; simp)
    | (refine V_sseq ?_; simp)
    | (refine V_scond ?_; simp)
    | (refine V_ret ?_; simp only [RunK])
    | fail)
    all_goals
      (refine EndOK.val (.inr rfl) ?_; simp [resD, oneOrTup, pureD, Try.results55])
    all_goals simp [wordB]
  | cons c s =>
    by_cases hl : s.length + 1 ≤ 20
    · have hs := span_fun (c :: s) (by simp; omega) 66 _ (fun c _ => word1_fun c) (by simp)
      (refine Fun.of_body Try.func55 rfl (by simp) fun Γ hn => ?_); simp only [entry, List.zipIdx_cons, List.zipIdx_nil, List.map_cons, List.map_nil, Nat.zero_add, Try.ntmps55]
      repeat' (first
    | (refine H_cons ?_; simp)
    | (refine H_nil ?_; simp)
    | (refine ⟨by omega, ?_⟩)
    | (refine V_sseq ?_; simp)
    | (refine V_scond ?_; simp)
    | (refine V_ret ?_; simp only [RunK])
    | (refine V_skip ?_; simp only [RunK])
    | (refine ⟨fun hc => ?_, fun hc => ?_⟩ <;> (try (exfalso; omega)))
    | (intro hc <;> (try (exfalso; omega)))
    | (refine CallP.fun_ (letter_fun c) (by first | rfl | fail) (by first | assumption | (simp; done) | fail) (by first | (simp; done) | (simp; rfl) | fail) (by first | (simp; done) | fail) (fun d hd => ?_); subst hd; (try simp))
    | (refine CallP.fun_ (hs) (by first | rfl | fail) (by first | assumption | (simp; done) | fail) (by first | (simp; done) | (simp; rfl) | fail) (by first | (simp; done) | fail) (fun d hd => ?_); subst hd; (try simp))
    | fail)
      all_goals
        (refine EndOK.val (.inr rfl) ?_; simp [resD, oneOrTup, pureD, Try.results55])
      all_goals
        simp [wordB, *]
        try omega
    · (refine Fun.of_body Try.func55 rfl (by simp) fun Γ hn => ?_); simp only [entry, List.zipIdx_cons, List.zipIdx_nil, List.map_cons, List.map_nil, Nat.zero_add, Try.ntmps55]
      repeat' (first
    | (refine H_cons ?_; simp)
    | (refine H_nil ?_; simp)
    | (refine V_sseq ?_; simp)
    | (refine V_scond ?_; simp)
    | (refine V_ret ?_; simp only [RunK])
    | (refine ⟨?_, by omega⟩)
    | (refine ⟨fun hc => ?_, fun hc => ?_⟩ <;> (try (exfalso; omega)))
    | (intro hc <;> (try (exfalso; omega)))
    | (refine CallP.fun_ (letter_fun c) (by first | rfl | fail) (by first | assumption | (simp; done) | fail) (by first | (simp; done) | (simp; rfl) | fail) (by first | (simp; done) | fail) (fun d hd => ?_); subst hd; (try simp))
    | fail)
      all_goals
        (refine EndOK.val (.inr rfl) ?_; simp [resD, oneOrTup, pureD, Try.results55])
      all_goals
        simp [wordB, *]
        try omega

def strs (l : List (List UInt8)) : U := .sl (l.map fun s => [.str s])
def idxS : List (List UInt8) → List UInt8 → Int → Int
  | [], _, _ => -1
  | s :: l, x, i => if x = s then i else idxS l x (i + 1)
theorem idxS_at {l : List (List UInt8)} {x : List UInt8} {i : Nat} {k : Int} (h : ∀ c ∈ l.take i, ¬ x = c) (hx : l[i]? = some x) : idxS l x k = k + i := by
  induction l generalizing i k with
  | nil => simp at hx
  | cons s l ih =>
    cases i with
    | zero => simp at hx; simp [idxS, hx]
    | succ i =>
      rw [idxS, if_neg (h s (by simp)), ih (i := i) (fun c hc => h c (by simp [hc])) (by simpa using hx)]
      omega
theorem idxS_none {l : List (List UInt8)} {x : List UInt8} {k : Int} (h : ∀ c ∈ l, ¬ x = c) : idxS l x k = -1 := by
  induction l generalizing k with
  | nil => rfl
  | cons s l ih => rw [idxS, if_neg (h s (by simp)), ih fun c hc => h c (by simp [hc])]
theorem indexS_fun (l : List (List UInt8)) (x : List UInt8) : Fun Try.prog 68 [.u (strs l), .u (.str x)] (· = .u (.int .i64 (idxS l x 0))) := by
  (refine Fun.of_body Try.func68 rfl (by simp) fun Γ hn => ?_); simp only [entry, List.zipIdx_cons, List.zipIdx_nil, List.map_cons, List.map_nil, Nat.zero_add, Try.ntmps68]
  simp only [strs]
  refine V_len (x := 0) rfl fun hl => ?_
  simp at hl
  repeat' (first
    | (refine H_cons ?_; simp)
    | (refine H_nil ?_; simp)
    | (refine V_sseq ?_; simp)
    | (refine V_sblock ?_; simp)
    | fail)
  refine V_loopF (α := { i : Nat // i ≤ l.length ∧ ∀ c ∈ l.take i, ¬ x = c }) [0, 1, 7] (fun i => [(8, .u (.int .i64 i.1))]) (fun i => l.length - i.1) ⟨0, by omega, by simp⟩ ?_ ?_
  · exact (Wk.env rfl rfl rfl (by simp [wkE, St.lp, keepE, getK_cons, getK] <;> (try (intros; simp_all; done)) <;> (try (intros; omega)) <;> (try grind)))
  rintro ⟨i, hi, hb⟩
  simp [St.lp, St.only, keepE, getK_cons, getK]
  rcases hx : l[i]? with _ | c
  · have hge : l.length ≤ i := by simpa using hx
    repeat' (first
    | (refine H_cons ?_; simp [hx])
    | (refine H_nil ?_; simp [hx])
    | (refine ⟨by omega, ?_⟩)
    | (refine V_sseq ?_; simp [hx])
    | (refine V_ret ?_; simp only [RunK])
    | (refine V_exit ?_; simp [RunK])
    | (intro hc <;> (try (exfalso; omega)))
    | fail)
    (refine EndOK.val (.inr rfl) ?_; simp [resD, oneOrTup, pureD, Try.results68])
    rw [List.take_of_length_le hge] at hb
    exact (idxS_none hb).symm
  · have hlt := (List.getElem?_eq_some_iff.1 hx).1
    by_cases hxc : x = c
    · subst hxc
      repeat' (first
    | (refine H_cons ?_; simp [hx])
    | (refine H_nil ?_; simp [hx])
    | (refine V_sseq ?_; simp [hx])
    | (refine V_scond ?_; simp [hx])
    | (refine V_ret ?_; simp only [RunK])
    | (refine V_skip ?_; simp only [RunK])
    | (refine ⟨?_, by omega⟩)
    | (intro hc <;> (try (exfalso; omega)))
    | fail)
      (refine EndOK.val (.inr rfl) ?_; simp [resD, oneOrTup, pureD, Try.results68])
      rw [idxS_at hb hx]
      omega
    · repeat' (first
    | (refine H_cons ?_; simp [hx, hxc])
    | (refine H_nil ?_; simp [hx, hxc])
    | (refine ⟨by omega, ?_⟩)
    | (refine V_sseq ?_; simp [hx, hxc])
    | (refine V_scond ?_; simp [hx, hxc])
    | (refine V_sregion ?_; simp [hx, hxc])
    | (refine V_skip ?_; simp only [RunK])
    | (refine ⟨?_, by omega⟩)
    | (intro hc <;> (try (exfalso; omega)))
    | fail)
      refine LoopW.next ⟨i + 1, by omega, take_succ_all hx hb hxc⟩ (by simp; omega) ?_
      exact (Wk.env rfl rfl rfl (by simp [wkE, St.lp, keepE, getK_cons, getK] <;> (try (intros; simp_all; done)) <;> (try (intros; omega)) <;> (try grind)))
theorem idxS_any (l : List (List UInt8)) (x : List UInt8) : ∀ k : Int, 0 ≤ k → decide (0 ≤ idxS l x k) = l.contains x := by
  induction l with
  | nil => intro k hk; simp [idxS]
  | cons s l ih =>
    intro k hk
    by_cases h : x = s
    · subst h; simp [idxS, hk]
    · rw [idxS, if_neg h, ih (k + 1) (by omega)]
      simp [h]
theorem containsS_fun (l : List (List UInt8)) (x : List UInt8) : Fun Try.prog 56 [.u (strs l), .u (.str x)] (· = .u (.bool (l.contains x))) := by
  have h1 := indexS_fun l x
  (refine Fun.of_body Try.func56 rfl (by simp) fun Γ hn => ?_); simp only [entry, List.zipIdx_cons, List.zipIdx_nil, List.map_cons, List.map_nil, Nat.zero_add, Try.ntmps56]
  simp only [strs] at h1 ⊢
  repeat' (first
    | (refine H_cons ?_; simp)
    | (refine H_nil ?_; simp)
    | (refine V_sseq ?_; simp)
    | (refine V_ret ?_; simp only [RunK])
    | (refine CallP.fun_ (h1) (by first | rfl | fail) (by first | assumption | (simp; done) | fail) (by first | (simp; done) | (simp; rfl) | fail) (by first | (simp; done) | fail) (fun d hd => ?_); subst hd; (try simp))
    | fail)
  (refine EndOK.val (.inr rfl) ?_; simp [resD, oneOrTup, pureD, Try.results56])
  have h2 := idxS_any l x 0 (by omega)
  simpa using h2
def words : List (List UInt8) := [[97, 110, 100], [98, 97, 99, 107, 115], [98, 105, 100, 100, 105, 110, 103], [99, 105, 114, 99, 108, 101], [99, 111, 105, 110, 115], [99, 111, 118, 101, 114], [100, 97, 121, 115], [100, 114, 97, 119], [100, 117, 101], [101, 108, 115, 101], [102, 97, 108, 115, 101], [102, 105, 110, 101], [102, 117, 110, 100], [103, 114, 97, 99, 101], [104, 111, 108, 100], [105, 102], [106, 111, 105, 110], [106, 117, 114, 121], [108, 101, 116], [109, 97, 120], [109, 105, 108, 108, 101], [109, 105, 110], [110, 101, 101, 100], [110, 111, 116], [111, 114], [111, 114, 100, 101, 114], [112, 97, 121], [112, 101, 114], [114, 111, 116, 97, 116, 105, 110, 103], [115, 97, 118, 105, 110, 103], [115, 101, 97, 108, 101, 100], [116, 104, 101, 110], [116, 114, 117, 101], [118, 111, 105, 99, 101, 115], [119, 97, 105, 116]]
set_option maxHeartbeats 4000000 in
set_option maxRecDepth 100000 in
theorem reserved_fun : Fun Try.prog 57 [] (· = .u (strs words)) := by
  (refine Fun.of_bodyW Try.func57 rfl (by simp) fun Γ hn => ?_); simp only [entry, List.zipIdx_cons, List.zipIdx_nil, List.map_cons, List.map_nil, Nat.zero_add, Try.ntmps57]
  simp only [strs, words, List.map_cons, List.map_nil]
  repeat' (first
    | (refine H_cons ?_; simp [zcells, chunks])
    | (refine H_nil ?_; simp [zcells, chunks])
    | (refine V_sseq ?_; simp [zcells, chunks])
    | (refine V_ret ?_; simp only [RunK])
    | fail)
  (refine EndW.frzN 1 ?_; simp [frzN, frz1, frz_env, frz_obs, St.frz, St.frzS, frzS, fv, fzVec, fzMap, fzBox, frzObS, frz_entD, frz_rowsD, del, frz, frzOb])
  refine EndW.here ?_
  (refine EndOK.val (.inr rfl) ?_; simp [resD, oneOrTup, pureD, Try.results57])

def nameB (s : List UInt8) : Bool := wordB s && !words.contains s
set_option maxRecDepth 100000 in
theorem name_fun (s : List UInt8) : Fun Try.prog 42 [.u (.str s)] (· = .u (.bool (nameB s))) := by
  have h1 := containsS_fun words s
  have h2 := word_fun s
  have h3 := reserved_fun
  generalize hw : words.contains s = w at h1
  simp only [strs] at h1 h3
  generalize (words.map fun s => [U.str s]) = W at h1 h3
  unfold nameB
  rw [hw]
  clear hw
  generalize wordB s = b at h2 ⊢
  cases b
  all_goals
    (refine Fun.of_body Try.func42 rfl (by simp) fun Γ hn => ?_); simp only [entry, List.zipIdx_cons, List.zipIdx_nil, List.map_cons, List.map_nil, Nat.zero_add, Try.ntmps42]
    repeat' (first
    | (refine H_cons ?_; simp)
    | (refine H_nil ?_; simp)
    | (refine V_sseq ?_; simp)
    | (refine V_ret ?_; simp only [RunK])
    | (refine CallP.fun_ (h1) (by first | rfl | fail) (by first | assumption | (simp; done) | fail) (by first | (simp; done) | (simp; rfl) | fail) (by first | (simp; done) | fail) (fun d hd => ?_); subst hd; (try simp))
    | (refine CallP.fun_ (h2) (by first | rfl | fail) (by first | assumption | (simp; done) | fail) (by first | (simp; done) | (simp; rfl) | fail) (by first | (simp; done) | fail) (fun d hd => ?_); subst hd; (try simp))
    | (refine CallP.fun_ (h3) (by first | rfl | fail) (by first | assumption | (simp; done) | fail) (by first | (simp; done) | (simp; rfl) | fail) (by first | (simp; done) | fail) (fun d hd => ?_); subst hd; (try simp))
    | fail)
    (refine EndOK.val (.inr rfl) ?_; simp [resD, oneOrTup, pureD, Try.results42])
def operandsI (op : Int) : Int := if op = 0 ∨ op = 1 then 0 else if op = 12 then 1 else if op = 13 then 3 else if op < 0 ∨ 14 ≤ op then -1 else 2
theorem operands_fun (op : Int) : Fun Try.prog 41 [.u (.int .i64 op)] (· = .u (.int .i64 (operandsI op))) := by
  unfold operandsI
  (refine Fun.of_body Try.func41 rfl (by simp) fun Γ hn => ?_); simp only [entry, List.zipIdx_cons, List.zipIdx_nil, List.map_cons, List.map_nil, Nat.zero_add, Try.ntmps41]
  repeat' (first
    | (refine H_cons ?_; simp)
    | (refine H_nil ?_; simp)
    | (refine V_sseq ?_; simp)
    | (refine V_scond ?_; simp)
    | (refine V_sblock ?_; simp)
    | (refine V_sregion ?_; simp)
    | (refine V_ret ?_; simp only [RunK])
    | (refine V_skip ?_; simp only [RunK])
    | (refine ⟨?_, by omega⟩)
    | (refine ⟨fun hc => ?_, fun hc => ?_⟩ <;> (try (exfalso; omega)))
    | (intro hc <;> (try (exfalso; omega)))
    | fail)
  all_goals
    (refine EndOK.val (.inr rfl) ?_; simp [resD, oneOrTup, pureD, Try.results41])
  all_goals (repeat' split) <;> first | rfl | omega | simp_all
theorem erow_eq : Exp.row = fun e => [.int .i64 e.op, .int .i64 e.n, .int .i64 e.unit, .str e.s, .sl (e.args.map Exp.row)] := funext fun e => e.row_eq
def eagg (e : Exp) : D := .u (.agg [.int .i64 e.op, .int .i64 e.n, .int .i64 e.unit, .str e.s, .sl (e.args.map Exp.row)])
def exps (l : List Exp) : U := .sl (l.map fun e => [.int .i64 e.op, .int .i64 e.n, .int .i64 e.unit, .str e.s, .sl (e.args.map Exp.row)])
theorem exps_eq (l : List Exp) : exps l = .sl (l.map Exp.row) := by rw [exps, ← erow_eq]
theorem indexE_fun (l : List (Exp)) (f : FuncId) (caps : List U) (p : Exp → Bool) (hf : ∀ n ∈ l, Fun Try.prog f (eagg n :: caps.map .u) (· = .u (.bool (p n)))) (hcl : callable Try.prog f = true)
    (hca : ∀ o, argsW o (caps.map .u) = some (caps.map .u, [])) : Fun Try.prog 58 [.u (exps l), .fnc (.func f) (caps.map .u)] (· = .u (.int .i64 (idxP p l 0))) := by
  (refine Fun.of_body Try.func58 rfl (by simp) fun Γ hn => ?_); simp only [entry, List.zipIdx_cons, List.zipIdx_nil, List.map_cons, List.map_nil, Nat.zero_add, Try.ntmps58]
  simp only [exps]
  refine V_len (x := 0) rfl fun hl => ?_
  simp at hl
  repeat' (first
    | (refine H_cons ?_; simp)
    | (refine H_nil ?_; simp)
    | (refine V_sseq ?_; simp)
    | (refine V_sblock ?_; simp)
    | fail)
  refine V_loopF (α := { i : Nat // i ≤ l.length ∧ ∀ c ∈ l.take i, p c = false }) [0, 1, 7] (fun i => [(8, .u (.int .i64 i.1))]) (fun i => l.length - i.1) ⟨0, by omega, by simp⟩ ?_ ?_
  · exact (Wk.env rfl rfl rfl (by simp [wkE, St.lp, keepE, getK_cons, getK] <;> (try (intros; simp_all; done)) <;> (try (intros; omega)) <;> (try grind)))
  rintro ⟨i, hi, hb⟩
  simp [St.lp, St.only, keepE, getK_cons, getK]
  rcases hx : l[i]? with _ | n
  · have hge : l.length ≤ i := by simpa using hx
    repeat' (first
    | (refine H_cons ?_; simp [hx])
    | (refine H_nil ?_; simp [hx])
    | (refine ⟨by omega, ?_⟩)
    | (refine V_sseq ?_; simp [hx])
    | (refine V_ret ?_; simp only [RunK])
    | (refine V_exit ?_; simp [RunK])
    | (intro hc <;> (try (exfalso; omega)))
    | fail)
    (refine EndOK.val (.inr rfl) ?_; simp [resD, oneOrTup, pureD, Try.results58])
    rw [List.take_of_length_le hge] at hb
    exact (idxP_none hb).symm
  · have hlt : i < l.length := (List.getElem?_eq_some_iff.1 hx).1
    have h1 := hf n (List.mem_of_getElem? hx)
    simp only [eagg] at h1
    cases hp : p n
    · rw [hp] at h1
      repeat' (first
    | (refine H_cons ?_; simp [hx, hca])
    | (refine H_nil ?_; simp [hx, hca])
    | (refine ⟨by omega, ?_⟩)
    | (refine V_sseq ?_; simp [hx, hca])
    | (refine V_scond ?_; simp [hx, hca])
    | (refine V_sregion ?_; simp [hx, hca])
    | (refine V_skip ?_; simp only [RunK])
    | (refine ⟨?_, by omega⟩)
    | (intro hc <;> (try (exfalso; omega)))
    | (refine CallP.fun_ (h1) (by first | rfl | fail) (by first | assumption | (simp; done) | fail) (by first | (simp [hx, hca]; done) | (simp [hx, hca]; rfl) | fail) (by first | (simp; done) | fail) (fun d hd => ?_); subst hd; (try simp [hx, hca]))
    | fail)
      refine LoopW.next ⟨i + 1, by omega, take_succ_all hx hb hp⟩ (by simp; omega) ?_
      exact (Wk.env rfl rfl rfl (by simp [wkE, St.lp, keepE, getK_cons, getK] <;> (try (intros; simp_all; done)) <;> (try (intros; omega)) <;> (try grind)))
    · rw [hp] at h1
      repeat' (first
    | (refine H_cons ?_; simp [hx, hca])
    | (refine H_nil ?_; simp [hx, hca])
    | (refine V_sseq ?_; simp [hx, hca])
    | (refine V_scond ?_; simp [hx, hca])
    | (refine V_ret ?_; simp only [RunK])
    | (refine V_skip ?_; simp only [RunK])
    | (refine ⟨?_, by omega⟩)
    | (intro hc <;> (try (exfalso; omega)))
    | (refine CallP.fun_ (h1) (by first | rfl | fail) (by first | assumption | (simp; done) | fail) (by first | (simp [hx, hca]; done) | (simp [hx, hca]; rfl) | fail) (by first | (simp; done) | fail) (fun d hd => ?_); subst hd; (try simp [hx, hca]))
    | fail)
      (refine EndOK.val (.inr rfl) ?_; simp [resD, oneOrTup, pureD, Try.results58])
      rw [idxP_at hb hx hp]
      omega
theorem containsE_fun (l : List (Exp)) (f : FuncId) (caps : List U) (p : Exp → Bool) (hf : ∀ n ∈ l, Fun Try.prog f (eagg n :: caps.map .u) (· = .u (.bool (p n)))) (hcl : callable Try.prog f = true)
    (hca : ∀ o, argsW o (caps.map .u) = some (caps.map .u, [])) (hcb : ∀ o, argsU1 o (caps.map .u) = some (caps, [])) : Fun Try.prog 43 [.u (exps l), .fnc (.func f) (caps.map .u)] (· = .u (.bool (l.any p))) := by
  have h1 := indexE_fun l f caps p hf hcl hca
  (refine Fun.of_body Try.func43 rfl (by simp) fun Γ hn => ?_); simp only [entry, List.zipIdx_cons, List.zipIdx_nil, List.map_cons, List.map_nil, Nat.zero_add, Try.ntmps43]
  simp only [exps] at h1 ⊢
  repeat' (first
    | (refine H_cons ?_; simp [hcb])
    | (refine H_nil ?_; simp [hcb])
    | (refine V_sseq ?_; simp [hcb])
    | (refine V_ret ?_; simp only [RunK])
    | (refine CallP.fun_ (h1) (by first | rfl | fail) (by first | assumption | (simp; done) | fail) (by first | (simp [hcb]; done) | (simp [hcb]; rfl) | fail) (by first | (simp; done) | fail) (fun d hd => ?_); subst hd; (try simp [hcb]))
    | fail)
  (refine EndOK.val (.inr rfl) ?_; simp [resD, oneOrTup, pureD, Try.results43])
  have h2 := idxP_any p l 0 (by omega)
  rw [Bool.eq_iff_iff]
  simpa using h2
def numB (e : Exp) : Bool := decide (e.s = []) && decide (0 ≤ e.unit) && decide (e.unit < 5) && decide (0 ≤ e.n) && decide (e.n ≤ if e.unit = 0 then 1 else 1099511627776)
def rightB : Nat → Exp → Bool
  | 0, _ => false
  | d + 1, e => decide ((e.args.length : Int) = operandsI e.op) && (if e.op = 0 then numB e else if e.n ≠ 0 ∨ e.unit ≠ 0 then false else if e.op = 1 then nameB e.s else decide (e.s = []) && !e.args.any (fun x => !rightB d x))
set_option maxRecDepth 100000 in
set_option maxHeartbeats 4000000 in
theorem right_fun : ∀ (d : Nat) (e : Exp), (d : Int) ≤ 100 → Fun Try.prog 23 [eagg e, .u (.int .i64 d)] (· = .u (.bool (rightB d e)))
  | 0, e, _ => by
    (refine Fun.of_body Try.func23 rfl (by simp) fun Γ hn => ?_); simp only [entry, List.zipIdx_cons, List.zipIdx_nil, List.map_cons, List.map_nil, Nat.zero_add, Try.ntmps23]
    simp only [eagg]
    repeat' (first
    | (refine H_cons ?_; simp)
    | (refine HD_cons ?_; simp)
    | (refine H_nil ?_; simp)
    | (refine V_sseq ?_; simp)
    | (refine V_scond ?_; simp)
    | (refine HD_nil ?_)
    | (refine hk _ ?_; clear hk k; simp only [RunK])
    | (refine V_drawV rfl (by kernel_rfl) (by kernel_rfl) fun k hk => ?_; simp)
    | (refine HD_guard rfl (by simp) (fun hc => ?_) (fun hc => ?_) <;> (try simp at hc) <;> (try (exfalso; omega)) <;> (try simp))
    | (refine V_ret ?_; simp only [RunK])
    | fail)
    (refine EndOK.val (.inr rfl) ?_; simp [resD, oneOrTup, pureD, Try.results23])
    rfl
  | d + 1, e, hd => by
    have hr : ∀ x : Exp, Fun Try.prog 44 (eagg x :: [U.row [.int .i64 ((d + 1 : Nat) : Int)] 0].map .u) (· = .u (.bool (!rightB d x))) := fun x => by
      have h1 := right_fun d x (by omega)
      (refine Fun.of_body Try.func44 rfl (by simp) fun Γ hn => ?_); simp only [entry, List.zipIdx_cons, List.zipIdx_nil, List.map_cons, List.map_nil, Nat.zero_add, Try.ntmps44]
      simp only [eagg] at h1 ⊢
      repeat' (first
    | (refine H_cons ?_; simp)
    | (refine H_nil ?_; simp)
    | (refine ⟨by omega, ?_⟩)
    | (refine V_sseq ?_; simp)
    | (refine V_ret ?_; simp only [RunK])
    | (refine CallP.fun_ (h1) (by first | rfl | fail) (by first | assumption | (simp; done) | fail) (by first | (simp; done) | (simp; rfl) | fail) (by first | (simp; done) | fail) (fun d hd => ?_); subst hd; (try simp))
    | fail)
      (refine EndOK.val (.inr rfl) ?_; simp [resD, oneOrTup, pureD, Try.results44])
    have hcon := containsE_fun e.args 44 [U.row [.int .i64 ((d + 1 : Nat) : Int)] 0] (fun x => !rightB d x) (fun x _ => hr x) (by simp) (fun _ => rfl) (fun _ => rfl)
    have hnam := name_fun e.s
    have hopr := operands_fun e.op
    simp only [List.map_cons, List.map_nil] at hcon
    rw [rightB]
    unfold numB
    generalize (e.args.any fun x => !rightB d x) = z at hcon ⊢
    generalize nameB e.s = nm at hnam ⊢
    generalize hop : operandsI e.op = oi at hopr ⊢
    (refine Fun.of_body Try.func23 rfl (by simp) fun Γ hn => ?_); simp only [entry, List.zipIdx_cons, List.zipIdx_nil, List.map_cons, List.map_nil, Nat.zero_add, Try.ntmps23]
    rw [exps_eq] at hcon
    simp only [eagg]
    by_cases hlen : (e.args.length : Int) = oi
    case neg =>
      repeat' (first
    | (refine H_cons ?_; simp [hlen])
    | (refine HD_cons ?_; simp [hlen])
    | (refine H_nil ?_; simp [hlen])
    | (refine V_sseq ?_; simp [hlen])
    | (refine V_scond ?_; simp [hlen])
    | (refine HD_nil ?_)
    | (refine hk _ ?_; clear hk k; simp only [RunK])
    | (refine V_drawV rfl (by kernel_rfl) (by kernel_rfl) fun k hk => ?_; simp [hlen])
    | (refine HD_guard rfl (by simp [hlen]) (fun hc => ?_) (fun hc => ?_) <;> (try simp [hlen] at hc) <;> (try (exfalso; omega)) <;> (try simp [hlen]))
    | (refine V_ret ?_; simp only [RunK])
    | (refine CallV.fun_ (hopr) (by first | rfl | fail) (by first | assumption | (simp; done) | fail) (by first | (simp [hlen]; done) | (simp [hlen]; rfl) | fail) (by first | (simp; done) | fail) ?_ <;> (try simp [hlen]))
    | fail)
      (refine EndOK.val (.inr rfl) ?_; simp [resD, oneOrTup, pureD, Try.results23])
      try (simp_all; done)
    by_cases h0 : e.op = 0
    case pos =>
      by_cases hu : e.unit = 0
      all_goals
        repeat' (first
    | (refine H_cons ?_; simp [hlen, h0, hu])
    | (refine HD_cons ?_; simp [hlen, h0, hu])
    | (refine H_nil ?_; simp [hlen, h0, hu])
    | (refine V_sseq ?_; simp [hlen, h0, hu])
    | (refine V_scond ?_; simp [hlen, h0, hu])
    | (refine HD_nil ?_)
    | (refine hk _ ?_; clear hk k; simp only [RunK])
    | (refine V_drawV rfl (by kernel_rfl) (by kernel_rfl) fun k hk => ?_; simp [hlen, h0, hu])
    | (refine HD_guard rfl (by simp [hlen, h0, hu]) (fun hc => ?_) (fun hc => ?_) <;> (try simp [hlen, h0, hu] at hc) <;> (try (exfalso; omega)) <;> (try simp [hlen, h0, hu]))
    | (refine V_sregion ?_; simp [hlen, h0, hu])
    | (refine V_ret ?_; simp only [RunK])
    | (refine V_skip ?_; simp only [RunK])
    | (refine ⟨fun hc => ?_, fun hc => ?_⟩ <;> (try (exfalso; omega)))
    | (refine CallV.fun_ (hopr) (by first | rfl | fail) (by first | assumption | (simp; done) | fail) (by first | (simp [hlen, h0, hu]; done) | (simp [hlen, h0, hu]; rfl) | fail) (by first | (simp; done) | fail) ?_ <;> (try simp [hlen, h0, hu]))
    | fail)
        all_goals
          (refine EndOK.val (.inr rfl) ?_; simp [resD, oneOrTup, pureD, Try.results23])
      all_goals clear hr hopr hcon hnam
      all_goals grind
    by_cases hnu : e.n ≠ 0 ∨ e.unit ≠ 0
    case pos =>
      repeat' (first
    | (refine H_cons ?_; simp [hlen, h0])
    | (refine HD_cons ?_; simp [hlen, h0])
    | (refine H_nil ?_; simp [hlen, h0])
    | (refine V_sseq ?_; simp [hlen, h0])
    | (refine V_scond ?_; simp [hlen, h0])
    | (refine HD_nil ?_)
    | (refine hk _ ?_; clear hk k; simp only [RunK])
    | (refine V_drawV rfl (by kernel_rfl) (by kernel_rfl) fun k hk => ?_; simp [hlen, h0])
    | (refine HD_guard rfl (by simp [hlen, h0]) (fun hc => ?_) (fun hc => ?_) <;> (try simp [hlen, h0] at hc) <;> (try (exfalso; omega)) <;> (try simp [hlen, h0]))
    | (refine V_ret ?_; simp only [RunK])
    | (refine V_skip ?_; simp only [RunK])
    | (refine ⟨?_, by omega⟩)
    | (refine ⟨fun hc => ?_, fun hc => ?_⟩ <;> (try (exfalso; omega)))
    | (intro hc <;> (try (exfalso; omega)))
    | (refine CallV.fun_ (hopr) (by first | rfl | fail) (by first | assumption | (simp; done) | fail) (by first | (simp [hlen, h0]; done) | (simp [hlen, h0]; rfl) | fail) (by first | (simp; done) | fail) ?_ <;> (try simp [hlen, h0]))
    | fail)
      all_goals
        (refine EndOK.val (.inr rfl) ?_; simp [resD, oneOrTup, pureD, Try.results23])
      all_goals clear hr hopr hcon hnam
      all_goals grind
    by_cases h1 : e.op = 1
    case pos =>
      repeat' (first
    | (refine H_cons ?_; simp [hlen, h0, h1])
    | (refine HD_cons ?_; simp [hlen, h0, h1])
    | (refine H_nil ?_; simp [hlen, h0, h1])
    | (refine ⟨by omega, ?_⟩)
    | (refine V_sseq ?_; simp [hlen, h0, h1])
    | (refine V_scond ?_; simp [hlen, h0, h1])
    | (refine HD_nil ?_)
    | (refine hk _ ?_; clear hk k; simp only [RunK])
    | (refine V_drawV rfl (by kernel_rfl) (by kernel_rfl) fun k hk => ?_; simp [hlen, h0, h1])
    | (refine HD_guard rfl (by simp [hlen, h0, h1]) (fun hc => ?_) (fun hc => ?_) <;> (try simp [hlen, h0, h1] at hc) <;> (try (exfalso; omega)) <;> (try simp [hlen, h0, h1]))
    | (refine V_ret ?_; simp only [RunK])
    | (refine V_skip ?_; simp only [RunK])
    | (refine ⟨?_, by omega⟩)
    | (intro hc <;> (try (exfalso; omega)))
    | (refine CallV.fun_ (hopr) (by first | rfl | fail) (by first | assumption | (simp; done) | fail) (by first | (simp [hlen, h0, h1]; done) | (simp [hlen, h0, h1]; rfl) | fail) (by first | (simp; done) | fail) ?_ <;> (try simp [hlen, h0, h1]))
    | (refine CallP.fun_ (hnam) (by first | rfl | fail) (by first | assumption | (simp; done) | fail) (by first | (simp [hlen, h0, h1]; done) | (simp [hlen, h0, h1]; rfl) | fail) (by first | (simp; done) | fail) (fun d hd => ?_); subst hd; (try simp [hlen, h0, h1]))
    | fail)
      all_goals
        (refine EndOK.val (.inr rfl) ?_; simp [resD, oneOrTup, pureD, Try.results23])
      all_goals clear hr hopr hcon hnam
      all_goals grind
    by_cases hs : e.s = []
    all_goals
      repeat' (first
    | (refine H_cons ?_; simp [hlen, h0, h1, hs])
    | (refine HD_cons ?_; simp [hlen, h0, h1, hs])
    | (refine H_nil ?_; simp [hlen, h0, h1, hs])
    | (refine ⟨by omega, ?_⟩)
    | (refine V_sseq ?_; simp [hlen, h0, h1, hs])
    | (refine V_scond ?_; simp [hlen, h0, h1, hs])
    | (refine HD_nil ?_)
    | (refine hk _ ?_; clear hk k; simp only [RunK])
    | (refine V_drawV rfl (by kernel_rfl) (by kernel_rfl) fun k hk => ?_; simp [hlen, h0, h1, hs])
    | (refine HD_guard rfl (by simp [hlen, h0, h1, hs]) (fun hc => ?_) (fun hc => ?_) <;> (try simp [hlen, h0, h1, hs] at hc) <;> (try (exfalso; omega)) <;> (try simp [hlen, h0, h1, hs]))
    | (refine V_ret ?_; simp only [RunK])
    | (refine V_skip ?_; simp only [RunK])
    | (refine ⟨?_, by omega⟩)
    | (intro hc <;> (try (exfalso; omega)))
    | (refine CallV.fun_ (hopr) (by first | rfl | fail) (by first | assumption | (simp; done) | fail) (by first | (simp [hlen, h0, h1, hs]; done) | (simp [hlen, h0, h1, hs]; rfl) | fail) (by first | (simp; done) | fail) ?_ <;> (try simp [hlen, h0, h1, hs]))
    | (refine CallP.fun_ (hcon) (by first | rfl | fail) (by first | assumption | (simp; done) | fail) (by first | (simp [hlen, h0, h1, hs]; done) | (simp [hlen, h0, h1, hs]; rfl) | fail) (by first | (simp; done) | fail) (fun d hd => ?_); subst hd; (try simp [hlen, h0, h1, hs]))
    | fail)
      all_goals
        (refine EndOK.val (.inr rfl) ?_; simp [resD, oneOrTup, pureD, Try.results23])
    all_goals clear hr hopr hcon hnam
    all_goals grind
theorem rightExp_fun (e : Exp) : Fun Try.prog 14 [eagg e] (· = .u (.bool (rightB 12 e))) := by
  have h1 := right_fun 12 e (by omega)
  (refine Fun.of_body Try.func14 rfl (by simp) fun Γ hn => ?_); simp only [entry, List.zipIdx_cons, List.zipIdx_nil, List.map_cons, List.map_nil, Nat.zero_add, Try.ntmps14]
  simp only [eagg] at h1 ⊢
  repeat' (first
    | (refine H_cons ?_; simp)
    | (refine H_nil ?_; simp)
    | (refine V_sseq ?_; simp)
    | (refine V_ret ?_; simp only [RunK])
    | (refine CallP.fun_ (h1) (by first | rfl | fail) (by first | assumption | (simp; done) | fail) (by first | (simp; done) | (simp; rfl) | fail) (by first | (simp; done) | fail) (fun d hd => ?_); subst hd; (try simp))
    | fail)
  (refine EndOK.val (.inr rfl) ?_; simp [resD, oneOrTup, pureD, Try.results14])

def lagg (l : Let) : D := .u (.agg [.str l.name, .int .i64 l.body.op, .int .i64 l.body.n, .int .i64 l.body.unit, .str l.body.s, .sl (l.body.args.map Exp.row)])
def letsU (l : List Let) : U := .sl (l.map fun l => [.str l.name, .int .i64 l.body.op, .int .i64 l.body.n, .int .i64 l.body.unit, .str l.body.s, .sl (l.body.args.map Exp.row)])
theorem indexL_fun (l : List (Let)) (f : FuncId) (caps : List U) (p : Let → Bool) (hf : ∀ n ∈ l, Fun Try.prog f (lagg n :: caps.map .u) (· = .u (.bool (p n)))) (hcl : callable Try.prog f = true)
    (hca : ∀ o, argsW o (caps.map .u) = some (caps.map .u, [])) : Fun Try.prog 26 [.u (letsU l), .fnc (.func f) (caps.map .u)] (· = .u (.int .i64 (idxP p l 0))) := by
  (refine Fun.of_body Try.func26 rfl (by simp) fun Γ hn => ?_); simp only [entry, List.zipIdx_cons, List.zipIdx_nil, List.map_cons, List.map_nil, Nat.zero_add, Try.ntmps26]
  simp only [letsU]
  refine V_len (x := 0) rfl fun hl => ?_
  simp at hl
  repeat' (first
    | (refine H_cons ?_; simp)
    | (refine H_nil ?_; simp)
    | (refine V_sseq ?_; simp)
    | (refine V_sblock ?_; simp)
    | fail)
  refine V_loopF (α := { i : Nat // i ≤ l.length ∧ ∀ c ∈ l.take i, p c = false }) [0, 1, 7] (fun i => [(8, .u (.int .i64 i.1))]) (fun i => l.length - i.1) ⟨0, by omega, by simp⟩ ?_ ?_
  · exact (Wk.env rfl rfl rfl (by simp [wkE, St.lp, keepE, getK_cons, getK] <;> (try (intros; simp_all; done)) <;> (try (intros; omega)) <;> (try grind)))
  rintro ⟨i, hi, hb⟩
  simp [St.lp, St.only, keepE, getK_cons, getK]
  rcases hx : l[i]? with _ | n
  · have hge : l.length ≤ i := by simpa using hx
    repeat' (first
    | (refine H_cons ?_; simp [hx])
    | (refine H_nil ?_; simp [hx])
    | (refine ⟨by omega, ?_⟩)
    | (refine V_sseq ?_; simp [hx])
    | (refine V_ret ?_; simp only [RunK])
    | (refine V_exit ?_; simp [RunK])
    | (intro hc <;> (try (exfalso; omega)))
    | fail)
    (refine EndOK.val (.inr rfl) ?_; simp [resD, oneOrTup, pureD, Try.results26])
    rw [List.take_of_length_le hge] at hb
    exact (idxP_none hb).symm
  · have hlt : i < l.length := (List.getElem?_eq_some_iff.1 hx).1
    have h1 := hf n (List.mem_of_getElem? hx)
    simp only [lagg] at h1
    cases hp : p n
    · rw [hp] at h1
      repeat' (first
    | (refine H_cons ?_; simp [hx, hca])
    | (refine H_nil ?_; simp [hx, hca])
    | (refine ⟨by omega, ?_⟩)
    | (refine V_sseq ?_; simp [hx, hca])
    | (refine V_scond ?_; simp [hx, hca])
    | (refine V_sregion ?_; simp [hx, hca])
    | (refine V_skip ?_; simp only [RunK])
    | (refine ⟨?_, by omega⟩)
    | (intro hc <;> (try (exfalso; omega)))
    | (refine CallP.fun_ (h1) (by first | rfl | fail) (by first | assumption | (simp; done) | fail) (by first | (simp [hx, hca]; done) | (simp [hx, hca]; rfl) | fail) (by first | (simp; done) | fail) (fun d hd => ?_); subst hd; (try simp [hx, hca]))
    | fail)
      refine LoopW.next ⟨i + 1, by omega, take_succ_all hx hb hp⟩ (by simp; omega) ?_
      exact (Wk.env rfl rfl rfl (by simp [wkE, St.lp, keepE, getK_cons, getK] <;> (try (intros; simp_all; done)) <;> (try (intros; omega)) <;> (try grind)))
    · rw [hp] at h1
      repeat' (first
    | (refine H_cons ?_; simp [hx, hca])
    | (refine H_nil ?_; simp [hx, hca])
    | (refine V_sseq ?_; simp [hx, hca])
    | (refine V_scond ?_; simp [hx, hca])
    | (refine V_ret ?_; simp only [RunK])
    | (refine V_skip ?_; simp only [RunK])
    | (refine ⟨?_, by omega⟩)
    | (intro hc <;> (try (exfalso; omega)))
    | (refine CallP.fun_ (h1) (by first | rfl | fail) (by first | assumption | (simp; done) | fail) (by first | (simp [hx, hca]; done) | (simp [hx, hca]; rfl) | fail) (by first | (simp; done) | fail) (fun d hd => ?_); subst hd; (try simp [hx, hca]))
    | fail)
      (refine EndOK.val (.inr rfl) ?_; simp [resD, oneOrTup, pureD, Try.results26])
      rw [idxP_at hb hx hp]
      omega
theorem containsL_fun (l : List (Let)) (f : FuncId) (caps : List U) (p : Let → Bool) (hf : ∀ n ∈ l, Fun Try.prog f (lagg n :: caps.map .u) (· = .u (.bool (p n)))) (hcl : callable Try.prog f = true)
    (hca : ∀ o, argsW o (caps.map .u) = some (caps.map .u, [])) (hcb : ∀ o, argsU1 o (caps.map .u) = some (caps, [])) : Fun Try.prog 17 [.u (letsU l), .fnc (.func f) (caps.map .u)] (· = .u (.bool (l.any p))) := by
  have h1 := indexL_fun l f caps p hf hcl hca
  (refine Fun.of_body Try.func17 rfl (by simp) fun Γ hn => ?_); simp only [entry, List.zipIdx_cons, List.zipIdx_nil, List.map_cons, List.map_nil, Nat.zero_add, Try.ntmps17]
  simp only [letsU] at h1 ⊢
  repeat' (first
    | (refine H_cons ?_; simp [hcb])
    | (refine H_nil ?_; simp [hcb])
    | (refine V_sseq ?_; simp [hcb])
    | (refine V_ret ?_; simp only [RunK])
    | (refine CallP.fun_ (h1) (by first | rfl | fail) (by first | assumption | (simp; done) | fail) (by first | (simp [hcb]; done) | (simp [hcb]; rfl) | fail) (by first | (simp; done) | fail) (fun d hd => ?_); subst hd; (try simp [hcb]))
    | fail)
  (refine EndOK.val (.inr rfl) ?_; simp [resD, oneOrTup, pureD, Try.results17])
  have h2 := idxP_any p l 0 (by omega)
  rw [Bool.eq_iff_iff]
  simpa using h2

def iarg (n : Int) : D := .u (.int .i64 n)
def ints (l : List Int) : U := .sl (l.map fun n => [.int .i64 n])
theorem indexI_fun (l : List (Int)) (f : FuncId) (caps : List U) (p : Int → Bool) (hf : ∀ n ∈ l, Fun Try.prog f (iarg n :: caps.map .u) (· = .u (.bool (p n)))) (hcl : callable Try.prog f = true)
    (hca : ∀ o, argsW o (caps.map .u) = some (caps.map .u, [])) : Fun Try.prog 52 [.u (ints l), .fnc (.func f) (caps.map .u)] (· = .u (.int .i64 (idxP p l 0))) := by
  (refine Fun.of_body Try.func52 rfl (by simp) fun Γ hn => ?_); simp only [entry, List.zipIdx_cons, List.zipIdx_nil, List.map_cons, List.map_nil, Nat.zero_add, Try.ntmps52]
  simp only [ints]
  refine V_len (x := 0) rfl fun hl => ?_
  simp at hl
  repeat' (first
    | (refine H_cons ?_; simp)
    | (refine H_nil ?_; simp)
    | (refine V_sseq ?_; simp)
    | (refine V_sblock ?_; simp)
    | fail)
  refine V_loopF (α := { i : Nat // i ≤ l.length ∧ ∀ c ∈ l.take i, p c = false }) [0, 1, 7] (fun i => [(8, .u (.int .i64 i.1))]) (fun i => l.length - i.1) ⟨0, by omega, by simp⟩ ?_ ?_
  · exact (Wk.env rfl rfl rfl (by simp [wkE, St.lp, keepE, getK_cons, getK] <;> (try (intros; simp_all; done)) <;> (try (intros; omega)) <;> (try grind)))
  rintro ⟨i, hi, hb⟩
  simp [St.lp, St.only, keepE, getK_cons, getK]
  rcases hx : l[i]? with _ | n
  · have hge : l.length ≤ i := by simpa using hx
    repeat' (first
    | (refine H_cons ?_; simp [hx])
    | (refine H_nil ?_; simp [hx])
    | (refine ⟨by omega, ?_⟩)
    | (refine V_sseq ?_; simp [hx])
    | (refine V_ret ?_; simp only [RunK])
    | (refine V_exit ?_; simp [RunK])
    | (intro hc <;> (try (exfalso; omega)))
    | fail)
    (refine EndOK.val (.inr rfl) ?_; simp [resD, oneOrTup, pureD, Try.results52])
    rw [List.take_of_length_le hge] at hb
    exact (idxP_none hb).symm
  · have hlt : i < l.length := (List.getElem?_eq_some_iff.1 hx).1
    have h1 := hf n (List.mem_of_getElem? hx)
    simp only [iarg] at h1
    cases hp : p n
    · rw [hp] at h1
      repeat' (first
    | (refine H_cons ?_; simp [hx, hca])
    | (refine H_nil ?_; simp [hx, hca])
    | (refine ⟨by omega, ?_⟩)
    | (refine V_sseq ?_; simp [hx, hca])
    | (refine V_scond ?_; simp [hx, hca])
    | (refine V_sregion ?_; simp [hx, hca])
    | (refine V_skip ?_; simp only [RunK])
    | (refine ⟨?_, by omega⟩)
    | (intro hc <;> (try (exfalso; omega)))
    | (refine CallP.fun_ (h1) (by first | rfl | fail) (by first | assumption | (simp; done) | fail) (by first | (simp [hx, hca]; done) | (simp [hx, hca]; rfl) | fail) (by first | (simp; done) | fail) (fun d hd => ?_); subst hd; (try simp [hx, hca]))
    | fail)
      refine LoopW.next ⟨i + 1, by omega, take_succ_all hx hb hp⟩ (by simp; omega) ?_
      exact (Wk.env rfl rfl rfl (by simp [wkE, St.lp, keepE, getK_cons, getK] <;> (try (intros; simp_all; done)) <;> (try (intros; omega)) <;> (try grind)))
    · rw [hp] at h1
      repeat' (first
    | (refine H_cons ?_; simp [hx, hca])
    | (refine H_nil ?_; simp [hx, hca])
    | (refine V_sseq ?_; simp [hx, hca])
    | (refine V_scond ?_; simp [hx, hca])
    | (refine V_ret ?_; simp only [RunK])
    | (refine V_skip ?_; simp only [RunK])
    | (refine ⟨?_, by omega⟩)
    | (intro hc <;> (try (exfalso; omega)))
    | (refine CallP.fun_ (h1) (by first | rfl | fail) (by first | assumption | (simp; done) | fail) (by first | (simp [hx, hca]; done) | (simp [hx, hca]; rfl) | fail) (by first | (simp; done) | fail) (fun d hd => ?_); subst hd; (try simp [hx, hca]))
    | fail)
      (refine EndOK.val (.inr rfl) ?_; simp [resD, oneOrTup, pureD, Try.results52])
      rw [idxP_at hb hx hp]
      omega
theorem containsI_fun (l : List (Int)) (f : FuncId) (caps : List U) (p : Int → Bool) (hf : ∀ n ∈ l, Fun Try.prog f (iarg n :: caps.map .u) (· = .u (.bool (p n)))) (hcl : callable Try.prog f = true)
    (hca : ∀ o, argsW o (caps.map .u) = some (caps.map .u, [])) (hcb : ∀ o, argsU1 o (caps.map .u) = some (caps, [])) : Fun Try.prog 32 [.u (ints l), .fnc (.func f) (caps.map .u)] (· = .u (.bool (l.any p))) := by
  have h1 := indexI_fun l f caps p hf hcl hca
  (refine Fun.of_body Try.func32 rfl (by simp) fun Γ hn => ?_); simp only [entry, List.zipIdx_cons, List.zipIdx_nil, List.map_cons, List.map_nil, Nat.zero_add, Try.ntmps32]
  simp only [ints] at h1 ⊢
  repeat' (first
    | (refine H_cons ?_; simp [hcb])
    | (refine H_nil ?_; simp [hcb])
    | (refine V_sseq ?_; simp [hcb])
    | (refine V_ret ?_; simp only [RunK])
    | (refine CallP.fun_ (h1) (by first | rfl | fail) (by first | assumption | (simp; done) | fail) (by first | (simp [hcb]; done) | (simp [hcb]; rfl) | fail) (by first | (simp; done) | fail) (fun d hd => ?_); subst hd; (try simp [hcb]))
    | fail)
  (refine EndOK.val (.inr rfl) ?_; simp [resD, oneOrTup, pureD, Try.results32])
  have h2 := idxP_any p l 0 (by omega)
  rw [Bool.eq_iff_iff]
  simpa using h2

theorem comb11_fun (u n : Int) : Fun Try.prog 77 (iarg u :: [U.row [.int .i64 n] 0].map .u) (· = .u (.bool (decide (u ≠ n)))) := by
  simp only [iarg, List.map_cons, List.map_nil]
  (refine Fun.of_body Try.func77 rfl (by simp) fun Γ hn => ?_); simp only [entry, List.zipIdx_cons, List.zipIdx_nil, List.map_cons, List.map_nil, Nat.zero_add, Try.ntmps77]
  repeat' (first
    | (refine H_cons ?_; simp)
    | (refine H_nil ?_; simp)
    | (refine V_sseq ?_; simp)
    | (refine V_ret ?_; simp only [RunK])
    | fail)
  (refine EndOK.val (.inr rfl) ?_; simp [resD, oneOrTup, pureD, Try.results77])
def onlyB (u : Int) (l : List Int) : Bool := !l.any fun n => decide (n ≠ u)
theorem comb1_fun (u : Int) (l : List Int) : Fun Try.prog 76 [.u (.int .i64 u), .u (.row [ints l] 0)] (· = .u (.bool (onlyB u l))) := by
  have h1 := containsI_fun l 77 [U.row [.int .i64 u] 0] _ (fun n _ => comb11_fun n u) (by simp) (fun _ => rfl) (fun _ => rfl)
  simp only [List.map_cons, List.map_nil] at h1
  unfold onlyB
  (refine Fun.of_body Try.func76 rfl (by simp) fun Γ hn => ?_); simp only [entry, List.zipIdx_cons, List.zipIdx_nil, List.map_cons, List.map_nil, Nat.zero_add, Try.ntmps76]
  simp only [ints] at h1 ⊢
  repeat' (first
    | (refine H_cons ?_; simp)
    | (refine H_nil ?_; simp)
    | (refine V_sseq ?_; simp)
    | (refine V_ret ?_; simp only [RunK])
    | (refine CallP.fun_ (h1) (by first | rfl | fail) (by first | assumption | (simp; done) | fail) (by first | (simp; done) | (simp; rfl) | fail) (by first | (simp; done) | fail) (fun d hd => ?_); subst hd; (try simp))
    | fail)
  (refine EndOK.val (.inr rfl) ?_; simp [resD, oneOrTup, pureD, Try.results76])
def prodS (a b : Int) : Int × Bool := if a = 0 ∨ b = 0 then (0, false) else if a = 4 then (b, true) else if b = 4 then (a, true) else if a = 1 then (b, true) else if b = 1 then (a, true) else (0, false)
theorem prod_fun (a b : Int) : Fun Try.prog 78 [.u (.int .i64 a), .u (.int .i64 b)] (· = .tup [.u (.int .i64 (prodS a b).1), .u (.bool (prodS a b).2)]) := by
  (refine Fun.of_body Try.func78 rfl (by simp) fun Γ hn => ?_); simp only [entry, List.zipIdx_cons, List.zipIdx_nil, List.map_cons, List.map_nil, Nat.zero_add, Try.ntmps78]
  unfold prodS
  repeat' (first
    | (refine H_cons ?_; simp [zcells, chunks])
    | (refine H_nil ?_; simp [zcells, chunks])
    | (refine V_sseq ?_; simp [zcells, chunks])
    | (refine V_scond ?_; simp [zcells, chunks])
    | (refine V_sblock ?_; simp [zcells, chunks])
    | (refine V_ret ?_; simp only [RunK])
    | (refine V_skip ?_; simp only [RunK])
    | (refine ⟨fun hc => ?_, fun hc => ?_⟩ <;> (try (exfalso; omega)))
    | fail)
  all_goals try ((refine EndOK.val (.inr rfl) ?_; simp [resD, oneOrTup, pureD, Try.results78]); simp_all; done)
  all_goals
    refine V_loopF (α := { i : Nat // i ≤ 2 ∧ (1 ≤ i → a ≠ 4 ∧ b ≠ 4) ∧ (2 ≤ i → a ≠ 1 ∧ b ≠ 1) }) [0, 1, 14, 15] (fun i => [(16, .u (.int .i64 i.1))]) (fun i => 2 - i.1) ⟨0, by omega, by omega, by omega⟩ ?_ ?_
    · exact (Wk.cut rfl (by simp [hn, St.lp]) (by simp [wkO, St.lp, getK_cons, getK, Ob.under, D.under, under_rowsD, under_entD]) (by simp [wkU, St.lp, keepE, getK_cons, getK, D.under]) (by simp [wkE, St.lp, keepE, getK_cons, getK] <;> (try (intros; simp_all; done)) <;> (try (intros; omega)) <;> (try grind)))
    rintro ⟨i, hi, h1, h2⟩
    simp [St.lp, St.only, keepE, getK_cons, getK]
    have : i = 0 ∨ i = 1 ∨ i = 2 := by omega
    rcases this with rfl | rfl | rfl
    · repeat' (first
    | (refine H_cons ?_; simp)
    | (refine H_nil ?_; simp)
    | (refine V_sseq ?_; simp)
    | (refine V_scond ?_; simp)
    | (refine V_sregion ?_; simp)
    | (refine V_ret ?_; simp only [RunK])
    | (refine V_skip ?_; simp only [RunK])
    | (refine ⟨fun hc => ?_, fun hc => ?_⟩ <;> (try (exfalso; omega)))
    | fail)
      · (refine EndOK.val (.inr rfl) ?_; simp [resD, oneOrTup, pureD, Try.results78])
        simp_all
      · (refine EndOK.val (.inr rfl) ?_; simp [resD, oneOrTup, pureD, Try.results78])
        simp_all
      · refine LoopW.next ⟨1, by omega, by omega, by omega⟩ (by simp) ?_
        exact (Wk.cut rfl (by simp [hn, St.lp]) (by simp [wkO, St.lp, getK_cons, getK, Ob.under, D.under, under_rowsD, under_entD]) (by simp [wkU, St.lp, keepE, getK_cons, getK, D.under]) (by simp [wkE, St.lp, keepE, getK_cons, getK] <;> (try (intros; simp_all; done)) <;> (try (intros; omega)) <;> (try grind)))
    · repeat' (first
    | (refine H_cons ?_; simp)
    | (refine H_nil ?_; simp)
    | (refine V_sseq ?_; simp)
    | (refine V_scond ?_; simp)
    | (refine V_sregion ?_; simp)
    | (refine V_ret ?_; simp only [RunK])
    | (refine V_skip ?_; simp only [RunK])
    | (refine ⟨fun hc => ?_, fun hc => ?_⟩ <;> (try (exfalso; omega)))
    | fail)
      · (refine EndOK.val (.inr rfl) ?_; simp [resD, oneOrTup, pureD, Try.results78])
        simp_all
      · (refine EndOK.val (.inr rfl) ?_; simp [resD, oneOrTup, pureD, Try.results78])
        simp_all
      · refine LoopW.next ⟨2, by omega, by omega, by omega⟩ (by simp) ?_
        exact (Wk.cut rfl (by simp [hn, St.lp]) (by simp [wkO, St.lp, getK_cons, getK, Ob.under, D.under, under_rowsD, under_entD]) (by simp [wkU, St.lp, keepE, getK_cons, getK, D.under]) (by simp [wkE, St.lp, keepE, getK_cons, getK] <;> (try (intros; simp_all; done)) <;> (try (intros; omega)) <;> (try grind)))
    · repeat' (first
    | (refine H_cons ?_; simp)
    | (refine H_nil ?_; simp)
    | (refine V_sseq ?_; simp)
    | (refine V_ret ?_; simp only [RunK])
    | (refine V_exit ?_; simp [RunK])
    | fail)
      (refine EndOK.val (.inr rfl) ?_; simp [resD, oneOrTup, pureD, Try.results78])
      simp_all
def l0 (l : List Int) (i : Nat) : Int := l.getD i 0
def combS (op : Int) (l : List Int) : Int × Bool :=
  if op = 2 ∨ op = 3 ∨ op = 6 ∨ op = 7 then (l0 l 0, onlyB (l0 l 0) l && decide (l0 l 0 ≠ 0))
  else if op = 4 then prodS (l0 l 0) (l0 l 1)
  else if op = 5 then (if l0 l 1 = 1 then (l0 l 0, decide (l0 l 0 ≠ 0) && decide (l0 l 0 ≠ 4)) else (1, onlyB (l0 l 0) l && (decide (l0 l 0 = 3) || decide (l0 l 0 = 2))))
  else if op = 8 then (0, onlyB (l0 l 0) l && decide (l0 l 0 ≠ 0))
  else if op = 9 then (0, onlyB (l0 l 0) l)
  else if op = 13 then (l0 l 1, decide (l0 l 0 = 0) && decide (l0 l 1 = l0 l 2))
  else (0, onlyB 0 l)
theorem len1 {l : List Int} (h : (l.length : Int) = 1) : ∃ a, l = [a] := List.length_eq_one_iff.1 (by omega)
theorem len2 {l : List Int} (h : (l.length : Int) = 2) : ∃ a b, l = [a, b] := by
  match l, h with
  | [], h => simp at h
  | [a], h => simp at h
  | [a, b], _ => exact ⟨a, b, rfl⟩
  | a :: b :: c :: l, h => simp at h; omega
theorem len3 {l : List Int} (h : (l.length : Int) = 3) : ∃ a b c, l = [a, b, c] := by
  match l, h with
  | [], h => simp at h
  | [a], h => simp at h
  | [a, b], h => simp at h
  | [a, b, c], _ => exact ⟨a, b, c, rfl⟩
  | a :: b :: c :: d :: l, h => simp at h; omega
theorem comb_fun (op : Int) (l : List Int) (hop : 2 ≤ op ∧ op < 14) (hl : (l.length : Int) = operandsI op) : Fun Try.prog 75 [.u (.int .i64 op), .u (ints l)] (· = .tup [.u (.int .i64 (combS op l).1), .u (.bool (combS op l).2)]) := by
  have h12 : op = 12 ∨ op = 13 ∨ op = 2 ∨ op = 3 ∨ op = 4 ∨ op = 5 ∨ op = 6 ∨ op = 7 ∨ op = 8 ∨ op = 9 ∨ op = 10 ∨ op = 11 := by omega
  rcases h12 with rfl | rfl | h12
  · obtain ⟨a, rfl⟩ := len1 (hl.trans rfl)
    have h1 := comb1_fun 0 [a]
    simp only [combS, l0]
    generalize onlyB 0 [a] = o1 at h1 ⊢
    (refine Fun.of_body Try.func75 rfl (by simp) fun Γ hn => ?_); simp only [entry, List.zipIdx_cons, List.zipIdx_nil, List.map_cons, List.map_nil, Nat.zero_add, Try.ntmps75]
    simp only [ints, List.map_cons, List.map_nil] at h1 ⊢
    repeat' (first
    | (refine H_cons ?_; simp)
    | (refine H_nil ?_; simp)
    | (refine V_sseq ?_; simp)
    | (refine V_scond ?_; simp)
    | (refine V_sblock ?_; simp)
    | (refine V_sregion ?_; simp)
    | (refine V_ret ?_; simp only [RunK])
    | (refine V_skip ?_; simp only [RunK])
    | (refine CallP.fun_ (h1) (by first | rfl | fail) (by first | assumption | (simp; done) | fail) (by first | (simp; done) | (simp; rfl) | fail) (by first | (simp; done) | fail) (fun d hd => ?_); subst hd; (try simp))
    | fail)
    all_goals
      (refine EndOK.val (.inr rfl) ?_; simp [resD, oneOrTup, pureD, Try.results75])
  · obtain ⟨a, b, c, rfl⟩ := len3 (hl.trans rfl)
    simp only [combS, l0]
    (refine Fun.of_body Try.func75 rfl (by simp) fun Γ hn => ?_); simp only [entry, List.zipIdx_cons, List.zipIdx_nil, List.map_cons, List.map_nil, Nat.zero_add, Try.ntmps75]
    simp only [ints, List.map_cons, List.map_nil]
    repeat' (first
    | (refine H_cons ?_; simp)
    | (refine HD_cons ?_; simp)
    | (refine H_nil ?_; simp)
    | (refine V_sseq ?_; simp)
    | (refine V_scond ?_; simp)
    | (refine HD_nil ?_)
    | (refine hk _ ?_; clear hk k; simp only [RunK])
    | (refine V_drawV rfl (by kernel_rfl) (by kernel_rfl) fun k hk => ?_; simp)
    | (refine HD_guard rfl (by simp) (fun hc => ?_) (fun hc => ?_) <;> (try simp at hc) <;> (try (exfalso; omega)) <;> (try simp))
    | (refine V_sblock ?_; simp)
    | (refine V_sregion ?_; simp)
    | (refine V_ret ?_; simp only [RunK])
    | fail)
    all_goals
      (refine EndOK.val (.inr rfl) ?_; simp [resD, oneOrTup, pureD, Try.results75])
    all_goals (simp_all; done)
  · obtain ⟨a, b, rfl⟩ := len2 (l := l) (by rw [hl]; rcases h12 with rfl | rfl | rfl | rfl | rfl | rfl | rfl | rfl | rfl | rfl <;> rfl)
    clear hl hop
    have h1 := comb1_fun a [a, b]
    have h2 := comb1_fun 0 [a, b]
    have h3 := prod_fun a b
    have e0 : l0 [a, b] 0 = a := rfl
    have e1 : l0 [a, b] 1 = b := rfl
    unfold combS
    rw [e0, e1]
    clear e0 e1
    generalize onlyB a [a, b] = o1 at h1 ⊢
    generalize onlyB 0 [a, b] = o2 at h2 ⊢
    generalize prodS a b = p at h3 ⊢
    simp only [ints, List.map_cons, List.map_nil] at h1 h2 ⊢
    rcases h12 with rfl | rfl | rfl | rfl | rfl | rfl | rfl | rfl | rfl | rfl
    all_goals
      (refine Fun.of_body Try.func75 rfl (by simp) fun Γ hn => ?_); simp only [entry, List.zipIdx_cons, List.zipIdx_nil, List.map_cons, List.map_nil, Nat.zero_add, Try.ntmps75]
      repeat' (first
    | (refine H_cons ?_; simp)
    | (refine HD_cons ?_; simp)
    | (refine H_nil ?_; simp)
    | (refine V_sseq ?_; simp)
    | (refine V_scond ?_; simp)
    | (refine HD_nil ?_)
    | (refine hk _ ?_; clear hk k; simp only [RunK])
    | (refine V_drawV rfl (by kernel_rfl) (by kernel_rfl) fun k hk => ?_; simp)
    | (refine HD_guardU rfl (by simp) ?_; simp)
    | (refine HD_guard rfl (by simp) (fun hc => ?_) (fun hc => ?_) <;> (try simp at hc) <;> (try (exfalso; omega)) <;> (try simp))
    | (refine V_sblock ?_; simp)
    | (refine V_sregion ?_; simp)
    | (refine V_ret ?_; simp only [RunK])
    | (refine V_skip ?_; simp only [RunK])
    | (refine ⟨fun hc => ?_, fun hc => ?_⟩ <;> (try (exfalso; omega)))
    | (refine CallV.fun_ (h1) (by first | rfl | fail) (by first | assumption | (simp; done) | fail) (by first | (simp; done) | (simp; rfl) | fail) (by first | (simp; done) | fail) ?_ <;> (try simp))
    | (refine CallP.fun_ (h1) (by first | rfl | fail) (by first | assumption | (simp; done) | fail) (by first | (simp; done) | (simp; rfl) | fail) (by first | (simp; done) | fail) (fun d hd => ?_); subst hd; (try simp))
    | (refine CallP.fun_ (h2) (by first | rfl | fail) (by first | assumption | (simp; done) | fail) (by first | (simp; done) | (simp; rfl) | fail) (by first | (simp; done) | fail) (fun d hd => ?_); subst hd; (try simp))
    | (refine CallV.fun_ (h3) (by first | rfl | fail) (by first | assumption | (simp; done) | fail) (by first | (simp; done) | (simp; rfl) | fail) (by first | (simp; done) | fail) ?_ <;> (try simp))
    | fail)
      all_goals
        (refine EndOK.val (.inr rfl) ?_; simp [resD, oneOrTup, pureD, Try.results75])
      all_goals (clear h1 h2 h3; first | (simp_all; done) | (grind) | skip)

def asc {β : Type} : List (List UInt8 × β) → List UInt8 → Option β
  | [], _ => none
  | (k, b) :: l, x => if x = k then some b else asc l x
def ascPut {β : Type} : List (List UInt8 × β) → List UInt8 → β → List (List UInt8 × β)
  | [], x, b => [(x, b)]
  | (k, c) :: l, x, b => if x = k then (k, b) :: l else (k, c) :: ascPut l x b
theorem lookK_asc {β : Type} (f : β → List U) (x : List UInt8) : ∀ (l : List (List UInt8 × β)), lookK (l.map fun p => (Key.s p.1, f p.2)) (.s x) = (asc l x).map f
  | [] => rfl
  | (k, b) :: l => by
    simp only [List.map_cons, lookK, asc, Key.s.injEq]
    split
    · rfl
    · exact lookK_asc f x l
theorem updK_asc {β : Type} (f : β → List U) (x : List UInt8) (b : β) : ∀ (l : List (List UInt8 × β)), updK (l.map fun p => (Key.s p.1, f p.2)) (.s x) (f b) = (ascPut l x b).map fun p => (Key.s p.1, f p.2)
  | [] => rfl
  | (k, c) :: l => by
    simp only [List.map_cons, updK, ascPut, Key.s.injEq]
    split
    · rfl
    · simp only [List.map_cons]; rw [updK_asc f x b l]
theorem asc_put {β : Type} (x y : List UInt8) (b : β) : ∀ (l : List (List UInt8 × β)), asc (ascPut l x b) y = if y = x then some b else asc l y
  | [] => by simp [ascPut, asc]
  | (k, c) :: l => by
    simp only [ascPut]
    split
    · rename_i h
      subst h
      simp only [asc]
      split <;> rfl
    · rename_i h
      simp only [asc, asc_put x y b l]
      by_cases h1 : y = k
      · subst h1; simp [Ne.symm h]
      · simp [h1]
mutual
/-- The unit of an expression, or an error. -/
def unitS (g : List UInt8 → Option Int) (m : List UInt8 → Option (Int × Int)) : Exp → Int × Int
  | .mk op _ u s args =>
    if op = 0 then (u, 0)
    else if op = 1 then (match g s with | some u => (u, 0) | none => match m s with | some r => r | none => (0, 13))
    else match unitsS g m args with
      | .error b => (0, b)
      | .ok l => if (combS op l).2 = true then ((combS op l).1, 0) else (0, 14)
def unitsS (g : List UInt8 → Option Int) (m : List UInt8 → Option (Int × Int)) : List Exp → Except Int (List Int)
  | [] => .ok []
  | e :: r => if (unitS g m e).2 ≠ 0 then .error (unitS g m e).2 else match unitsS g m r with
    | .error b => .error b
    | .ok l => .ok ((unitS g m e).1 :: l)
end
theorem unitS_eq (g m) (e : Exp) : unitS g m e = if e.op = 0 then (e.unit, 0)
    else if e.op = 1 then (match g e.s with | some u => (u, 0) | none => match m e.s with | some r => r | none => (0, 13))
    else match unitsS g m e.args with
      | .error b => (0, b)
      | .ok l => if (combS e.op l).2 = true then ((combS e.op l).1, 0) else (0, 14) := by
  cases e with | mk op n u s args => rw [unitS]; rfl
theorem unitsS_ok {g m} : ∀ {l : List Exp}, (∀ x ∈ l, (unitS g m x).2 = 0) → unitsS g m l = .ok (l.map fun x => (unitS g m x).1)
  | [], _ => by rw [unitsS]; rfl
  | e :: r, h => by
    rw [unitsS, if_neg (by simp [h e (by simp)]), unitsS_ok fun x hx => h x (by simp [hx])]
    rfl
theorem unitsS_err {g m} : ∀ {l : List Exp} {i : Nat} {e : Exp}, l[i]? = some e → (∀ x ∈ l.take i, (unitS g m x).2 = 0) → (unitS g m e).2 ≠ 0 → unitsS g m l = .error (unitS g m e).2
  | [], i, e, h, _, _ => by simp at h
  | a :: r, 0, e, h, _, h2 => by
    simp at h
    subst h
    rw [unitsS, if_pos h2]
  | a :: r, i + 1, e, h, h1, h2 => by
    rw [unitsS, if_neg (by simp [h1 a (by simp)]), unitsS_err (l := r) (i := i) (by simpa using h) (fun x hx => h1 x (by simp [hx])) h2]
mutual
/-- Whether an expression is a share. -/
def shareS (m : List UInt8 → Bool) : Exp → Bool
  | .mk op _ u s args =>
    if op = 0 then decide (u = 4)
    else if op = 1 then m s
    else if op = 2 ∨ op = 3 ∨ op = 6 ∨ op = 7 then shareN m args 0
    else if op = 4 then shareN m args 0 && shareN m args 1
    else if op = 13 then shareN m args 1
    else false
def shareN (m : List UInt8 → Bool) : List Exp → Nat → Bool
  | [], _ => false
  | e :: _, 0 => shareS m e
  | _ :: r, n + 1 => shareN m r n
end
theorem shareS_eq (m) (e : Exp) : shareS m e = if e.op = 0 then decide (e.unit = 4)
    else if e.op = 1 then m e.s
    else if e.op = 2 ∨ e.op = 3 ∨ e.op = 6 ∨ e.op = 7 then shareN m e.args 0
    else if e.op = 4 then shareN m e.args 0 && shareN m e.args 1
    else if e.op = 13 then shareN m e.args 1
    else false := by
  cases e with | mk op n u s args => rw [shareS]; rfl
/-- What is known of a let: its unit, its error, whether it is a share. -/
abbrev LM := List (List UInt8 × Int × Int × Bool)
abbrev GM := List (List UInt8 × Int)
def gmap (g : GM) : List (Key × List U) := g.map fun p => (Key.s p.1, [U.int .i64 p.2])
def lmap (m : LM) : List (Key × List U) := m.map fun p => (Key.s p.1, [U.int .i64 p.2.1, .int .i64 p.2.2.1, .bool p.2.2.2])
theorem look_g (g : GM) (x : List UInt8) : lookK (gmap g) (.s x) = (asc g x).map fun u => [U.int .i64 u] := lookK_asc (fun u : Int => [U.int .i64 u]) x g
theorem look_m (g : LM) (x : List UInt8) : lookK (lmap g) (.s x) = (asc g x).map fun q => [U.int .i64 q.1, .int .i64 q.2.1, .bool q.2.2] := lookK_asc (fun q : Int × Int × Bool => [U.int .i64 q.1, .int .i64 q.2.1, .bool q.2.2]) x g
def jU (g : GM) (m : LM) : U := .row [.map .s false (gmap g), .map .s true (lmap m)] 0
def gF (g : GM) : List UInt8 → Option Int := asc g
def mF (m : LM) : List UInt8 → Option (Int × Int) := fun x => (asc m x).map fun q => (q.1, q.2.1)
def sF (m : LM) : List UInt8 → Bool := fun x => ((asc m x).map fun q => q.2.2).getD false
theorem right_args {d : Nat} {e : Exp} (h : rightB (d + 1) e = true) : (e.args.length : Int) = operandsI e.op ∧ 0 ≤ e.op ∧ e.op < 14 ∧ (e.op ≠ 0 → e.op ≠ 1 → ∀ x ∈ e.args, rightB d x = true) := by
  rw [rightB, Bool.and_eq_true, decide_eq_true_eq] at h
  obtain ⟨h1, h2⟩ := h
  have h3 : 0 ≤ e.op ∧ e.op < 14 := by
    unfold operandsI at h1
    split at h1
    · omega
    · split at h1
      · omega
      · split at h1
        · omega
        · split at h1
          · omega
          · omega
  refine ⟨h1, h3.1, h3.2, fun ha hb x hx => ?_⟩
  rw [if_neg ha] at h2
  split at h2
  · cases h2
  · simp only [if_neg hb, Bool.and_eq_true, Bool.not_eq_true', List.any_eq_false, Bool.not_eq_true] at h2
    have := h2.2 x hx
    simpa using this
theorem unit_fun (g : GM) (m : LM) : ∀ (d : Nat) (e : Exp), rightB d e = true → Fun Try.prog 73 [.u (jU g m), eagg e] (· = .tup [.u (.int .i64 (unitS (gF g) (mF m) e).1), .u (.int .i64 (unitS (gF g) (mF m) e).2)])
  | 0, e, h => by simp [rightB] at h
  | d + 1, e, h => by
    obtain ⟨h1, h2, h3, h4⟩ := right_args h
    have hg := look_g g e.s
    have hm := look_m m e.s
    by_cases h0 : e.op = 0
    · rw [unitS_eq, if_pos h0]
      (refine Fun.of_body Try.func73 rfl (by simp) fun Γ hn => ?_); simp only [entry, List.zipIdx_cons, List.zipIdx_nil, List.map_cons, List.map_nil, Nat.zero_add, Try.ntmps73]
      simp only [eagg, jU]
      repeat' (first
    | (refine H_cons ?_; simp [h0])
    | (refine H_nil ?_; simp [h0])
    | (refine V_sseq ?_; simp [h0])
    | (refine V_scond ?_; simp [h0])
    | (refine V_sblock ?_; simp [h0])
    | (refine V_ret ?_; simp only [RunK])
    | fail)
      (refine EndOK.val (.inr rfl) ?_; simp [resD, oneOrTup, pureD, Try.results73])
    by_cases hnm : e.op = 1
    · rw [unitS_eq, if_neg h0, if_pos hnm]
      (refine Fun.of_body Try.func73 rfl (by simp) fun Γ hn => ?_); simp only [entry, List.zipIdx_cons, List.zipIdx_nil, List.map_cons, List.map_nil, Nat.zero_add, Try.ntmps73]
      simp only [eagg, jU]
      cases hga : asc g e.s with
      | some u =>
        rw [hga] at hg
        simp only [Option.map_some] at hg
        repeat' (first
    | (refine H_cons ?_; simp [h0, hnm, hg])
    | (refine HD_cons ?_; simp [h0, hnm, hg])
    | (refine H_nil ?_; simp [h0, hnm, hg])
    | (refine V_sseq ?_; simp [h0, hnm, hg])
    | (refine V_scond ?_; simp [h0, hnm, hg])
    | (refine HD_nil ?_)
    | (refine hk _ ?_; clear hk k; simp only [RunK])
    | (refine V_drawV rfl (by kernel_rfl) (by kernel_rfl) fun k hk => ?_; simp [h0, hnm, hg])
    | (refine V_sblock ?_; simp [h0, hnm, hg])
    | (refine V_ret ?_; simp only [RunK])
    | fail)
        (refine EndOK.val (.inr rfl) ?_; simp [resD, oneOrTup, pureD, Try.results73])
        simp [gF, hga]
      | none =>
        rw [hga] at hg
        simp only [Option.map_none] at hg
        cases hma : asc m e.s with
        | some q =>
          rw [hma] at hm
          simp only [Option.map_some] at hm
          repeat' (first
    | (refine H_cons ?_; simp [h0, hnm, hg, hm])
    | (refine HD2_val rfl ?_; simp [h0, hnm, hg, hm])
    | (refine HD_cons ?_; simp [h0, hnm, hg, hm])
    | (refine HD2_chg rfl ?_; simp [h0, hnm, hg, hm])
    | (refine H_nil ?_; simp [h0, hnm, hg, hm])
    | (refine V_sseq ?_; simp [h0, hnm, hg, hm])
    | (refine V_scond ?_; simp [h0, hnm, hg, hm])
    | (refine HD2_nil (hC _ (by kernel_rfl)) (hk _ ?_); clear hC hk C k; simp only [RunK])
    | (refine HD_nil ?_)
    | (refine hk _ ?_; clear hk k; simp only [RunK])
    | (refine V_drawV rfl (by kernel_rfl) (by kernel_rfl) fun k hk => ?_; simp [h0, hnm, hg, hm])
    | (refine V_drawE rfl (by kernel_rfl) (by kernel_rfl) (by simp [hn]) fun C k hC hk => ?_; simp [h0, hnm, hg, hm])
    | (refine V_sblock ?_; simp [h0, hnm, hg, hm])
    | (refine V_ret ?_; simp only [RunK])
    | (refine V_skip ?_; simp only [RunK])
    | fail)
          (refine EndOK.val (.inr rfl) ?_; simp [resD, oneOrTup, pureD, Try.results73])
          simp [gF, hga, mF, hma]
        | none =>
          rw [hma] at hm
          simp only [Option.map_none] at hm
          repeat' (first
    | (refine H_cons ?_; simp [h0, hnm, hg, hm])
    | (refine HD2_val rfl ?_; simp [h0, hnm, hg, hm])
    | (refine HD_cons ?_; simp [h0, hnm, hg, hm])
    | (refine HD2_chg rfl ?_; simp [h0, hnm, hg, hm])
    | (refine H_nil ?_; simp [h0, hnm, hg, hm])
    | (refine V_sseq ?_; simp [h0, hnm, hg, hm])
    | (refine V_scond ?_; simp [h0, hnm, hg, hm])
    | (refine HD2_nil (hC _ (by kernel_rfl)) (hk _ ?_); clear hC hk C k; simp only [RunK])
    | (refine HD_nil ?_)
    | (refine hk _ ?_; clear hk k; simp only [RunK])
    | (refine V_drawV rfl (by kernel_rfl) (by kernel_rfl) fun k hk => ?_; simp [h0, hnm, hg, hm])
    | (refine V_drawE rfl (by kernel_rfl) (by kernel_rfl) (by simp [hn]) fun C k hC hk => ?_; simp [h0, hnm, hg, hm])
    | (refine V_sblock ?_; simp [h0, hnm, hg, hm])
    | (refine V_ret ?_; simp only [RunK])
    | (refine V_skip ?_; simp only [RunK])
    | fail)
          (refine EndOK.val (.inr rfl) ?_; simp [resD, oneOrTup, pureD, Try.results73])
          simp [gF, hga, mF, hma]
    rw [unitS_eq, if_neg h0, if_neg hnm]
    (refine Fun.of_body Try.func73 rfl (by simp) fun Γ hn => ?_); simp only [entry, List.zipIdx_cons, List.zipIdx_nil, List.map_cons, List.map_nil, Nat.zero_add, Try.ntmps73]
    simp only [eagg, jU]
    have hr := h4 h0 hnm
    repeat' (first
    | (refine H_cons ?_; simp [h0, hnm])
    | (refine H_nil ?_; simp [h0, hnm])
    | (refine V_sseq ?_; simp [h0, hnm])
    | (refine V_scond ?_; simp [h0, hnm])
    | (refine V_sblock ?_; simp [h0, hnm])
    | (refine V_skip ?_; simp only [RunK])
    | fail)
    refine V_wk _ (Wk.own 10 3 1 (by decide) rfl) ?_
    simp [St.own]
    refine V_loopO (α := { p : Nat × List Int // p.1 ≤ e.args.length ∧ p.2 = (e.args.take p.1).map (fun x => (unitS (gF g) (mF m) x).1) ∧ ∀ x ∈ e.args.take p.1, (unitS (gF g) (mF m) x).2 = 0 }) [0, 3, 53, 54]
      (fun p => [(10, .vec 1 p.1.2.length), (55, .u (.int .i64 p.1.1))]) (fun p => [(1, .vec 3 1 (rowsD (p.1.2.map fun n => [U.int .i64 n]))), (0, .box [.u (.int .i64 e.op), .u (.int .i64 e.n), .u (.int .i64 e.unit), .u (.str e.s), .u (.sl (e.args.map Exp.row))])]) 2
      (fun p => e.args.length - p.1.1) ⟨(0, []), by simp, by simp, by simp⟩ ?_ ?_
    · exact (Wk.cut rfl (by simp [hn, St.lp]) (by simp [wkO, St.lp, getK_cons, getK, Ob.under, D.under, under_rowsD, under_entD]) (by simp [wkU, St.lp, keepE, getK_cons, getK, D.under]) (by simp [wkE, St.lp, keepE, getK_cons, getK] <;> (try (intros; simp_all; done)) <;> (try (intros; omega)) <;> (try grind)))
    rintro ⟨⟨i, acc⟩, hi, hacc, hb⟩
    simp only at hi hacc hb
    simp [St.lp, St.only, keepE, getK_cons, getK]
    rcases hx : e.args[i]? with _ | x
    · have hge : e.args.length ≤ i := by simpa using hx
      rw [List.take_of_length_le hge] at hacc hb
      have hok := unitsS_ok hb
      rw [← hacc] at hok
      have hal : (acc.length : Int) = operandsI e.op := by rw [hacc]; simpa using h1
      have h5 := comb_fun e.op acc (by omega) hal
      simp only [ints] at h5
      generalize hcb : combS e.op acc = cb at h5
      obtain ⟨c1, c2⟩ := cb
      repeat' (first
    | (refine H_cons ?_; simp [hx, h0, hnm])
    | (refine H_nil ?_; simp [hx, h0, hnm])
    | (refine ⟨by omega, ?_⟩)
    | (refine V_sseq ?_; simp [hx, h0, hnm])
    | (refine V_scond ?_; simp [hx, h0, hnm])
    | (refine V_ret ?_; simp only [RunK])
    | (refine V_skip ?_; simp only [RunK])
    | (refine V_exit ?_; simp [RunK])
    | (refine ⟨fun hc => ?_, fun hc => ?_⟩ <;> (try (exfalso; omega)))
    | (intro hc <;> (try (exfalso; omega)))
    | (refine CallP.fun_ (h5) (by first | rfl | fail) (by first | assumption | (simp; done) | fail) (by first | (simp [hx, h0, hnm]; done) | (simp [hx, h0, hnm]; rfl) | fail) (by first | (simp; done) | fail) (fun d hd => ?_); subst hd; (try simp [hx, h0, hnm]))
    | fail)
      all_goals
        (refine EndOK.val (.inr rfl) ?_; simp [resD, oneOrTup, pureD, Try.results73])
      all_goals (rw [hok]; simp_all; done)
    · have hlt : i < e.args.length := (List.getElem?_eq_some_iff.1 hx).1
      have h5 := unit_fun g m d x (hr x (List.mem_of_getElem? hx))
      simp only [eagg, jU] at h5
      have hal : acc.length = i := by rw [hacc]; simp; omega
      have h3a : e.args.length ≤ 3 := by
        have : operandsI e.op ≤ 3 := by unfold operandsI; repeat' split
                                        all_goals omega
        omega
      have her := fun h => unitsS_err (g := gF g) (m := mF m) hx hb h
      generalize hun : unitS (gF g) (mF m) x = un at h5 her
      obtain ⟨u, er⟩ := un
      repeat' (first
    | (refine H_cons ?_; simp [hx, x.row_eq, h0, hnm])
    | (refine H_nil ?_; simp [hx, x.row_eq, h0, hnm])
    | (refine ⟨by omega, ?_⟩)
    | (refine V_sseq ?_; simp [hx, x.row_eq, h0, hnm])
    | (refine V_scond ?_; simp [hx, x.row_eq, h0, hnm])
    | (refine V_sregion ?_; simp [hx, x.row_eq, h0, hnm])
    | (refine V_ret ?_; simp only [RunK])
    | (refine V_skip ?_; simp only [RunK])
    | (refine ⟨?_, by omega⟩)
    | (refine ⟨fun hc => ?_, fun hc => ?_⟩ <;> (try (exfalso; omega)))
    | (intro hc <;> (try (exfalso; omega)))
    | (refine CallP.fun_ (h5) (by first | rfl | fail) (by first | assumption | (simp; done) | fail) (by first | (simp [hx, x.row_eq, h0, hnm]; done) | (simp [hx, x.row_eq, h0, hnm]; rfl) | fail) (by first | (simp; done) | fail) (fun d hd => ?_); subst hd; (try simp [hx, x.row_eq, h0, hnm]))
    | fail)
      · (refine EndOK.val (.inr rfl) ?_; simp [resD, oneOrTup, pureD, Try.results73])
        rw [her (by simpa using (by assumption : ¬ er = 0))]
        simp
      · skip
        refine LoopW.next ⟨(i + 1, acc ++ [u]), (by omega : i + 1 ≤ e.args.length), (?_ : acc ++ [u] = _), ?_⟩ (by simp; omega) ?_
        · rw [List.take_succ_eq_append_getElem hlt, List.map_append, ← hacc, (List.getElem?_eq_some_iff.1 hx).2]
          simp [hun]
        · exact take_succ_all hx hb (by simp_all)
        · exact (Wk.ren ((fun i => if i = 1 then 4 else i)) rfl (by first | (simp [hn]; done) | (intro i hi; rw [hn] at hi; constructor <;> (try simp) <;> (try (intro _)) <;> omega)) (by simp [wkER, St.lp, keepE, getK_cons, getK, getK_del, getK_setOb, D.under, D.le, D.ren] <;> (try (intros; simp_all; done)) <;> (try omega)) (by simp [wkR, St.lp, getK_cons, getK, getK_del, getK_setOb, obR, leU, pureRow, pureRows, Ob.under, D.under, D.le, D.ren] <;> (try (intros; simp_all; done)) <;> (try omega)) (by simp))

theorem share_fun (g : GM) (m : LM) : ∀ (d : Nat) (e : Exp), rightB d e = true → Fun Try.prog 70 [.u (jU g m), eagg e] (· = .u (.bool (shareS (sF m) e)))
  | 0, e, h => by simp [rightB] at h
  | d + 1, e, h => by
    obtain ⟨h1, h2, h3, h4⟩ := right_args h
    rw [shareS_eq]
    have hm := look_m m e.s
    by_cases h0 : e.op = 0
    · rw [if_pos h0]
      (refine Fun.of_body Try.func70 rfl (by simp) fun Γ hn => ?_); simp only [entry, List.zipIdx_cons, List.zipIdx_nil, List.map_cons, List.map_nil, Nat.zero_add, Try.ntmps70]
      simp only [eagg, jU]
      repeat' (first
    | (refine H_cons ?_; simp [h0])
    | (refine H_nil ?_; simp [h0])
    | (refine V_sseq ?_; simp [h0])
    | (refine V_scond ?_; simp [h0])
    | (refine V_sblock ?_; simp [h0])
    | (refine V_ret ?_; simp only [RunK])
    | fail)
      (refine EndOK.val (.inr rfl) ?_; simp [resD, oneOrTup, pureD, Try.results70])
    rw [if_neg h0]
    by_cases hnm : e.op = 1
    · rw [if_pos hnm]
      cases hma : asc m e.s with
      | some q =>
        rw [hma] at hm
        simp only [Option.map_some] at hm
        (refine Fun.of_body Try.func70 rfl (by simp) fun Γ hn => ?_); simp only [entry, List.zipIdx_cons, List.zipIdx_nil, List.map_cons, List.map_nil, Nat.zero_add, Try.ntmps70]
        simp only [eagg, jU]
        repeat' (first
    | (refine H_cons ?_; simp [h0, hnm, hm])
    | (refine HD_cons ?_; simp [h0, hnm, hm])
    | (refine H_nil ?_; simp [h0, hnm, hm])
    | (refine V_sseq ?_; simp [h0, hnm, hm])
    | (refine V_scond ?_; simp [h0, hnm, hm])
    | (refine HD_nil ?_)
    | (refine hk _ ?_; clear hk k; simp only [RunK])
    | (refine V_drawV rfl (by kernel_rfl) (by kernel_rfl) fun k hk => ?_; simp [h0, hnm, hm])
    | (refine V_sblock ?_; simp [h0, hnm, hm])
    | (refine V_ret ?_; simp only [RunK])
    | fail)
        (refine EndOK.val (.inr rfl) ?_; simp [resD, oneOrTup, pureD, Try.results70])
        simp [sF, hma]
      | none =>
        rw [hma] at hm
        simp only [Option.map_none] at hm
        (refine Fun.of_body Try.func70 rfl (by simp) fun Γ hn => ?_); simp only [entry, List.zipIdx_cons, List.zipIdx_nil, List.map_cons, List.map_nil, Nat.zero_add, Try.ntmps70]
        simp only [eagg, jU]
        repeat' (first
    | (refine H_cons ?_; simp [h0, hnm, hm])
    | (refine HD_cons ?_; simp [h0, hnm, hm])
    | (refine H_nil ?_; simp [h0, hnm, hm])
    | (refine V_sseq ?_; simp [h0, hnm, hm])
    | (refine V_scond ?_; simp [h0, hnm, hm])
    | (refine HD_nil ?_)
    | (refine hk _ ?_; clear hk k; simp only [RunK])
    | (refine V_drawV rfl (by kernel_rfl) (by kernel_rfl) fun k hk => ?_; simp [h0, hnm, hm])
    | (refine V_sblock ?_; simp [h0, hnm, hm])
    | (refine V_ret ?_; simp only [RunK])
    | fail)
        (refine EndOK.val (.inr rfl) ?_; simp [resD, oneOrTup, pureD, Try.results70])
        simp [sF, hma]
    rw [if_neg hnm]
    have hr := h4 h0 hnm
    by_cases hA : e.op = 2 ∨ e.op = 3 ∨ e.op = 6 ∨ e.op = 7
    · rw [if_pos hA]
      have hl : e.args.length = 2 := by
        rcases hA with ha | ha | ha | ha <;> rw [ha] at h1 <;> simp [operandsI] at h1 <;> omega
      obtain ⟨a, b, hab⟩ : ∃ a b, e.args = [a, b] := by
        match hq : e.args, hl with
        | [a, b], _ => exact ⟨a, b, rfl⟩
      have h5 := share_fun g m d a (hr a (by simp [hab]))
      simp only [eagg, jU] at h5
      rw [hab, shareN]
      rcases hA with ha | ha | ha | ha
      all_goals
        (refine Fun.of_body Try.func70 rfl (by simp) fun Γ hn => ?_); simp only [entry, List.zipIdx_cons, List.zipIdx_nil, List.map_cons, List.map_nil, Nat.zero_add, Try.ntmps70]
        simp only [eagg, jU]
        repeat' (first
    | (refine H_cons ?_; simp [ha, hab, a.row_eq, b.row_eq])
    | (refine H_nil ?_; simp [ha, hab, a.row_eq, b.row_eq])
    | (refine V_sseq ?_; simp [ha, hab, a.row_eq, b.row_eq])
    | (refine V_scond ?_; simp [ha, hab, a.row_eq, b.row_eq])
    | (refine V_sblock ?_; simp [ha, hab, a.row_eq, b.row_eq])
    | (refine V_sregion ?_; simp [ha, hab, a.row_eq, b.row_eq])
    | (refine V_ret ?_; simp only [RunK])
    | (refine V_skip ?_; simp only [RunK])
    | (refine CallP.fun_ (h5) (by first | rfl | fail) (by first | assumption | (simp; done) | fail) (by first | (simp [ha, hab, a.row_eq, b.row_eq]; done) | (simp [ha, hab, a.row_eq, b.row_eq]; rfl) | fail) (by first | (simp; done) | fail) (fun d hd => ?_); subst hd; (try simp [ha, hab, a.row_eq, b.row_eq]))
    | fail)
        (refine EndOK.val (.inr rfl) ?_; simp [resD, oneOrTup, pureD, Try.results70])
    rw [if_neg hA]
    by_cases hB : e.op = 4
    · rw [if_pos hB]
      have hl : e.args.length = 2 := by rw [hB] at h1; simp [operandsI] at h1; omega
      obtain ⟨a, b, hab⟩ : ∃ a b, e.args = [a, b] := by
        match hq : e.args, hl with
        | [a, b], _ => exact ⟨a, b, rfl⟩
      have h5 := share_fun g m d a (hr a (by simp [hab]))
      have h6 := share_fun g m d b (hr b (by simp [hab]))
      simp only [eagg, jU] at h5 h6
      rw [hab, shareN, shareN, shareN]
      generalize shareS (sF m) a = x1 at h5 ⊢
      generalize shareS (sF m) b = x2 at h6 ⊢
      (refine Fun.of_body Try.func70 rfl (by simp) fun Γ hn => ?_); simp only [entry, List.zipIdx_cons, List.zipIdx_nil, List.map_cons, List.map_nil, Nat.zero_add, Try.ntmps70]
      simp only [eagg, jU]
      repeat' (first
    | (refine H_cons ?_; simp [hB, hab, a.row_eq, b.row_eq])
    | (refine H_nil ?_; simp [hB, hab, a.row_eq, b.row_eq])
    | (refine V_sseq ?_; simp [hB, hab, a.row_eq, b.row_eq])
    | (refine V_scond ?_; simp [hB, hab, a.row_eq, b.row_eq])
    | (refine V_sblock ?_; simp [hB, hab, a.row_eq, b.row_eq])
    | (refine V_sregion ?_; simp [hB, hab, a.row_eq, b.row_eq])
    | (refine V_ret ?_; simp only [RunK])
    | (refine ⟨fun hc => ?_, fun hc => ?_⟩ <;> (try (exfalso; omega)))
    | (refine CallP.fun_ (h5) (by first | rfl | fail) (by first | assumption | (simp; done) | fail) (by first | (simp [hB, hab, a.row_eq, b.row_eq]; done) | (simp [hB, hab, a.row_eq, b.row_eq]; rfl) | fail) (by first | (simp; done) | fail) (fun d hd => ?_); subst hd; (try simp [hB, hab, a.row_eq, b.row_eq]))
    | (refine CallP.fun_ (h6) (by first | rfl | fail) (by first | assumption | (simp; done) | fail) (by first | (simp [hB, hab, a.row_eq, b.row_eq]; done) | (simp [hB, hab, a.row_eq, b.row_eq]; rfl) | fail) (by first | (simp; done) | fail) (fun d hd => ?_); subst hd; (try simp [hB, hab, a.row_eq, b.row_eq]))
    | fail)
      all_goals
        (refine EndOK.val (.inr rfl) ?_; simp [resD, oneOrTup, pureD, Try.results70])
      all_goals (simp_all; done)
    rw [if_neg hB]
    by_cases hC : e.op = 13
    · rw [if_pos hC]
      have hl : e.args.length = 3 := by rw [hC] at h1; simp [operandsI] at h1; omega
      obtain ⟨a, b, c, hab⟩ : ∃ a b c, e.args = [a, b, c] := by
        match hq : e.args, hl with
        | [a, b, c], _ => exact ⟨a, b, c, rfl⟩
      have h5 := share_fun g m d b (hr b (by simp [hab]))
      simp only [eagg, jU] at h5
      rw [hab, shareN, shareN]
      (refine Fun.of_body Try.func70 rfl (by simp) fun Γ hn => ?_); simp only [entry, List.zipIdx_cons, List.zipIdx_nil, List.map_cons, List.map_nil, Nat.zero_add, Try.ntmps70]
      simp only [eagg, jU]
      repeat' (first
    | (refine H_cons ?_; simp [hC, hab, a.row_eq, b.row_eq, c.row_eq])
    | (refine H_nil ?_; simp [hC, hab, a.row_eq, b.row_eq, c.row_eq])
    | (refine V_sseq ?_; simp [hC, hab, a.row_eq, b.row_eq, c.row_eq])
    | (refine V_scond ?_; simp [hC, hab, a.row_eq, b.row_eq, c.row_eq])
    | (refine V_sblock ?_; simp [hC, hab, a.row_eq, b.row_eq, c.row_eq])
    | (refine V_sregion ?_; simp [hC, hab, a.row_eq, b.row_eq, c.row_eq])
    | (refine V_ret ?_; simp only [RunK])
    | (refine CallP.fun_ (h5) (by first | rfl | fail) (by first | assumption | (simp; done) | fail) (by first | (simp [hC, hab, a.row_eq, b.row_eq, c.row_eq]; done) | (simp [hC, hab, a.row_eq, b.row_eq, c.row_eq]; rfl) | fail) (by first | (simp; done) | fail) (fun d hd => ?_); subst hd; (try simp [hC, hab, a.row_eq, b.row_eq, c.row_eq]))
    | fail)
      (refine EndOK.val (.inr rfl) ?_; simp [resD, oneOrTup, pureD, Try.results70])
    rw [if_neg hC]
    have hD : ¬ e.op = 2 ∧ ¬ e.op = 3 ∧ ¬ e.op = 6 ∧ ¬ e.op = 7 := by omega
    (refine Fun.of_body Try.func70 rfl (by simp) fun Γ hn => ?_); simp only [entry, List.zipIdx_cons, List.zipIdx_nil, List.map_cons, List.map_nil, Nat.zero_add, Try.ntmps70]
    simp only [eagg, jU]
    repeat' (first
    | (refine H_cons ?_; simp [h0, hnm, hB, hC, hD.1, hD.2.1, hD.2.2.1, hD.2.2.2])
    | (refine H_nil ?_; simp [h0, hnm, hB, hC, hD.1, hD.2.1, hD.2.2.1, hD.2.2.2])
    | (refine V_sseq ?_; simp [h0, hnm, hB, hC, hD.1, hD.2.1, hD.2.2.1, hD.2.2.2])
    | (refine V_scond ?_; simp [h0, hnm, hB, hC, hD.1, hD.2.1, hD.2.2.1, hD.2.2.2])
    | (refine V_sblock ?_; simp [h0, hnm, hB, hC, hD.1, hD.2.1, hD.2.2.1, hD.2.2.2])
    | (refine V_sregion ?_; simp [h0, hnm, hB, hC, hD.1, hD.2.1, hD.2.2.1, hD.2.2.2])
    | (refine V_ret ?_; simp only [RunK])
    | (refine V_skip ?_; simp only [RunK])
    | fail)
    (refine EndOK.val (.inr rfl) ?_; simp [resD, oneOrTup, pureD, Try.results70])
theorem nj1_fun (l : Let) : Fun Try.prog 72 (lagg l :: [].map .u) (· = .u (.bool (!rightB 12 l.body))) := by
  have h1 := rightExp_fun l.body
  simp only [lagg, List.map_nil, eagg] at h1 ⊢
  (refine Fun.of_body Try.func72 rfl (by simp) fun Γ hn => ?_); simp only [entry, List.zipIdx_cons, List.zipIdx_nil, List.map_cons, List.map_nil, Nat.zero_add, Try.ntmps72]
  repeat' (first
    | (refine H_cons ?_; simp)
    | (refine H_nil ?_; simp)
    | (refine V_sseq ?_; simp)
    | (refine V_ret ?_; simp only [RunK])
    | (refine CallP.fun_ (h1) (by first | rfl | fail) (by first | assumption | (simp; done) | fail) (by first | (simp; done) | (simp; rfl) | fail) (by first | (simp; done) | fail) (fun d hd => ?_); subst hd; (try simp))
    | fail)
  (refine EndOK.val (.inr rfl) ?_; simp [resD, oneOrTup, pureD, Try.results72])
def varsU (l : List Var) : U := .sl (l.map fun v => [.str v.name, .int .i64 v.unit, .int .i64 v.n])
/-- What the given names mean. -/
def gOf (names : List Var) : GM := names.foldl (fun g v => if asc g v.name = none then ascPut g v.name v.unit else g) []
/-- What the lets mean. -/
def mOf (g : GM) (lets : List Let) : LM := lets.foldl (fun m l => ascPut m l.name ((unitS (gF g) (mF m) l.body).1, (unitS (gF g) (mF m) l.body).2, shareS (sF m) l.body)) []
def unitOK (v : Var) : Bool := decide (0 ≤ v.unit) && decide (v.unit < 5)
def rightAll (lets : List Let) (e : Exp) : Bool := decide (lets.length ≤ 20) && rightB 12 e && !lets.any (fun l => !rightB 12 l.body)
def okJ (lets : List Let) (names : List Var) (e : Exp) : Bool := rightAll lets e && names.all unitOK
def judgeD (lets : List Let) (names : List Var) (e : Exp) : D := if okJ lets names e = true then .tup [.u (jU (gOf names) (mOf (gOf names) lets)), .u (.bool true)] else .tup [.u (.oth (.pointer none)), .u (.bool false)]
theorem upd_g (g : GM) (x : List UInt8) (u : Int) : updK (gmap g) (.s x) [U.int .i64 u] = gmap (ascPut g x u) := updK_asc (fun u : Int => [U.int .i64 u]) x u g
theorem upd_m (g : LM) (x : List UInt8) (u e : Int) (b : Bool) : updK (lmap g) (.s x) [U.int .i64 u, .int .i64 e, .bool b] = lmap (ascPut g x (u, e, b)) := updK_asc (fun q : Int × Int × Bool => [U.int .i64 q.1, .int .i64 q.2.1, .bool q.2.2]) x (u, e, b) g
theorem foldl_succ {α β : Type} (f : β → α → β) (b : β) {l : List α} {i : Nat} {x : α} (h : l[i]? = some x) : (l.take (i + 1)).foldl f b = f ((l.take i).foldl f b) x := by
  obtain ⟨hi, rfl⟩ := List.getElem?_eq_some_iff.1 h
  rw [List.take_succ_eq_append_getElem hi, List.foldl_append]
  rfl
theorem gOf_succ {names : List Var} {i : Nat} {v : Var} (h : names[i]? = some v) : gOf (names.take (i + 1)) = if asc (gOf (names.take i)) v.name = none then ascPut (gOf (names.take i)) v.name v.unit else gOf (names.take i) := foldl_succ _ _ h
theorem mOf_succ {g : GM} {lets : List Let} {i : Nat} {l : Let} (h : lets[i]? = some l) : mOf g (lets.take (i + 1)) = ascPut (mOf g (lets.take i)) l.name ((unitS (gF g) (mF (mOf g (lets.take i))) l.body).1, (unitS (gF g) (mF (mOf g (lets.take i))) l.body).2, shareS (sF (mOf g (lets.take i))) l.body) := foldl_succ _ _ h
theorem judge_fun (lets : List Let) (names : List Var) (e : Exp) : Fun Try.prog 69 [.u (letsU lets), .u (varsU names), eagg e] (· = judgeD lets names e) := by
  have h1 := rightExp_fun e
  have h2 := containsL_fun lets 72 [] _ (fun x _ => nj1_fun x) (by simp) (fun _ => rfl) (fun _ => rfl)
  simp only [List.map_nil, letsU, eagg] at h1 h2
  generalize hre : rightB 12 e = re at h1
  generalize hrl : (lets.any fun l => !rightB 12 l.body) = rl at h2
  have hok0 : okJ lets names e = (decide (lets.length ≤ 20) && re && !rl && names.all unitOK) := by rw [okJ, rightAll, hre, hrl]
  have hre' := hre
  have hrl' := hrl
  clear hre hrl
  unfold judgeD
  generalize okJ lets names e = K at hok0 ⊢
  (refine Fun.of_bodyW Try.func69 rfl (by simp) fun Γ hn => ?_); simp only [entry, List.zipIdx_cons, List.zipIdx_nil, List.map_cons, List.map_nil, Nat.zero_add, Try.ntmps69]
  simp only [eagg, letsU, varsU]
  refine V_len (x := 0) rfl fun hl0 => ?_
  refine V_len (x := 1) rfl fun hl1 => ?_
  simp only [List.length_map] at hl0 hl1
  repeat' (first
    | (refine H_cons ?_; simp)
    | (refine H_nil ?_; simp)
    | (refine V_sseq ?_; simp)
    | (refine V_scond ?_; simp)
    | (refine V_sblock ?_; simp)
    | (refine V_ret ?_; simp only [RunK])
    | (refine V_skip ?_; simp only [RunK])
    | (refine ⟨fun hc => ?_, fun hc => ?_⟩ <;> (try (exfalso; omega)))
    | (refine CallP.fun_ (h1) (by first | rfl | fail) (by first | assumption | (simp; done) | fail) (by first | (simp; done) | (simp; rfl) | fail) (by first | (simp; done) | fail) (fun d hd => ?_); subst hd; (try simp))
    | (refine CallP.fun_ (h2) (by first | rfl | fail) (by first | assumption | (simp; done) | fail) (by first | (simp; done) | (simp; rfl) | fail) (by first | (simp; done) | fail) (fun d hd => ?_); subst hd; (try simp))
    | fail)
  all_goals try (refine EndW.here ?_; have hKf : K = false := (by first | (rw [hok0]; clear h1 h2 hok0 hre' hrl'; simp; intros; simp_all; done) | (rw [hok0]; clear h1 h2 hok0 hre' hrl'; simp; intros; omega) | fail); subst hKf; (refine EndOK.val (.inr rfl) ?_; simp [resD, oneOrTup, pureD, Try.results69]); done)
  refine V_loopO (α := { i : Nat // i ≤ names.length ∧ ∀ v ∈ names.take i, unitOK v = true }) [0, 8, 33, 34] (fun i => [(35, .u (.int .i64 i.1))])
    (fun i => [(3, .box [.mp 1, .mp 2]), (2, .map .s true []), (1, .map .s false (entD (gmap (gOf (names.take i.1))))), (0, .box [.u (.int .i64 e.op), .u (.int .i64 e.n), .u (.int .i64 e.unit), .u (.str e.s), .u (.sl (e.args.map Exp.row))])]) 4
    (fun i => names.length - i.1) ⟨0, by omega, by simp⟩ ?_ ?_
  · exact (Wk.cut rfl (by simp [hn, St.lp]) (by simp [wkO, St.lp, getK_cons, getK, Ob.under, D.under, under_rowsD, under_entD, gOf, gmap, entD_nil, Ob.under]) (by simp [wkU, St.lp, keepE, getK_cons, getK, D.under, gOf, gmap, entD_nil, Ob.under]) (by simp [wkE, St.lp, keepE, getK_cons, getK, gOf, gmap, entD_nil, Ob.under] <;> (try (intros; simp_all; done)) <;> (try (intros; omega)) <;> (try grind)))
  rintro ⟨i, hi, hb⟩
  simp [St.lp, St.only, keepE, getK_cons, getK]
  rcases hx : names[i]? with _ | v
  · have hge : names.length ≤ i := by simpa using hx
    obtain rfl : i = names.length := by omega
    rw [List.take_length] at hb
    have hall : names.all unitOK = true := by simpa [List.all_eq_true] using hb
    repeat' (first
    | (refine H_cons ?_; simp [hx])
    | (refine H_nil ?_; simp [hx])
    | (refine V_sseq ?_; simp [hx])
    | (refine V_sblock ?_; simp [hx])
    | (refine V_exit ?_; simp [RunK])
    | fail)
    refine V_loopO (α := { i : Nat // i ≤ lets.length }) [8, 68, 69] (fun i => [(70, .u (.int .i64 i.1))])
      (fun i => [(3, .box [.mp 1, .mp 2]), (2, .map .s true (entD (lmap (mOf (gOf names) (lets.take i.1))))), (1, .map .s false (entD (gmap (gOf names)))), (0, .box [.u (.int .i64 e.op), .u (.int .i64 e.n), .u (.int .i64 e.unit), .u (.str e.s), .u (.sl (e.args.map Exp.row))])]) 4
      (fun i => lets.length - i.1) ⟨0, by omega⟩ ?_ ?_
    · exact (Wk.cut rfl (by simp [hn, St.lp]) (by simp [wkO, St.lp, getK_cons, getK, Ob.under, D.under, under_rowsD, under_entD, mOf, lmap, entD_nil, Ob.under]) (by simp [wkU, St.lp, keepE, getK_cons, getK, D.under, mOf, lmap, entD_nil, Ob.under]) (by simp [wkE, St.lp, keepE, getK_cons, getK, mOf, lmap, entD_nil, Ob.under] <;> (try (intros; simp_all; done)) <;> (try (intros; omega)) <;> (try grind)))
    rintro ⟨k, hk0⟩
    simp [St.lp, St.only, keepE, getK_cons, getK]
    rcases hy : lets[k]? with _ | l
    · have hgk : lets.length ≤ k := by simpa using hy
      obtain rfl : k = lets.length := by omega
      obtain rfl : K = true := by
        rw [hok0, hall]
        have : lets.length ≤ 20 := by omega
        clear h1 h2
        simp_all
      repeat' (first
    | (refine H_cons ?_; simp [hy])
    | (refine H_nil ?_; simp [hy])
    | (refine V_sseq ?_; simp [hy])
    | (refine V_ret ?_; simp only [RunK])
    | (refine V_exit ?_; simp [RunK])
    | fail)
      (refine EndW.frzN 2 ?_; simp [frzN, frz1, frz_env, frz_obs, St.frz, St.frzS, frzS, fv, fzVec, fzMap, fzBox, frzObS, frz_entD, frz_rowsD, del, frz, frzOb])
      (refine EndW.frzB 3 ?_; simp [frzB, frz_env, frz_obs, St.frzS, frzS, fv, fzVec, fzMap, fzBox, frzObS, frz_entD, frz_rowsD, del])
      refine EndW.here ?_
      (refine EndOK.val (.inr rfl) ?_; simp [resD, oneOrTup, pureD, Try.results69])
      rfl
    · have hltk : k < lets.length := (List.getElem?_eq_some_iff.1 hy).1
      have hsu := mOf_succ (g := gOf names) hy
      have hrl : rightB 12 l.body = true := by
        have h7 : (lets.any fun l => !rightB 12 l.body) = false := by rw [hrl']; assumption
        rw [List.any_eq_false] at h7
        simpa using h7 l (List.mem_of_getElem? hy)
      have h5 := unit_fun (gOf names) (mOf (gOf names) (lets.take k)) 12 l.body hrl
      have h6 := share_fun (gOf names) (mOf (gOf names) (lets.take k)) 12 l.body hrl
      simp only [eagg, jU] at h5 h6
      repeat' (first
    | (refine H_cons ?_; simp [hy, upd_m])
    | (refine HD2_val rfl ?_; simp [hy, upd_m])
    | (refine HD2_chg rfl ?_; simp [hy, upd_m])
    | (refine H_nil ?_; simp [hy, upd_m])
    | (refine ⟨by omega, ?_⟩)
    | (refine V_sseq ?_; simp [hy, upd_m])
    | (refine HD2_nil (hC _ (by kernel_rfl)) (hk _ ?_); clear hC hk C k; simp only [RunK])
    | (refine V_drawE rfl (by kernel_rfl) (by kernel_rfl) (by simp [hn]) fun C k hC hk => ?_; simp [hy, upd_m])
    | (refine V_sregion ?_; simp [hy, upd_m])
    | (refine V_skip ?_; simp only [RunK])
    | (refine ⟨?_, by omega⟩)
    | (intro hc <;> (try (exfalso; omega)))
    | (refine CallP.fun_ (h5) (by first | rfl | fail) (by first | assumption | (simp; done) | fail) (by first | (simp [hy, upd_m]; done) | (simp [hy, upd_m]; rfl) | fail) (by first | (simp; done) | fail) (fun d hd => ?_); subst hd; (try simp [hy, upd_m]))
    | (refine CallV.fun_ (h6) (by first | rfl | fail) (by first | assumption | (simp; done) | fail) (by first | (simp [hy, upd_m]; done) | (simp [hy, upd_m]; rfl) | fail) (by first | (simp; done) | fail) ?_ <;> (try simp [hy, upd_m]))
    | fail)
      refine LoopW.next ⟨k + 1, by omega⟩ (by simp; omega) ?_
      exact (Wk.cut rfl (by simp [hn, St.lp]) (by simp [wkO, St.lp, getK_cons, getK, Ob.under, D.under, under_rowsD, under_entD, hsu]) (by simp [wkU, St.lp, keepE, getK_cons, getK, D.under, hsu]) (by simp [wkE, St.lp, keepE, getK_cons, getK, hsu] <;> (try (intros; simp_all; done)) <;> (try (intros; omega)) <;> (try grind)))
  · have hlt : i < names.length := (List.getElem?_eq_some_iff.1 hx).1
    have hg := look_g (gOf (names.take i)) v.name
    have hsu := gOf_succ hx
    have hok : unitOK v = (decide (0 ≤ v.unit) && decide (v.unit < 5)) := rfl
    have hbad : unitOK v = false → names.all unitOK = false := fun h => by
      rw [List.all_eq_false]
      exact ⟨v, List.mem_of_getElem? hx, by simp [h]⟩
    cases hga : asc (gOf (names.take i)) v.name with
    | some u =>
      rw [hga] at hg hsu
      simp only [Option.map_some] at hg
      repeat' (first
    | (refine H_cons ?_; simp [hx, hg])
    | (refine HD_cons ?_; simp [hx, hg])
    | (refine H_nil ?_; simp [hx, hg])
    | (refine ⟨by omega, ?_⟩)
    | (refine V_sseq ?_; simp [hx, hg])
    | (refine V_scond ?_; simp [hx, hg])
    | (refine HD_nil ?_)
    | (refine hk _ ?_; clear hk k; simp only [RunK])
    | (refine V_drawV rfl (by kernel_rfl) (by kernel_rfl) fun k hk => ?_; simp [hx, hg])
    | (refine V_sregion ?_; simp [hx, hg])
    | (refine V_ret ?_; simp only [RunK])
    | (refine V_skip ?_; simp only [RunK])
    | (refine ⟨?_, by omega⟩)
    | (refine ⟨fun hc => ?_, fun hc => ?_⟩ <;> (try (exfalso; omega)))
    | (intro hc <;> (try (exfalso; omega)))
    | fail)
      all_goals first
        | (refine LoopW.next ⟨i + 1, by omega, take_succ_all hx hb (by rw [hok]; simp; omega)⟩ (by simp; omega) ?_; exact (Wk.cut rfl (by simp [hn, St.lp]) (by simp [wkO, St.lp, getK_cons, getK, Ob.under, D.under, under_rowsD, under_entD, hsu]) (by simp [wkU, St.lp, keepE, getK_cons, getK, D.under, hsu]) (by simp [wkE, St.lp, keepE, getK_cons, getK, hsu] <;> (try (intros; simp_all; done)) <;> (try (intros; omega)) <;> (try grind))))
        | (refine EndW.here ?_; have hKf : K = false := (by first | (rw [hok0, hbad (by rw [hok]; simp; omega)]; simp; done) | fail); subst hKf; (refine EndOK.val (.inr rfl) ?_; simp [resD, oneOrTup, pureD, Try.results69]))
    | none =>
      rw [hga] at hg hsu
      simp only [Option.map_none] at hg
      repeat' (first
    | (refine H_cons ?_; simp [hx, hg, upd_g])
    | (refine HD2_val rfl ?_; simp [hx, hg, upd_g])
    | (refine HD_cons ?_; simp [hx, hg, upd_g])
    | (refine HD2_chg rfl ?_; simp [hx, hg, upd_g])
    | (refine H_nil ?_; simp [hx, hg, upd_g])
    | (refine ⟨by omega, ?_⟩)
    | (refine V_sseq ?_; simp [hx, hg, upd_g])
    | (refine V_scond ?_; simp [hx, hg, upd_g])
    | (refine HD2_nil (hC _ (by kernel_rfl)) (hk _ ?_); clear hC hk C k; simp only [RunK])
    | (refine HD_nil ?_)
    | (refine hk _ ?_; clear hk k; simp only [RunK])
    | (refine V_drawV rfl (by kernel_rfl) (by kernel_rfl) fun k hk => ?_; simp [hx, hg, upd_g])
    | (refine V_drawE rfl (by kernel_rfl) (by kernel_rfl) (by simp [hn]) fun C k hC hk => ?_; simp [hx, hg, upd_g])
    | (refine V_sregion ?_; simp [hx, hg, upd_g])
    | (refine V_ret ?_; simp only [RunK])
    | (refine V_skip ?_; simp only [RunK])
    | (refine ⟨?_, by omega⟩)
    | (refine ⟨fun hc => ?_, fun hc => ?_⟩ <;> (try (exfalso; omega)))
    | (intro hc <;> (try (exfalso; omega)))
    | fail)
      all_goals first
        | (refine LoopW.next ⟨i + 1, by omega, take_succ_all hx hb (by rw [hok]; simp; omega)⟩ (by simp; omega) ?_; exact (Wk.cut rfl (by simp [hn, St.lp]) (by simp [wkO, St.lp, getK_cons, getK, Ob.under, D.under, under_rowsD, under_entD, hsu]) (by simp [wkU, St.lp, keepE, getK_cons, getK, D.under, hsu]) (by simp [wkE, St.lp, keepE, getK_cons, getK, hsu] <;> (try (intros; simp_all; done)) <;> (try (intros; omega)) <;> (try grind))))
        | (refine EndW.here ?_; have hKf : K = false := (by first | (rw [hok0, hbad (by rw [hok]; simp; omega)]; simp; done) | fail); subst hKf; (refine EndOK.val (.inr rfl) ?_; simp [resD, oneOrTup, pureD, Try.results69]))
end Go.Proofs.Ytmoohdpnmkkgpaa
namespace Go.Proofs.Ytmoohdpnmkkgpaa
open Go Go.VL
theorem rights_out {lets : List Let} {e : Exp} (h : rightAll lets e = true) : lets.length ≤ 20 ∧ rightB 12 e = true ∧ ∀ l ∈ lets, rightB 12 l.body = true := by
  simp only [rightAll, Bool.and_eq_true, decide_eq_true_eq, Bool.not_eq_true', List.any_eq_false, Bool.not_eq_true] at h
  exact ⟨h.1.1, h.1.2, fun l hl => by have := h.2 l hl; simpa using this⟩
def shareP (lets : List Let) (e : Exp) : Bool := rightAll lets e && shareS (sF (mOf [] lets)) e
abbrev Tab := List (Int × Int × Bool)
/-- A number that is not too great. -/
def keptX (n : Int) : Except Int Int := if 1099511627776 < n ∨ n < -1099511627776 then .error 3 else .ok n
def floorX (a b : Int) : Int := if a.tdiv b * b ≠ a ∧ ¬ (a < 0 ↔ b < 0) then a.tdiv b - 1 else a.tdiv b
def prodX (a b c : Int) : Except Int Int :=
  if a ≠ 0 ∧ ((1099511627777 * c).tdiv (max a (-a)) < b ∨ b < (-(1099511627777 * c)).tdiv (max a (-a))) then .error 3 else keptX (floorX (a * b) c)
def truthX (b : Bool) : Int := if b = true then 1 else 0
def binX (op : Int) (sh : Bool) (a b : Int) : Except Int Int :=
  if op = 2 then keptX (a + b) else if op = 3 then keptX (a - b) else if op = 4 then prodX a b (if sh = true then 1000 else 1)
  else if op = 5 then (if b = 0 then .error 15 else keptX (floorX a b))
  else if op = 6 then .ok (min a b) else if op = 7 then .ok (max a b) else if op = 8 then .ok (truthX (decide (a < b))) else .ok (truthX (decide (a = b)))
abbrev TM := Tab → Except Int Int × Tab
def TM.bind (f : TM) (g : Int → TM) : TM := fun t => match f t with | (.ok v, t') => g v t' | (.error e, t') => (.error e, t')
def TM.ret (x : Except Int Int) : TM := fun t => (x, t)
theorem TM.bind_ok {f : TM} {g : Int → TM} {t t' : Tab} {v : Int} (h : f t = (.ok v, t')) : f.bind g t = g v t' := by unfold TM.bind; rw [h]
theorem TM.bind_err {f : TM} {g : Int → TM} {t t' : Tab} {e : Int} (h : f t = (.error e, t')) : f.bind g t = (.error e, t') := by unfold TM.bind; rw [h]
mutual
def valT (nm : List UInt8 → TM) (sh : Exp → Bool) : Exp → TM
  | .mk op n _ s args =>
    if op = 0 then .ret (keptX n)
    else if op = 1 then nm s
    else if op = 10 then (valN nm sh args 0).bind fun a => if a = 0 then .ret (.ok 0) else (valN nm sh args 1).bind fun b => .ret (.ok (truthX (decide (b ≠ 0))))
    else if op = 11 then (valN nm sh args 0).bind fun a => if a ≠ 0 then .ret (.ok 1) else (valN nm sh args 1).bind fun b => .ret (.ok (truthX (decide (b ≠ 0))))
    else if op = 12 then (valN nm sh args 0).bind fun a => .ret (.ok (truthX (decide (a = 0))))
    else if op = 13 then (valN nm sh args 0).bind fun a => if a ≠ 0 then valN nm sh args 1 else valN nm sh args 2
    else (valN nm sh args 0).bind fun a => (valN nm sh args 1).bind fun b => .ret (binX op ((args.take 2).any sh) a b)
def valN (nm : List UInt8 → TM) (sh : Exp → Bool) : List Exp → Nat → TM
  | [], _ => .ret (.error 0)
  | e :: _, 0 => valT nm sh e
  | _ :: r, i + 1 => valN nm sh r i
end
theorem valN_at {nm sh} : ∀ {l : List Exp} {i : Nat} {e : Exp}, l[i]? = some e → valN nm sh l i = valT nm sh e
  | [], _, _, h => by simp at h
  | a :: r, 0, e, h => by simp at h; subst h; rw [valN]
  | a :: r, i + 1, e, h => by rw [valN]; exact valN_at (by simpa using h)
theorem valT_eq (nm sh) (e : Exp) : valT nm sh e = if e.op = 0 then .ret (keptX e.n)
    else if e.op = 1 then nm e.s
    else if e.op = 10 then (valN nm sh e.args 0).bind fun a => if a = 0 then .ret (.ok 0) else (valN nm sh e.args 1).bind fun b => .ret (.ok (truthX (decide (b ≠ 0))))
    else if e.op = 11 then (valN nm sh e.args 0).bind fun a => if a ≠ 0 then .ret (.ok 1) else (valN nm sh e.args 1).bind fun b => .ret (.ok (truthX (decide (b ≠ 0))))
    else if e.op = 12 then (valN nm sh e.args 0).bind fun a => .ret (.ok (truthX (decide (a = 0))))
    else if e.op = 13 then (valN nm sh e.args 0).bind fun a => if a ≠ 0 then valN nm sh e.args 1 else valN nm sh e.args 2
    else (valN nm sh e.args 0).bind fun a => (valN nm sh e.args 1).bind fun b => .ret (binX e.op ((e.args.take 2).any sh) a b) := by
  cases e with | mk op n u s args => rw [valT]; rfl
/-- The value and the error that a let's entry holds. -/
def entX : Except Int Int → Int × Int × Bool
  | .ok v => (v, 0, true)
  | .error e => (0, e, true)
def outX (v e : Int) : Except Int Int := if e = 0 then .ok v else .error e
def nmT (lets : List Let) (given : List UInt8 → Option Int) : Nat → List UInt8 → TM
  | 0, s => .ret (match given s with | some v => .ok v | none => .error 13)
  | n + 1, s => match given s with
    | some v => .ret (.ok v)
    | none => match lets[n]? with
      | none => .ret (.error 13)
      | some l => if l.name = s then fun t => match t[n]? with
          | some (v, e, true) => (outX v e, t)
          | _ => match valT (nmT lets given n) (shareP (lets.take n)) l.body t with
            | (r, t') => (outX (entX r).1 (entX r).2.1, t'.set n (entX r))
        else nmT lets given n s
/-- The value of an expression, for the first n lets. -/
def valL (lets : List Let) (given : List UInt8 → Option Int) (n : Nat) (e : Exp) : TM := valT (nmT lets given n) (shareP (lets.take n)) e
def inC (v : Int) : Prop := -1099511627776 ≤ v ∧ v ≤ 1099511627776
theorem keptX_in {n v : Int} (h : keptX n = .ok v) : inC v ∧ v = n := by
  unfold keptX at h
  split at h
  · cases h
  · cases h; exact ⟨by unfold inC; omega, rfl⟩
theorem keptX_err {n e : Int} (h : keptX n = .error e) : e = 3 := by
  unfold keptX at h
  split at h <;> cases h
  rfl
theorem prodX_in {a b c v : Int} (h : prodX a b c = .ok v) : inC v := by
  unfold prodX at h
  split at h
  · cases h
  · exact (keptX_in h).1
theorem prodX_err {a b c e : Int} (h : prodX a b c = .error e) : e = 3 := by
  unfold prodX at h
  split at h
  · cases h; rfl
  · exact keptX_err h
theorem truthX_in (b : Bool) : inC (truthX b) := by unfold inC truthX; split <;> omega
theorem binX_in {op sh a b v} (ha : inC a) (hb : inC b) (h : binX op sh a b = .ok v) : inC v := by
  unfold binX at h
  repeat' split at h
  all_goals first
    | exact (keptX_in h).1
    | exact prodX_in h
    | (cases h; done)
    | (cases h; exact truthX_in _)
    | (cases h; unfold inC at *; omega)
theorem binX_err {op sh a b e} (h : binX op sh a b = .error e) : e = 3 ∨ e = 15 := by
  unfold binX at h
  repeat' split at h
  all_goals first
    | exact .inl (keptX_err h)
    | exact .inl (prodX_err h)
    | (cases h; done)
    | (cases h; exact .inr rfl)
/-- What is known of a table: as many entries as lets, and small values. -/
structure TabOK (L : Nat) (t : Tab) : Prop where
  len : t.length = L
  small : ∀ (i : Nat) (v e : Int) (d : Bool), t[i]? = some (v, e, d) → inC v
def TMok (L : Nat) (f : TM) : Prop := ∀ t, TabOK L t → TabOK L (f t).2 ∧ (∀ v, (f t).1 = .ok v → inC v) ∧ (∀ e, (f t).1 = .error e → e ≠ 0)
theorem TMok.bind {L f g} (hf : TMok L f) (hg : ∀ a, inC a → TMok L (g a)) : TMok L (TM.bind f g) := fun t ht => by
  obtain ⟨h1, h2, h3⟩ := hf t ht
  unfold TM.bind
  rcases hft : f t with ⟨r | v, t'⟩
  · rw [hft] at h1 h3
    refine ⟨h1, ?_, ?_⟩
    · intro v h; cases h
    · intro e h; exact h3 e h
  · rw [hft] at h1 h2
    exact hg v (h2 v rfl) t' h1
theorem TMok.ret {L} {x : Except Int Int} (h : ∀ v, x = .ok v → inC v) (he : ∀ e, x = .error e → e ≠ 0) : TMok L (TM.ret x) := fun t ht => ⟨ht, h, he⟩
theorem TMok.ok {L} {v : Int} (h : inC v) : TMok L (TM.ret (.ok v)) := .ret (fun w hw => by cases hw; exact h) (fun e he => by cases he)
theorem valT_ok {L nm sh} (hn : ∀ s, TMok L (nm s)) : ∀ (d : Nat) (e : Exp), rightB d e = true → TMok L (valT nm sh e)
  | 0, e, h => by simp [rightB] at h
  | d + 1, e, h => by
    obtain ⟨h1, h2, h3, h4⟩ := right_args h
    rw [valT_eq]
    by_cases c0 : e.op = 0
    · rw [if_pos c0]
      exact .ret (fun v hv => (keptX_in hv).1) (fun e he => by rw [keptX_err he]; decide)
    rw [if_neg c0]
    by_cases c1 : e.op = 1
    · rw [if_pos c1]
      exact hn _
    rw [if_neg c1]
    have hA : ∀ i : Nat, (i : Int) < operandsI e.op → TMok L (valN nm sh e.args i) := fun i hi => by
      have hlt : i < e.args.length := by omega
      rw [valN_at (List.getElem?_eq_getElem hlt)]
      exact valT_ok hn d _ (h4 c0 c1 _ (List.getElem_mem hlt))
    have i0 : inC 0 := by unfold inC; omega
    have i1 : inC 1 := by unfold inC; omega
    by_cases c2 : e.op = 10
    · rw [if_pos c2]
      rw [c2] at hA
      refine .bind (hA 0 (by decide)) fun a ha => ?_
      split
      · exact .ok i0
      · exact .bind (hA 1 (by decide)) fun b hb => .ok (truthX_in _)
    rw [if_neg c2]
    by_cases c3 : e.op = 11
    · rw [if_pos c3]
      rw [c3] at hA
      refine .bind (hA 0 (by decide)) fun a ha => ?_
      split
      · exact .ok i1
      · exact .bind (hA 1 (by decide)) fun b hb => .ok (truthX_in _)
    rw [if_neg c3]
    by_cases c4 : e.op = 12
    · rw [if_pos c4]
      rw [c4] at hA
      exact .bind (hA 0 (by decide)) fun a ha => .ok (truthX_in _)
    rw [if_neg c4]
    by_cases c5 : e.op = 13
    · rw [if_pos c5]
      rw [c5] at hA
      refine .bind (hA 0 (by decide)) fun a ha => ?_
      split
      · exact hA 1 (by decide)
      · exact hA 2 (by decide)
    rw [if_neg c5]
    have ho : operandsI e.op = 2 := by unfold operandsI; split <;> first | omega | (split <;> first | omega | (split <;> first | omega | (split <;> omega)))
    rw [ho] at hA
    exact .bind (hA 0 (by decide)) fun a ha => .bind (hA 1 (by decide)) fun b hb => .ret (fun v hv => binX_in ha hb hv) (fun e he => by rcases binX_err he with h | h <;> omega)
theorem entX_in {r : Except Int Int} (h : ∀ v, r = .ok v → inC v) : inC (entX r).1 := by
  cases r with
  | ok v => exact h v rfl
  | error e => show inC 0; unfold inC; omega
theorem outX_in {v e : Int} (h : inC v) : ∀ w, outX v e = .ok w → inC w := fun w hw => by
  unfold outX at hw
  split at hw
  · cases hw; exact h
  · cases hw
theorem outX_err {v e w : Int} (hw : outX v e = .error w) : w ≠ 0 := by
  unfold outX at hw
  split at hw
  · cases hw
  · rename_i h; cases hw; exact h
theorem nmT_ok {lets : List Let} {given : List UInt8 → Option Int} (hl : ∀ l ∈ lets, rightB 12 l.body = true) (hg : ∀ s v, given s = some v → inC v) : ∀ n s, TMok lets.length (nmT lets given n s)
  | 0, s => by
    rw [nmT]
    cases hgs : given s with
    | some v => exact .ok (hg s v hgs)
    | none => exact .ret (fun v hv => by cases hv) (fun e he => by cases he; decide)
  | n + 1, s => by
    rw [nmT]
    cases hgs : given s with
    | some v => exact .ok (hg s v hgs)
    | none =>
      simp only
      cases hx : lets[n]? with
      | none => exact .ret (fun v hv => by cases hv) (fun e he => by cases he; decide)
      | some l =>
        simp only
        split
        · intro t ht
          have main : TabOK lets.length ((valT (nmT lets given n) (shareP (lets.take n)) l.body t).2.set n (entX (valT (nmT lets given n) (shareP (lets.take n)) l.body t).1)) ∧
              (∀ v, outX (entX (valT (nmT lets given n) (shareP (lets.take n)) l.body t).1).1 (entX (valT (nmT lets given n) (shareP (lets.take n)) l.body t).1).2.1 = .ok v → inC v) ∧
              (∀ e, outX (entX (valT (nmT lets given n) (shareP (lets.take n)) l.body t).1).1 (entX (valT (nmT lets given n) (shareP (lets.take n)) l.body t).1).2.1 = .error e → e ≠ 0) := by
            obtain ⟨g1, g2, g3⟩ := valT_ok (nmT_ok hl hg n) 12 l.body (hl l (List.mem_of_getElem? hx)) (sh := shareP (lets.take n)) t ht
            refine ⟨⟨by rw [List.length_set]; exact g1.len, fun i v e d hi => ?_⟩, outX_in (entX_in g2), fun e he => outX_err he⟩
            rw [List.getElem?_set] at hi
            split at hi
            · split at hi
              · have h5 := entX_in g2
                have h6 := Option.some.inj hi
                rw [h6] at h5
                exact h5
              · cases hi
            · exact g1.small i v e d hi
          rcases hti : t[n]? with _ | ⟨v, e, d⟩
          · simp only [hti]; exact main
          · cases d
            · simp only [hti]; exact main
            · simp only [hti]
              exact ⟨ht, outX_in (ht.small n v e true hti), fun e he => outX_err he⟩
        · exact nmT_ok hl hg n s
theorem valL_ok {lets : List Let} {given : List UInt8 → Option Int} (hl : ∀ l ∈ lets, rightB 12 l.body = true) (hg : ∀ s v, given s = some v → inC v) (n d : Nat) (e : Exp) (h : rightB d e = true) : TMok lets.length (valL lets given n e) :=
  valT_ok (nmT_ok hl hg n) d e h
end Go.Proofs.Ytmoohdpnmkkgpaa
namespace Go.Proofs.Ytmoohdpnmkkgpaa
open Go Go.VL
def TM.Pure (f : TM) : Prop := ∀ t, f t = ((f []).1, t)
theorem TM.Pure.ret (x) : TM.Pure (TM.ret x) := fun t => rfl
theorem TM.Pure.bind {f : TM} {g : Int → TM} (hf : f.Pure) (hg : ∀ a, (g a).Pure) : (f.bind g).Pure := fun t => by
  unfold TM.bind
  rw [hf t, hf []]
  rcases (f []).1 with e | v
  · rfl
  · exact hg v t
theorem TM.Pure.bind1 {f : TM} {g : Int → TM} (hf : f.Pure) (t : Tab) : (f.bind g t).1 = match (f []).1 with | .ok v => (g v t).1 | .error e => .error e := by
  unfold TM.bind
  rw [hf t]
  cases (f []).1 <;> rfl
mutual
theorem valT_pure {nm : List UInt8 → TM} {sh : Exp → Bool} (hn : ∀ s, (nm s).Pure) : ∀ e : Exp, (valT nm sh e).Pure
  | .mk op n u s args => by
    have h := fun i => valN_pure (sh := sh) hn args i
    rw [valT]
    split
    · exact .ret _
    split
    · exact hn s
    split
    · refine .bind (h 0) fun a => ?_
      split
      · exact .ret _
      · exact .bind (h 1) fun b => .ret _
    split
    · refine .bind (h 0) fun a => ?_
      split
      · exact .ret _
      · exact .bind (h 1) fun b => .ret _
    split
    · exact .bind (h 0) fun a => .ret _
    split
    · refine .bind (h 0) fun a => ?_
      split
      · exact h 1
      · exact h 2
    · exact .bind (h 0) fun a => .bind (h 1) fun b => .ret _
theorem valN_pure {nm : List UInt8 → TM} {sh : Exp → Bool} (hn : ∀ s, (nm s).Pure) : ∀ (l : List Exp) (i : Nat), (valN nm sh l i).Pure
  | [], i => by rw [valN]; exact .ret _
  | e :: l, 0 => by rw [valN]; exact valT_pure hn e
  | e :: l, i + 1 => by rw [valN]; exact valN_pure hn l i
end
/-- Names without a table. -/
def nmP (lets : List Let) (G : List UInt8 → Option Int) : Nat → List UInt8 → TM
  | 0, s => .ret (match G s with | some v => .ok v | none => .error 13)
  | n + 1, s => match G s with
    | some v => .ret (.ok v)
    | none => match lets[n]? with
      | none => .ret (.error 13)
      | some l => if l.name = s then .ret (valT (nmP lets G n) (shareP (lets.take n)) l.body []).1 else nmP lets G n s
def valX (lets : List Let) (G : List UInt8 → Option Int) (n : Nat) (e : Exp) : Except Int Int := (valT (nmP lets G n) (shareP (lets.take n)) e []).1
theorem nmP_pure {lets G} : ∀ (n : Nat) (s : List UInt8), (nmP lets G n s).Pure
  | 0, s => by rw [nmP]; exact .ret _
  | n + 1, s => by
    rw [nmP]
    split
    · exact .ret _
    · split
      · exact .ret _
      · split
        · exact .ret _
        · exact nmP_pure n s
/-- A table that holds what the lets' bodies have. -/
def TabV (lets : List Let) (G : List UInt8 → Option Int) (t : Tab) : Prop := ∀ (i : Nat) (v e : Int), t[i]? = some (v, e, true) → ∃ l, lets[i]? = some l ∧ (v, e, true) = entX (valX lets G i l.body)
def Sm (lets : List Let) (G : List UInt8 → Option Int) (f f' : TM) : Prop := ∀ t, TabOK lets.length t → TabV lets G t → (f t).1 = (f' []).1 ∧ TabV lets G (f t).2
theorem Sm.ret {lets G x} : Sm lets G (TM.ret x) (TM.ret x) := fun t _ h => ⟨rfl, h⟩
theorem Sm.bind {lets G} {f f' : TM} {g g' : Int → TM} (hf : Sm lets G f f') (hk : TMok lets.length f) (hp : f'.Pure) (hg : ∀ a, Sm lets G (g a) (g' a)) : Sm lets G (f.bind g) (f'.bind g') := fun t h1 h2 => by
  obtain ⟨e1, v1⟩ := hf t h1 h2
  obtain ⟨k1, _, _⟩ := hk t h1
  unfold TM.bind
  rcases hft : f t with ⟨er | v, t'⟩
  · rw [hft] at e1 v1
    simp only at e1 v1
    rw [hp [], ← e1]
    exact ⟨rfl, v1⟩
  · rw [hft] at e1 v1 k1
    simp only at e1 v1 k1
    rw [hp [], ← e1]
    exact hg v t' k1 v1
theorem valT_sm {lets G nm nm' sh} (hn : ∀ s, Sm lets G (nm s) (nm' s)) (ho : ∀ s, TMok lets.length (nm s)) (hp : ∀ s, (nm' s).Pure) : ∀ (d : Nat) (e : Exp), rightB d e = true → Sm lets G (valT nm sh e) (valT nm' sh e)
  | 0, e, h => by simp [rightB] at h
  | d + 1, e, h => by
    obtain ⟨h1, h2, h3, h4⟩ := right_args h
    rw [valT_eq, valT_eq]
    by_cases c0 : e.op = 0
    · rw [if_pos c0, if_pos c0]; exact .ret
    rw [if_neg c0, if_neg c0]
    by_cases c1 : e.op = 1
    · rw [if_pos c1, if_pos c1]; exact hn _
    rw [if_neg c1, if_neg c1]
    have hS : ∀ i : Nat, (i : Int) < operandsI e.op → Sm lets G (valN nm sh e.args i) (valN nm' sh e.args i) := fun i hi => by
      have hlt : i < e.args.length := by omega
      rw [valN_at (List.getElem?_eq_getElem hlt), valN_at (List.getElem?_eq_getElem hlt)]
      exact valT_sm hn ho hp d _ (h4 c0 c1 _ (List.getElem_mem hlt))
    have hO : ∀ i : Nat, (i : Int) < operandsI e.op → TMok lets.length (valN nm sh e.args i) := fun i hi => by
      have hlt : i < e.args.length := by omega
      rw [valN_at (List.getElem?_eq_getElem hlt)]
      exact valT_ok ho d _ (h4 c0 c1 _ (List.getElem_mem hlt))
    have hP : ∀ i, (valN nm' sh e.args i).Pure := fun i => valN_pure hp _ i
    by_cases c2 : e.op = 10
    · rw [if_pos c2, if_pos c2]
      rw [c2] at hS hO
      refine .bind (hS 0 (by decide)) (hO 0 (by decide)) (hP 0) fun a => ?_
      split
      · exact .ret
      · exact .bind (hS 1 (by decide)) (hO 1 (by decide)) (hP 1) fun b => .ret
    rw [if_neg c2, if_neg c2]
    by_cases c3 : e.op = 11
    · rw [if_pos c3, if_pos c3]
      rw [c3] at hS hO
      refine .bind (hS 0 (by decide)) (hO 0 (by decide)) (hP 0) fun a => ?_
      split
      · exact .ret
      · exact .bind (hS 1 (by decide)) (hO 1 (by decide)) (hP 1) fun b => .ret
    rw [if_neg c3, if_neg c3]
    by_cases c4 : e.op = 12
    · rw [if_pos c4, if_pos c4]
      rw [c4] at hS hO
      exact .bind (hS 0 (by decide)) (hO 0 (by decide)) (hP 0) fun a => .ret
    rw [if_neg c4, if_neg c4]
    by_cases c5 : e.op = 13
    · rw [if_pos c5, if_pos c5]
      rw [c5] at hS hO
      refine .bind (hS 0 (by decide)) (hO 0 (by decide)) (hP 0) fun a => ?_
      split
      · exact hS 1 (by decide)
      · exact hS 2 (by decide)
    rw [if_neg c5, if_neg c5]
    have ho : operandsI e.op = 2 := by unfold operandsI; split <;> first | omega | (split <;> first | omega | (split <;> first | omega | (split <;> omega)))
    rw [ho] at hS hO
    exact .bind (hS 0 (by decide)) (hO 0 (by decide)) (hP 0) fun a => .bind (hS 1 (by decide)) (hO 1 (by decide)) (hP 1) fun b => .ret
theorem entX_out {r : Except Int Int} (h : ∀ e, r = .error e → e ≠ 0) : outX (entX r).1 (entX r).2.1 = r := by
  cases r with
  | ok v => rfl
  | error e => simp [entX, outX, h e rfl]
theorem nmT_sm {lets : List Let} {G : List UInt8 → Option Int} (hl : ∀ l ∈ lets, rightB 12 l.body = true) (hg : ∀ s v, G s = some v → inC v) : ∀ n s, Sm lets G (nmT lets G n s) (nmP lets G n s)
  | 0, s => by rw [nmT, nmP]; exact .ret
  | n + 1, s => by
    rw [nmT, nmP]
    cases hgs : G s with
    | some v => exact .ret
    | none =>
      simp only
      cases hx : lets[n]? with
      | none => exact .ret
      | some l =>
        simp only
        split
        · intro t ht hv
          have hrl := hl l (List.mem_of_getElem? hx)
          obtain ⟨g1, g2, g3⟩ := valT_ok (nmT_ok hl hg n) 12 l.body hrl (sh := shareP (lets.take n)) t ht
          obtain ⟨e1, e2⟩ := valT_sm (fun s => nmT_sm hl hg n s) (nmT_ok hl hg n) (fun s => nmP_pure n s) 12 l.body hrl (sh := shareP (lets.take n)) t ht hv
          have hne : ∀ e, (valT (nmP lets G n) (shareP (lets.take n)) l.body []).1 = .error e → e ≠ 0 := fun e h => g3 e (by rw [e1]; exact h)
          have main : outX (entX (valT (nmT lets G n) (shareP (lets.take n)) l.body t).1).1 (entX (valT (nmT lets G n) (shareP (lets.take n)) l.body t).1).2.1 = (valT (nmP lets G n) (shareP (lets.take n)) l.body []).1 ∧
              TabV lets G ((valT (nmT lets G n) (shareP (lets.take n)) l.body t).2.set n (entX (valT (nmT lets G n) (shareP (lets.take n)) l.body t).1)) := by
            rw [e1]
            refine ⟨entX_out hne, fun i v e hi => ?_⟩
            rw [List.getElem?_set] at hi
            split at hi
            · rename_i hni
              subst hni
              split at hi
              · exact ⟨l, hx, (Option.some.inj hi).symm⟩
              · cases hi
            · exact e2 i v e hi
          rcases hti : t[n]? with _ | ⟨v, e, d⟩
          · simp only [hti]; exact main
          · cases d
            · simp only [hti]; exact main
            · simp only [hti]
              obtain ⟨l', h5, h6⟩ := hv n v e hti
              rw [hx] at h5
              cases h5
              refine ⟨?_, hv⟩
              have h7 : (v, e, true) = entX (valX lets G n l.body) := h6
              have h8 : v = (entX (valX lets G n l.body)).1 := by rw [← h7]
              have h9 : e = (entX (valX lets G n l.body)).2.1 := by rw [← h7]
              rw [h8, h9]
              exact entX_out hne
        · exact nmT_sm hl hg n s
/-- The value without a table. -/
theorem valL_valX {lets : List Let} {G : List UInt8 → Option Int} (hl : ∀ l ∈ lets, rightB 12 l.body = true) (hg : ∀ s v, G s = some v → inC v) (n d : Nat) (e : Exp) (h : rightB d e = true) (t : Tab) (ht : TabOK lets.length t) (hv : TabV lets G t) :
    (valL lets G n e t).1 = valX lets G n e ∧ TabV lets G (valL lets G n e t).2 :=
  valT_sm (fun s => nmT_sm hl hg n s) (nmT_ok hl hg n) (fun s => nmP_pure n s) d e h t ht hv
end Go.Proofs.Ytmoohdpnmkkgpaa
namespace Go.VL
open Go
/-- An entry put into a map. -/
abbrev InsE := Nat × Key × List D
def putE (o : List (Nat × Ob)) (e : InsE) : List (Nat × Ob) := match getK o e.1 with | some (.map kk ag es) => setOb o e.1 (.map kk ag (updK es e.2.1 e.2.2)) | _ => o
def insL : List InsE → List (Nat × Ob) → List (Nat × Ob)
  | [], o => o
  | e :: L, o => insL L (putE o e)
def obE (e : InsE) (x : Option Ob) : Option Ob := match x with | some (.map kk ag es) => some (.map kk ag (updK es e.2.1 e.2.2)) | x => x
def insO : List InsE → Nat → Option Ob → Option Ob
  | [], _, x => x
  | e :: L, z, x => insO L z (if z = e.1 then obE e x else x)
theorem getK_insL : ∀ (L : List InsE) (o : List (Nat × Ob)) (z : Nat), getK (insL L o) z = insO L z (getK o z)
  | [], _, _ => rfl
  | e :: L, o, z => by
    rw [insL, getK_insL L, insO]
    congr 1
    unfold putE obE
    by_cases hz : z = e.1
    · subst hz
      rw [if_pos rfl]
      cases hg : getK o e.1 with
      | none => exact hg
      | some ob => cases ob <;> simp [hg, getK_setOb, getK_cons]
    · rw [if_neg hz]
      cases hg : getK o e.1 with
      | none => rfl
      | some ob => cases ob <;> simp [getK_setOb, getK_cons, hz]
/-- This operation puts this entry into a map that was empty. -/
def InsOK (P : Program) (st : St) (op : Op) (e : InsE) : Prop :=
  ∃ t x ki v kk ag z ku, (op = .mapUpdate t x ki v ∨ op = .insert t x ki v) ∧ mapInf P t = some (kk, ag, z) ∧ opd st x = .mp e.1 ∧ opd st ki = .u ku ∧ keyU ku = some e.2.1 ∧ e.2.1.kk = kk ∧ valM ag (opd st v) = some e.2.2 ∧ getK st.obs e.1 = some (.map kk ag [])
theorem InsOK.base {P st op e} (h : InsOK P st op e) : ∃ kk ag, getK st.obs e.1 = some (.map kk ag []) := by
  obtain ⟨t, x, ki, v, kk, ag, z, ku, _, _, _, _, _, _, _, h⟩ := h
  exact ⟨kk, ag, h⟩
end Go.VL
namespace Go.VL
open Go
abbrev Ent.no : Ent := (.un, [], none, [])
def Op3 (P : Program) (s : St) (o : O1) (e : Ent) : Option InsE → Prop
  | none => putOK o.dst s ∧ Op2 P s o e
  | some q => e = Ent.no ∧ o.guard = none ∧ o.dst = none ∧ InsOK P s o.op q
def chain3 (P : Program) : List O1 → St → Fp → List (Option InsE) → (St → Fp → List (Option InsE) → Prop) → Prop
  | [], s, fp, ins, k => k s fp ins
  | o :: rest, s, fp, ins, k => ∃ (e : Ent) (q : Option InsE), Op3 P s o e q ∧ (∀ x, e.2.2.1 = some x → x = s.next) ∧ chain3 P rest (s.app o.dst e) (fp ++ [(e.2.2.2, keys e.2.1)]) (ins ++ [q]) k
def St.ins (s : St) (ins : List (Option InsE)) : St := { s with obs := insL (ins.filterMap id) s.obs }
def HD3 (P : Program) (l : List O1) (s : St) (fp : Fp) (ins : List (Option InsE)) (C : Fp → List (Option InsE) → Prop) (k : St → Prop) : Prop :=
  ∀ s0 : St, s0.Eqo s → chain3 P l s0 fp ins fun s1 fp ins => C fp ins ∧ ∃ s', (s1.ins ins).Eqo s' ∧ k s'
theorem St.Eqo.ins {s s' : St} (h : s.Eqo s') (L : List (Option InsE)) : (s.ins L).Eqo (s'.ins L) :=
  ⟨h.1, fun x => by simp only [St.ins, getK_insL, h.2.1 x], h.2.2.1, h.2.2.2⟩
theorem InsOK.eqo {P : Program} {s s' : St} {op : Op} {q : InsE} (e : s'.Eqo s) (h : InsOK P s op q) : InsOK P s' op q := by
  obtain ⟨t, x, ki, v, kk, ag, z, ku, h1, h2, h3, h4, h5, h6, h7, h8⟩ := h
  have ho : ∀ x, opd s' x = opd s x := fun x => by cases x <;> simp [opd, St.at, e.2.2.2]
  exact ⟨t, x, ki, v, kk, ag, z, ku, h1, h2, by rw [ho]; exact h3, by rw [ho]; exact h4, h5, h6, by rw [ho]; exact h7, by rw [e.2.1]; exact h8⟩
theorem cg_HD3 {P l s s' fp fp' ins ins' C k} (h : s = s') (h' : fp = fp') (h'' : ins = ins') : HD3 P l s fp ins C k = HD3 P l s' fp' ins' C k := by rw [h, h', h'']
attribute [congr] cg_HD3
end Go.VL
namespace Go.VL
open Go
end Go.VL
namespace Go.VL
open Go Go.Sort Go.Proofs
end Go.VL
namespace Go.VL
open Go
def fam (b : Nat) : List Ob → List (Nat × Ob)
  | [] => []
  | o :: l => (b, o) :: fam (b + 1) l
theorem getK_fam : ∀ (b : Nat) (l : List Ob) (j : Nat), getK (fam b l) j = if b ≤ j then l[j - b]? else none
  | b, [], j => by simp [fam, getK]
  | b, o :: l, j => by
    rw [fam, getK_cons, getK_fam (b + 1) l j]
    by_cases h : j = b
    · subst h; simp
    · rw [if_neg h]
      by_cases h2 : b ≤ j
      · rw [if_pos (show b + 1 ≤ j by omega), if_pos h2, show j - b = (j - (b + 1)) + 1 by omega, List.getElem?_cons_succ]
      · rw [if_neg (by omega), if_neg h2]
theorem getK_fam_add (b : Nat) (l : List Ob) (i : Nat) : getK (fam b l) (i + b) = l[i]? := by rw [getK_fam, if_pos (by omega), Nat.add_sub_cancel]
theorem Wk.eqo {Γ : Ctx} {s s' : St} (h : s.Eqo s') : Wk Γ s s' := fun K _ _ h1 h2 => ⟨K, h1, h2.eqo h⟩
/-- The objects end in T; those ahead of it lie outside of its numbers. -/
def EndsIn (T : List (Nat × Ob)) (b k : Nat) : List (Nat × Ob) → Prop
  | [] => T = []
  | p :: l => (p :: l = T) ∨ ((p.1 < b ∨ k + b ≤ p.1) ∧ EndsIn T b k l)
theorem EndsIn.out {T b k} : ∀ {obs}, EndsIn T b k obs → ∃ A, obs = A ++ T ∧ ∀ p ∈ A, p.1 < b ∨ k + b ≤ p.1
  | [], h => ⟨[], by rw [show T = [] from h]; rfl, by simp⟩
  | p :: l, h => by
    rcases h with h | ⟨h1, h2⟩
    · exact ⟨[], by rw [h]; rfl, by simp⟩
    · obtain ⟨A, e, h3⟩ := EndsIn.out h2
      exact ⟨p :: A, by rw [e]; rfl, fun q hq => (List.mem_cons.1 hq).elim (fun e => by rw [e]; exact h1) (h3 q)⟩
theorem EndsIn.get {L : List Ob} {b obs} (h : EndsIn (fam b L) b L.length obs) {i : Nat} (hi : i < L.length) : getK obs (i + b) = L[i]? := by
  obtain ⟨A, rfl, h2⟩ := h.out
  rw [getK_append]
  have : getK A (i + b) = none := by
    cases hq : getK A (i + b) with
    | none => rfl
    | some o =>
      obtain ⟨p, hp, e⟩ := List.mem_map.1 (getK_mem hq)
      have := h2 p hp
      omega
  rw [this, getK_fam_add]
def famPure (L : List Ob) : Prop := ∀ o ∈ L, ∃ e sz B, o = .vec e sz B ∧ pureRows B
theorem famPure.under {L : List Ob} (h : famPure L) {o : Ob} (ho : o ∈ L) (nx : Nat) : o.under nx = true := by
  obtain ⟨e, sz, B, rfl, hB⟩ := h o ho
  exact Ob.under_vec (pureRows_out hB)
theorem Ret.re {P : Program} {f : FuncId} {ds : List D} {obs : List (Nat × Ob)} {nx : Nat} {p q : D → List (Nat × Ob) → Nat → Prop} (h : Ret P f ds obs nx p) (hq : ∀ d o n, p d o n → ∃ o', (∀ j, getK o' j = getK o j) ∧ q d o' n) : Ret P f ds obs nx q :=
  fun k own w vs h1 h2 h3 h4 => (h k own w vs h1 h2 h3 h4).mono fun e w' ⟨v, d, o, nx', k', a1, a2, a3, a4, a5, a6, a7⟩ =>
    let ⟨o', b1, b2⟩ := hq d o nx' a7
    ⟨v, d, o', nx', k', a1, a2, a3.congr b1, a4, a5, a6, b2⟩
end Go.VL
namespace Go.VL
open Go
theorem CallP_wk {P : Program} {Γ : Ctx} {s s' : St} {k : St → Prop} {dst : Option Tmp} {fop : Operand} {args : List Operand} (hw : Wk Γ s s') (h : CallP P Γ fop args dst s' k) : CallP P Γ fop args dst s k := fun ts ty pos after K a w hin hs =>
  let ⟨K', h1, h2⟩ := hw K a w hin hs
  h ts ty pos after K' a w h1 h2
end Go.VL
namespace Go.VL
open Go
/-- How a call ends: a value, or a panic. -/
inductive Out where
  | val (d : D)
  | pan (ch : List PanicEntry)
def OutRep (k : Kr) (e : Ending) : Out → Prop
  | .val d => ∃ v, e = .returned v ∧ Rep k d v
  | .pan ch => e = .panicked ch
/-- What a call gives back, or how it panics. -/
def RetX (P : Program) (f : FuncId) (ds : List D) (obs : List (Nat × Ob)) (nx : Nat) (post : Out → List (Nat × Ob) → Nat → Prop) : Prop :=
  ∀ (k : Kr) (own : Nat → Prop) (w : World) (vs : Array Value), Sat k own obs w → (∀ i, nx ≤ i → k.hdr i = none) → (∀ b, w.heap.size ≤ b → own b) → RepL k ds vs →
    Calls P f vs w fun e w' => ∃ r obs' nx' k', OutRep k' e r ∧ In (.of own k nx w) k' w' ∧ Sat k' own obs' w' ∧ (∀ i, nx' ≤ i → k'.hdr i = none) ∧ nx ≤ nx' ∧ post r obs' nx'
theorem Ret.x {P f ds obs nx post} (h : Ret P f ds obs nx post) : RetX P f ds obs nx fun r o n => match r with | .val d => post d o n | .pan _ => False :=
  fun k own w vs h1 h2 h3 h4 => (h k own w vs h1 h2 h3 h4).mono fun _ _ ⟨v, d, o, n, k', e, a, b, c, g, r, hp⟩ => ⟨.val d, o, n, k', ⟨v, e, r⟩, a, b, c, g, hp⟩
theorem RetX.mono {P f ds obs nx} {p q : Out → List (Nat × Ob) → Nat → Prop} (h : RetX P f ds obs nx p) (hq : ∀ r o n, p r o n → q r o n) : RetX P f ds obs nx q :=
  fun k own w vs h1 h2 h3 h4 => (h k own w vs h1 h2 h3 h4).mono fun _ _ ⟨r, o, n, k', e, a, b, c, g, hp⟩ => ⟨r, o, n, k', e, a, b, c, g, hq _ _ _ hp⟩
theorem RetX.ret {P f ds obs nx} {p : Out → List (Nat × Ob) → Nat → Prop} {q : D → List (Nat × Ob) → Nat → Prop} (h : RetX P f ds obs nx p) (hv : ∀ d o n, p (.val d) o n → q d o n) (hx : ∀ ch o n, ¬ p (.pan ch) o n) : Ret P f ds obs nx q :=
  fun k own w vs h1 h2 h3 h4 => (h k own w vs h1 h2 h3 h4).mono fun _ _ ⟨r, o, n, k', e, a, b, c, g, hp⟩ => by
    cases r with
    | val d =>
      obtain ⟨v, e, hr⟩ := e
      exact ⟨v, d, o, n, k', e, a, b, c, g, hr, hv d o n hp⟩
    | pan ch => exact absurd hp (hx ch o n)
theorem RetX.congr {P f ds obs obs' nx post} (h : RetX P f ds obs nx post) (e : ∀ i, getK obs' i = getK obs i) : RetX P f ds obs' nx post :=
  fun k own w vs hsat hhdr hfresh hrep => h k own w vs (Sat.congr hsat fun i => (e i).symm) hhdr hfresh hrep
/-- What a call does not know of stays az it is: the memory behind it. -/
theorem frame_sat {k k' : Kr} {own : Nat → Prop} {obs F o1 : List (Nat × Ob)} {nx : Nat} {w w' : World} (hsat : Sat k own (F ++ obs) w)
    (hin : In (.of (fun b => own b ∧ ¬ Blk k F b) k nx w) k' w') (hs1 : Sat k' (fun b => own b ∧ ¬ Blk k F b) o1 w') : Sat k' own (F ++ o1) w' := by
  have hfo : ∀ i ob, getK F i = some ob → getK (F ++ obs) i = some ob := fun i ob hi => by rw [getK_append, hi]
  have hFat : ∀ i ob, getK F i = some ob → ∃ g, k.hdr i = some g ∧ k'.hdr i = some g ∧ (∀ b, g.1 = some b → own b ∧ (∀ o, k'.mem b o = none) ∧ Blk k F b) ∧ ObAt k' w' g ob := fun i ob hi => by
    obtain ⟨g, h1, h2, h3⟩ := hsat.ob i ob (hfo i ob hi)
    have hB : ∀ b, g.1 = some b → Blk k F b := fun b hb => ⟨i, ob, g, hi, h1, hb⟩
    refine ⟨g, h1, hin.le.hdr i g h1, fun b hb => ⟨(h2 b hb).1, fun o => ?_, hB b hb⟩, h3.keep hin.le fun b hb => hin.block b fun hb' => hb'.2 (hB b hb)⟩
    cases hm : k'.mem b o with
    | none => rfl
    | some x =>
      rcases hin.memNew b o x hm with h4 | h4
      · have h4' : k.mem b o = some x := h4
        rw [(h2 b hb).2 o] at h4'; cases h4'
      · exact absurd (hB b hb) h4.2
  refine ⟨hs1.mem, fun i ob hi => ?_, fun i j x y g g' b hx hy hij hg hg' hb => ?_⟩
  · rw [getK_append] at hi
    cases hf : getK F i with
    | some x =>
      rw [hf] at hi
      cases hi
      obtain ⟨g, _, h2, h3, h4⟩ := hFat i _ hf
      exact ⟨g, h2, fun b hb => ⟨(h3 b hb).1, (h3 b hb).2.1⟩, h4⟩
    | none =>
      rw [hf] at hi
      obtain ⟨g, h1, h2, h3⟩ := hs1.ob i ob hi
      exact ⟨g, h1, fun b hb => ⟨(h2 b hb).1.1, (h2 b hb).2⟩, h3⟩
  · rw [getK_append] at hx hy
    cases hfx : getK F i with
    | some x' =>
      obtain ⟨g1, k1, k2, k3, _⟩ := hFat i _ hfx
      rw [hg] at k2
      cases k2
      cases hfy : getK F j with
      | some y' =>
        obtain ⟨g2, l1, l2, l3, _⟩ := hFat j _ hfy
        rw [hg'] at l2
        cases l2
        exact hsat.apart i j x' y' g g' b (hfo i _ hfx) (hfo j _ hfy) hij k1 l1 hb
      | none =>
        rw [hfy] at hy
        obtain ⟨g2, l1, l2, _⟩ := hs1.ob j y hy
        rw [hg'] at l1
        cases l1
        exact fun e => (l2 b e).1.2 (k3 b hb).2.2
    | none =>
      rw [hfx] at hx
      cases hfy : getK F j with
      | some y' =>
        obtain ⟨g2, l1, l2, l3, _⟩ := hFat j _ hfy
        rw [hg'] at l2
        cases l2
        obtain ⟨g1, k1, k2, _⟩ := hs1.ob i x hx
        rw [hg] at k1
        cases k1
        exact fun e => (k2 b hb).1.2 (l3 b e).2.2
      | none =>
        rw [hfy] at hy
        exact hs1.apart i j x y g g' b hx hy hij hg hg' hb
theorem frame_sat0 {k : Kr} {own : Nat → Prop} {obs F : List (Nat × Ob)} {w : World} (hF : ∀ i ob, getK F i = some ob → getK obs i = none) (hsat : Sat k own (F ++ obs) w) : Sat k (fun b => own b ∧ ¬ Blk k F b) obs w := by
  have hob : ∀ i ob, getK obs i = some ob → getK F i = none ∧ getK (F ++ obs) i = some ob := fun i ob hi => by
    have hn : getK F i = none := by
      cases hf : getK F i with
      | none => rfl
      | some x => rw [hF i x hf] at hi; cases hi
    exact ⟨hn, by rw [getK_append, hn]; exact hi⟩
  have hfo : ∀ i ob, getK F i = some ob → getK (F ++ obs) i = some ob := fun i ob hi => by rw [getK_append, hi]
  refine ⟨hsat.mem, fun i ob hi => ?_, fun i j x y g g' b hx hy hij => ?_⟩
  · obtain ⟨hn, hi'⟩ := hob i ob hi
    obtain ⟨g, h1, h2, h3⟩ := hsat.ob i ob hi'
    refine ⟨g, h1, fun b hb => ⟨⟨(h2 b hb).1, ?_⟩, (h2 b hb).2⟩, h3⟩
    rintro ⟨j, oj, g', h4, h5, h6⟩
    exact hsat.apart i j ob oj g g' b hi' (hfo j oj h4) (fun e => by subst e; rw [hn] at h4; cases h4) h1 h5 hb h6
  · exact hsat.apart i j x y g g' b (hob i x hx).2 (hob j y hy).2 hij
theorem frame_fresh {k : Kr} {own : Nat → Prop} {obs F : List (Nat × Ob)} {w : World} (hsat : Sat k own (F ++ obs) w) (hfresh : ∀ b, w.heap.size ≤ b → own b) : ∀ b, w.heap.size ≤ b → own b ∧ ¬ Blk k F b := fun b hb => by
  refine ⟨hfresh b hb, fun hB => ?_⟩
  obtain ⟨i, ob, g, h1, h2, h3⟩ := hB
  exact absurd (hsat.lt ⟨i, ob, g, by rw [getK_append, h1], h2, h3⟩) (by omega)
theorem frame_in {k k' : Kr} {own : Nat → Prop} {F : List (Nat × Ob)} {nx : Nat} {w w' : World} (hfresh : ∀ b, w.heap.size ≤ b → own b) (hin : In (.of (fun b => own b ∧ ¬ Blk k F b) k nx w) k' w') : In (.of own k nx w) k' w' :=
  ⟨hin.le, hin.none0, fun b o x hx => (hin.memNew b o x hx).imp id (·.1), hfresh, hin.os, hin.tape, hin.output, hin.size, fun b hb => hin.block b fun hb' => hb hb'.1⟩
theorem RetX.frame {P f ds obs nx post} (F : List (Nat × Ob)) (hF : ∀ i ob, getK F i = some ob → getK obs i = none) (h : RetX P f ds obs nx post) :
    RetX P f ds (F ++ obs) nx (fun r o n => ∃ o1, o = F ++ o1 ∧ post r o1 n) := by
  intro k own w vs hsat hhdr hfresh hrep
  refine (h k _ w vs (frame_sat0 hF hsat) hhdr (frame_fresh hsat hfresh) hrep).mono ?_
  rintro e w' ⟨r, o1, n', k', he, hin, hs1, hh1, hle, hp⟩
  exact ⟨r, F ++ o1, n', k', he, frame_in hfresh hin, frame_sat hsat hin hs1, hh1, hle, o1, rfl, hp⟩
/-- A call that may panic, by what it does to the objects. -/
theorem EffP.callX {P Γ s k} {fop : Operand} {args : Array Operand} {ts : Array TypeId} {ty : TypeId} {f caps dst pos after} {ds : List D} {post : Out → List (Nat × Ob) → Nat → Prop}
    (hf : calleeOf (opd s fop) = some (f, caps)) (hc : callable P f = true) (hds : args.toList.map (opd s) ++ caps = ds) (hret : RetX P f ds s.obs s.next post) (hp : putOK dst s)
    (hk : ∀ d obs' nx', s.next ≤ nx' → post (.val d) obs' nx' → k (({ s with obs := obs', next := nx' } : St).put dst d))
    (hx : ∀ ch obs' nx', s.next ≤ nx' → post (.pan ch) obs' nx' → ∃ s2, Wk Γ { s with obs := obs', next := nx' } s2 ∧ Γ.pan ch s2) :
    EffP P Γ { dst, op := .call { callee := .value fop, args, argTypes := ts }, type := ty, pos, after, guard := none } s k := by
  intro K a w hin hs Kont Q hK hP
  obtain ⟨vs, hrep, hrun⟩ := call_run hs (args := args) (ts := ts) (ty := ty) hf hc dst pos after none
  rw [hds] at hrep
  unfold Oper.wp
  rw [hrun]
  refine Calls.mono (hret K Γ.own w vs hs.sat hs.hdr (fun b hb => hin.own_of_ge hb) hrep) ?_
  rintro e w' ⟨r, obs', nx', k', hr, hin', hsat', hhdr', hnx, hpost⟩
  have hle : K.le k' := hin'.le
  have hin2 : In Γ k' w' := hin.step hle (fun b o v e => hin'.memNew b o v e) hin'.os hin'.tape hin'.output hin'.size hin'.block
  have hsim : Sim k' Γ.own ({ s with obs := obs', next := nx' } : St) a w' := ⟨hsat', hs.defers, hs.size, fun x d hx => ⟨(hs.env x d hx).1, (hs.env x d hx).2.mono hle⟩, hhdr'⟩
  cases r with
  | val d =>
    obtain ⟨v, rfl, hr⟩ := hr
    exact hK k' _ w' _ hin2 (hsim.put (by cases dst <;> simp_all [putOK]) hr) (hk d obs' nx' hnx hpost)
  | pan ch =>
    obtain rfl := hr
    obtain ⟨s2, hw, hpn⟩ := hx ch obs' nx' hnx hpost
    obtain ⟨k2, g1, g2⟩ := hw k' a w' hin2 hsim
    exact hP ch k2 a w' s2 g1 g2 hpn
theorem CallP.x_ {P : Program} {Γ : Ctx} {s : St} {k : St → Prop} {dst : Option Tmp} {fop : Operand} {args : List Operand} {f caps} {ds : List D} {post : Out → List (Nat × Ob) → Nat → Prop} (hret : RetX P f ds s.obs s.next post)
    (hf : calleeOf (opd s fop) = some (f, caps)) (hc : callable P f = true) (hds : args.map (opd s) ++ caps = ds) (hp : putOK dst s)
    (hk : ∀ d obs' nx', s.next ≤ nx' → post (.val d) obs' nx' → k (({ s with obs := obs', next := nx' } : St).put dst d))
    (hx : ∀ ch obs' nx', s.next ≤ nx' → post (.pan ch) obs' nx' → ∃ s2, Wk Γ { s with obs := obs', next := nx' } s2 ∧ Γ.pan ch s2) : CallP P Γ fop args dst s k :=
  fun _ _ _ _ => EffP.callX hf hc hds hret hp hk hx
theorem CallP.xF {P : Program} {Γ : Ctx} {s : St} {k : St → Prop} {dst : Option Tmp} {fop : Operand} {args : List Operand} {f caps} {ds : List D} {post : Out → List (Nat × Ob) → Nat → Prop} (F obs : List (Nat × Ob)) (hret : RetX P f ds obs s.next post)
    (heq : ∀ i, getK s.obs i = getK (F ++ obs) i) (hF : ∀ i ob, getK F i = some ob → getK obs i = none)
    (hf : calleeOf (opd s fop) = some (f, caps)) (hc : callable P f = true) (hds : args.map (opd s) ++ caps = ds) (hp : putOK dst s)
    (hk : ∀ d o1 nx', s.next ≤ nx' → post (.val d) o1 nx' → k (({ s with obs := F ++ o1, next := nx' } : St).put dst d))
    (hx : ∀ ch o1 nx', s.next ≤ nx' → post (.pan ch) o1 nx' → ∃ s2, Wk Γ { s with obs := F ++ o1, next := nx' } s2 ∧ Γ.pan ch s2) : CallP P Γ fop args dst s k :=
  CallP.x_ ((hret.frame F hF).congr heq) hf hc hds hp (fun d o n hn ⟨o1, ho, hpo⟩ => by subst ho; exact hk d o1 n hn hpo) (fun ch o n hn ⟨o1, ho, hpo⟩ => by subst ho; exact hx ch o1 n hn hpo)
theorem CallP.x0 {P : Program} {Γ : Ctx} {s : St} {k : St → Prop} {dst : Option Tmp} {fop : Operand} {args : List Operand} {f caps} {ds : List D} {post : Out → List (Nat × Ob) → Nat → Prop} (hret : RetX P f ds [] s.next post)
    (hf : calleeOf (opd s fop) = some (f, caps)) (hc : callable P f = true) (hds : args.map (opd s) ++ caps = ds) (hp : putOK dst s)
    (hk : ∀ d o1 nx', s.next ≤ nx' → post (.val d) o1 nx' → k (({ s with obs := s.obs ++ o1, next := nx' } : St).put dst d))
    (hx : ∀ ch o1 nx', s.next ≤ nx' → post (.pan ch) o1 nx' → ∃ s2, Wk Γ { s with obs := s.obs ++ o1, next := nx' } s2 ∧ Γ.pan ch s2) : CallP P Γ fop args dst s k :=
  CallP.xF s.obs [] hret (fun i => by simp) (fun i ob _ => rfl) hf hc hds hp hk hx
theorem CallP.x1 {P : Program} {Γ : Ctx} {s : St} {k : St → Prop} {dst : Option Tmp} {fop : Operand} {args : List Operand} {f caps} {ds : List D} {post : Out → List (Nat × Ob) → Nat → Prop} {j : Nat} {ob : Ob} (hret : RetX P f ds [(j, ob)] s.next post)
    (hj : getK s.obs j = some ob) (hf : calleeOf (opd s fop) = some (f, caps)) (hc : callable P f = true) (hds : args.map (opd s) ++ caps = ds) (hp : putOK dst s)
    (hk : ∀ d o1 nx', s.next ≤ nx' → post (.val d) o1 nx' → k (({ s with obs := del s.obs j ++ o1, next := nx' } : St).put dst d))
    (hx : ∀ ch o1 nx', s.next ≤ nx' → post (.pan ch) o1 nx' → ∃ s2, Wk Γ { s with obs := del s.obs j ++ o1, next := nx' } s2 ∧ Γ.pan ch s2) : CallP P Γ fop args dst s k :=
  CallP.xF (del s.obs j) [(j, ob)] hret (fun i => by
    rw [getK_append, getK_del]
    by_cases h : i = j
    · subst h; simp [hj, getK]
    · simp only [if_neg h, getK]
      cases getK s.obs i <;> rfl) (fun i o hi => by
    rw [getK_del] at hi
    by_cases h : i = j
    · rw [if_pos h] at hi; cases hi
    · simp [getK, h]) hf hc hds hp hk hx
/-- The same, and a second object that is gone behind it. -/
theorem CallP.x2 {P : Program} {Γ : Ctx} {s : St} {k : St → Prop} {dst : Option Tmp} {fop : Operand} {args : List Operand} {f caps} {ds : List D} {post : Out → List (Nat × Ob) → Nat → Prop} {j q : Nat} {ob oq : Ob} (hret : RetX P f ds [(j, ob), (q, oq)] s.next post)
    (hj : getK s.obs j = some ob) (hq : getK s.obs q = some oq) (hne : j ≠ q) (hf : calleeOf (opd s fop) = some (f, caps)) (hc : callable P f = true) (hds : args.map (opd s) ++ caps = ds) (hp : putOK dst s)
    (hk : ∀ d o1 nx', s.next ≤ nx' → post (.val d) o1 nx' → k (({ s with obs := del (del s.obs j) q ++ o1, next := nx' } : St).put dst d))
    (hx : ∀ ch o1 nx', s.next ≤ nx' → post (.pan ch) o1 nx' → ∃ s2, Wk Γ { s with obs := del (del s.obs j) q ++ o1, next := nx' } s2 ∧ Γ.pan ch s2) : CallP P Γ fop args dst s k :=
  CallP.xF (del (del s.obs j) q) [(j, ob), (q, oq)] hret (fun i => by
    rw [getK_append, getK_del, getK_del]
    by_cases h : i = q
    · subst h; rw [if_pos rfl]; simp [getK, Ne.symm hne, hq]
    · rw [if_neg h]
      by_cases h2 : i = j
      · subst h2; simp [hj, getK]
      · simp only [if_neg h2, getK, if_neg h]
        cases getK s.obs i <;> rfl) (fun i o hi => by
    rw [getK_del, getK_del] at hi
    by_cases h : i = q
    · rw [if_pos h] at hi; cases hi
    · rw [if_neg h] at hi
      by_cases h2 : i = j
      · rw [if_pos h2] at hi; cases hi
      · simp [getK, h, h2]) hf hc hds hp hk hx
/-- The same call, nothing put off. -/
def Ctx.base (Γ : Ctx) : Ctx := .of Γ.own.own Γ.k0 Γ.n0 Γ.w0
/-- A panic, up to what the state may be told az. -/
def PanG (Γ : Ctx) (post : Out → List (Nat × Ob) → Nat → Prop) (ch : List PanicEntry) (s : St) : Prop := ∃ s', Wk Γ s s' ∧ Γ.n0 ≤ s'.next ∧ post (.pan ch) s'.obs s'.next
/-- What a call leaves behind. -/
def RX (Γ : Ctx) (post : Out → List (Nat × Ob) → Nat → Prop) (e : Ending) (w' : World) : Prop :=
  ∃ r obs' nx' k', OutRep k' e r ∧ In Γ k' w' ∧ Sat k' Γ.own obs' w' ∧ (∀ i, nx' ≤ i → k'.hdr i = none) ∧ Γ.n0 ≤ nx' ∧ post r obs' nx'
theorem endW_results {P Γ fn e s K a w} {post : Out → List (Nat × Ob) → Nat → Prop} (hend : EndW P Γ fn Γ.n0 (fun d o n => post (.val d) o n) e s) (hin : In Γ K w) (hs : Sim K Γ.own s a w) :
    ∃ v, (results fn a.tmps).run P w = .ok v w ∧ RX Γ post (.returned v) w := by
  obtain ⟨s', hw, _, hres⟩ := hend
  obtain ⟨K', hin, hs⟩ := hw K a w hin hs
  obtain ⟨rs, rv, hfin, hrun, hlen, hr⟩ := resD_run hs _ _ hres
  have hres' : (results fn a.tmps).run P w = .ok (if h : rv.toArray.size = 1 then rv.toArray[0] else .tuple rv.toArray) w := by
    unfold results
    rw [Array.mapM_eq_mapM_toList]
    have e : (fn.results.toList.mapM fun (x : ResultVar) => match x with | .tmp t => (pure (a.tmps.getD t undef) : Sem Value) | .cell x t => do loadVar t (← asAddr (a.tmps.getD x undef))).run P w = .ok rv w := hrun
    simp only [Sem.run_bind, Sem.run_map, Result.andThen_ok]
    erw [e]
    simp
  have hrepv : Rep K' (oneOrTup rs) (if h : rv.toArray.size = 1 then rv.toArray[0] else .tuple rv.toArray) := by
    match rs, rv, hlen, hr with
    | [], [], _, hr => exact .tup [] [] rfl (by simp)
    | [d], [v], _, hr => simpa [oneOrTup] using hr 0 d rfl
    | d :: d1 :: ds, v :: v1 :: vs, hlen, hr =>
      simp only [oneOrTup]
      rw [dif_neg (by simp)]
      exact .tup _ _ hlen hr
  refine ⟨_, hres', ?_⟩
  rcases hfin with ⟨s2, ρ, d', hle, hd, hu, hnx, hpost⟩ | ⟨hnx, hpost⟩
  · obtain ⟨h1, h2⟩ := Sim.weak hin hs hle
    exact ⟨.val d', s2.obs, s2.next, _, ⟨_, rfl, hrepv.weak hd hu⟩, h1, h2.sat, h2.hdr, hnx, hpost⟩
  · exact ⟨.val _, s'.obs, s'.next, K', ⟨_, rfl, hrepv⟩, hin, hs.sat, hs.hdr, hnx, hpost⟩
theorem RX.conv {Γ Γ' : Ctx} {post e w'} (h : RX Γ post e w') (h1 : Γ'.own.own = Γ.own.own) (h2 : Γ'.k0 = Γ.k0) (h3 : Γ'.n0 = Γ.n0) (h4 : Γ'.w0 = Γ.w0) : RX Γ' post e w' := by
  obtain ⟨r, o, n, k', a, b, c, d, e, f⟩ := h
  exact ⟨r, o, n, k', a, b.conv h1 h2 h3 h4, by rw [h1]; exact c, d, by rw [h3]; exact e, f⟩
theorem Wk.conv {Γ Γ' : Ctx} {s s'} (h : Wk Γ s s') (h1 : Γ'.own = Γ.own) (h2 : Γ'.k0 = Γ.k0) (h3 : Γ'.n0 = Γ.n0) (h4 : Γ'.w0 = Γ.w0) : Wk Γ' s s' := fun K a w hin hs => by
  obtain ⟨K', g1, g2⟩ := h K a w (hin.conv (by rw [h1]) h2.symm h3.symm h4.symm) (by rw [← h1]; exact hs)
  exact ⟨K', g1.conv (by rw [h1]) h2 h3 h4, by rw [h1]; exact g2⟩
/-- A function's body, with all the ways in which it may end. -/
theorem RetX.of_bodyD {P f fn c ds obs nx post} (hf : P.funcs[f]? = some fn) (hb : fn.body = some c) (hn : ds.length ≤ fn.ntmps)
    (h : ∀ Γ : Ctx, Γ.n0 = nx → Γ.own.dfr = [] → (∀ ch s, PanG Γ post ch s → Γ.pan ch s) → (∀ e a w', bodyPostD P fn (RX Γ.base post) e a w' → Γ.esc e a w') → V P Γ c (entry ds fn.ntmps obs nx) (RunK P Γ (EndW P Γ fn nx fun d o n => post (.val d) o n) .done)) : RetX P f ds obs nx post := by
  intro k own w vs hsat hhdr hfresh hrep
  have hsz : vs.size = ds.length := hrep.1
  let Γ0 : Ctx := .of own k nx w
  let Γ : Ctx := ⟨⟨own, []⟩, k, nx, w, PanG Γ0 post, bodyPostD P fn (RX Γ0 post)⟩
  have hpan : ∀ ch s, PanG Γ post ch s → Γ.pan ch s := fun ch s ⟨s', h1, h2, h3⟩ => ⟨s', h1.conv rfl rfl rfl rfl, h2, h3⟩
  have hR : ∀ e w', RX Γ post e w' → RX Γ0 post e w' := fun e w' h => h.conv rfl rfl rfl rfl
  have hesc : ∀ e a w', bodyPostD P fn (RX Γ.base post) e a w' → Γ.esc e a w' := fun e a w' h => h
  refine calls_of_wp_defers (R := RX Γ0 post) hf hb (wp_mono (h Γ rfl rfl hpan hesc k _ w ⟨.refl _, hhdr, fun b o v e => .inl e, hfresh, rfl, rfl, rfl, Nat.le_refl _, fun _ _ => rfl⟩
    ⟨hsat, rfl, ?_, fun x d hx => ?_, hhdr⟩) ?_)
  · simp [entry, hsz]; omega
  · simp only [entry, getK_zipIdx, Nat.zero_le, if_true, Nat.sub_zero] at hx
    have hlt := (List.getElem?_eq_some_iff.1 hx).1
    refine ⟨by simp [entry]; omega, ?_⟩
    have := hrep.2 x d hx
    have e : (vs ++ Array.replicate (fn.ntmps - vs.size) undef).getD x undef = vs.getD x undef := by
      simp [Array.getElem?_append, show x < vs.size by omega]
    rw [e]
    exact this
  · rintro e a' w' (⟨K', s', hin, hs, hend⟩ | hx)
    · have hd : a'.defers = [] := hs.defers
      cases e with
      | panic ch =>
        obtain ⟨s2, hw, hn2, hp⟩ := (hend : PanG Γ0 post ch s')
        obtain ⟨K2, h1, h2⟩ := hw K' a' w' (hin.conv rfl rfl rfl rfl) hs
        show Leaves P fn a'.tmps (RX Γ0 post) a'.defers (.panicking ch) w'
        rw [hd]
        exact ⟨.pan ch, s2.obs, s2.next, K2, rfl, h1, h2.sat, h2.hdr, hn2, hp⟩
      | normal =>
        obtain ⟨v, h1, h2⟩ := endW_results (Γ := Γ) (post := post) hend hin hs
        show Leaves P fn a'.tmps (RX Γ0 post) a'.defers .returning w'
        rw [hd]
        exact ⟨v, h1, hR _ _ h2⟩
      | ret =>
        obtain ⟨v, h1, h2⟩ := endW_results (Γ := Γ) (post := post) hend hin hs
        show Leaves P fn a'.tmps (RX Γ0 post) a'.defers .returning w'
        rw [hd]
        exact ⟨v, h1, hR _ _ h2⟩
      | exit i => obtain ⟨_, _, h1, _⟩ := hend; rcases h1 with h1 | h1 <;> cases h1
      | goto i => obtain ⟨_, _, h1, _⟩ := hend; rcases h1 with h1 | h1 <;> cases h1
      | outgrown => obtain ⟨_, _, h1, _⟩ := hend; rcases h1 with h1 | h1 <;> cases h1
    · exact hx.2
theorem RetX.of_bodyW {P f fn c ds obs nx post} (hf : P.funcs[f]? = some fn) (hb : fn.body = some c) (hn : ds.length ≤ fn.ntmps)
    (h : ∀ Γ : Ctx, Γ.n0 = nx → (∀ ch s, PanG Γ post ch s → Γ.pan ch s) → V P Γ c (entry ds fn.ntmps obs nx) (RunK P Γ (EndW P Γ fn nx fun d o n => post (.val d) o n) .done)) : RetX P f ds obs nx post :=
  RetX.of_bodyD hf hb hn fun Γ h1 _ h2 _ => h Γ h1 h2
end Go.VL
namespace Go.VL
open Go
/-- Code at which a walk stops. -/
@[irreducible] def Hold (c : Code) : Code := c
theorem hold_eq (c : Code) : Hold c = c := by unfold Hold; rfl
theorem hold_defer {id : Nat} {o1 : Oper} {dst : Option Tmp} {cl : Call} {type : TypeId} {pos : String} {after : Array Edge} {guard : Option (Nat × Bool)} {rest : Code} :
    Code.seq (.region id #[o1, { dst, op := .defer cl, type, pos, after, guard }] false) rest = Hold (.seq (.region id #[o1, { dst, op := .defer cl, type, pos, after, guard }] false) rest) := (hold_eq _).symm
/-- What a deferred function does to the objects, and to the frame below. -/
def RetDf (P : Program) (g : FuncId) (caps : List D) (obs : List (Nat × Ob)) (nx : Nat) (u : FrameMode) (post : FrameMode → List (Nat × Ob) → Nat → Prop) : Prop :=
  ∀ (k : Kr) (own : Nat → Prop) (w : World) (vs : Array Value), Sat k own obs w → (∀ i, nx ≤ i → k.hdr i = none) → (∀ b, w.heap.size ≤ b → own b) → RepL k caps vs →
    CallsD P g vs u w fun e u' w' => ∃ v obs' nx' k', e = .returned v ∧ In (.of own k nx w) k' w' ∧ Sat k' own obs' w' ∧ (∀ i, nx' ≤ i → k'.hdr i = none) ∧ nx ≤ nx' ∧ post u' obs' nx'
theorem RetDf.mono {P g caps obs nx u} {p q : FrameMode → List (Nat × Ob) → Nat → Prop} (h : RetDf P g caps obs nx u p) (hq : ∀ u o n, p u o n → q u o n) : RetDf P g caps obs nx u q :=
  fun k own w vs h1 h2 h3 h4 => (h k own w vs h1 h2 h3 h4).mono fun _ _ _ ⟨v, o, n, k', e, a, b, c, d, hp⟩ => ⟨v, o, n, k', e, a, b, c, d, hq _ _ _ hp⟩
theorem RetDf.congr {P g caps obs obs' nx u post} (h : RetDf P g caps obs nx u post) (e : ∀ i, getK obs' i = getK obs i) : RetDf P g caps obs' nx u post :=
  fun k own w vs hsat hhdr hfresh hrep => h k own w vs (Sat.congr hsat fun i => (e i).symm) hhdr hfresh hrep
theorem RetDf.frame {P g caps obs nx u post} (F : List (Nat × Ob)) (hF : ∀ i ob, getK F i = some ob → getK obs i = none) (h : RetDf P g caps obs nx u post) :
    RetDf P g caps (F ++ obs) nx u (fun u o n => ∃ o1, o = F ++ o1 ∧ post u o1 n) := by
  intro k own w vs hsat hhdr hfresh hrep
  refine (h k _ w vs (frame_sat0 hF hsat) hhdr (frame_fresh hsat hfresh) hrep).mono ?_
  rintro e u' w' ⟨v, o1, n', k', he, hin, hs1, hh1, hle, hp⟩
  exact ⟨v, F ++ o1, n', k', he, frame_in hfresh hin, frame_sat hsat hin hs1, hh1, hle, o1, rfl, hp⟩
/-- Where a function leaves that has put off g: the deferred call makes its end good. -/
def LeaveD (P : Program) (Γb : Ctx) (fn : Func) (post : Out → List (Nat × Ob) → Nat → Prop) (g : FuncId) (caps : List D) (u : FrameMode) (s : St) : Prop :=
  RetDf P g caps s.obs s.next u fun u' o n => settle u' = .returning ∧ EndW P Γb fn Γb.n0 (fun d o n => post (.val d) o n) .ret { s with obs := o, next := n }
def EndD (P : Program) (Γb : Ctx) (fn : Func) (post : Out → List (Nat × Ob) → Nat → Prop) (g : FuncId) (caps : List D) (e : Exit) (s : St) : Prop := e = .ret ∧ LeaveD P Γb fn post g caps .returning s
theorem leaveD_run {P Γ Γ' fn post g caps u s K K1 a w w1} (hmode : u ≠ .run) (h : LeaveD P Γ.base fn post g caps u s) (hin1 : In Γ K1 w1) (hin : In Γ' K w) (hs : Sim K Γ'.own s a w) (ho : Γ'.own.own = Γ.own.own) (hk : Γ'.k0 = K1) (hn : ∀ i, Γ'.n0 ≤ i → K1.hdr i = none) (hw : Γ'.w0 = w1)
    (hc : callable P g = true) (vs : Array Value) (hrep : RepL K1 caps vs) :
    Leaves P fn a.tmps (RX Γ.base post) [{ target := .fn (.func g) vs, args := #[] }] u w := by
  have hle1 : K1.le K := by rw [← hk]; exact hin.le
  have hin0 : In Γ K w := hin1.step hle1 (fun b o v e => by have := hin.memNew b o v e; rw [hk, ho] at this; exact this) (by rw [hin.os, hw]) (by rw [hin.tape, hw]) (by rw [hin.output, hw]) (by have := hin.size; rw [hw] at this; exact this)
    (fun b hb => by have := hin.block b (by rw [ho]; exact hb); rw [hw] at this; exact this)
  refine leaves_cons (f := g) (args := vs) hmode ?_ ?_
  · unfold callable at hc
    split at hc
    · rename_i fn' hfn
      simp at hc
      obtain ⟨hb, hname⟩ := hc
      have hb' : fn'.body.isNone = false := by cases hbb : fn'.body <;> simp_all
      simp [invoke, callFunc, hfn, hb', hname]
      intro h0
      rw [h0] at hb
      simp at hb
    · cases hc
  · refine (h K Γ'.own.own w vs hs.sat hs.hdr (fun b hb => by rw [ho]; exact hin0.own_of_ge hb) ⟨hrep.1, fun j d hj => (hrep.2 j d hj).mono hle1⟩).mono ?_
    rintro e u' w' ⟨v, o, n, k', rfl, hin2, hsat, hhdr, hnx, hset, hend⟩
    rw [ho] at hin2 hsat
    have hin3 : In Γ k' w' := hin0.step hin2.le (fun b o v e => hin2.memNew b o v e) hin2.os hin2.tape hin2.output hin2.size hin2.block
    have hsim : Sim k' Γ.base.own ({ s with obs := o, next := n } : St) { a with defers := [] } w' := ⟨hsat, rfl, hs.size, fun x d hx => ⟨(hs.env x d hx).1, (hs.env x d hx).2.mono hin2.le⟩, hhdr⟩
    obtain ⟨v', h1, h2⟩ := endW_results (Γ := Γ.base) (post := post) hend (hin3.conv rfl rfl rfl rfl) hsim
    show Leaves P fn a.tmps (RX Γ.base post) [] (settle u') w'
    rw [hset]
    exact ⟨v', h1, h2⟩
/-- A function value is made and put off: what follows is walked in a context of its own. -/
theorem V_defer {P Γ fn post s Q kt id g t type pos after type2 pos2 after2 rest} {ts : Array TypeId} {caps : List Operand}
    (hesc : ∀ e a w', bodyPostD P fn (RX Γ.base post) e a w' → Γ.esc e a w') (hd : Γ.own.dfr = []) (hc : callable P g = true) (ht : t < s.n)
    (h : ∀ Γ' : Ctx, Γ'.n0 = s.next → (∀ ch s2, LeaveD P Γ.base fn post g (caps.map (opd s)) (.panicking ch) s2 → Γ'.pan ch s2) →
      V P Γ' rest (s.put (some t) (.fnc (.func g) (caps.map (opd s)))) (RunK P Γ' (EndD P Γ.base fn post g (caps.map (opd s))) .done)) :
    V P Γ (Hold (.seq (.region id #[{ dst := some t, op := .makeFunc (.func g) #[] caps.toArray, type := type, pos := pos, after := after, guard := none },
      { dst := none, op := .defer { callee := .value (.tmp t), args := #[], argTypes := ts }, type := type2, pos := pos2, after := after2, guard := none }] false) rest)) s (RunK P Γ Q kt) := by
  rw [hold_eq]
  intro K a w hin hs
  refine wp_seq (wp_region_lit ?_)
  have hrep : RepL K (caps.map (opd s)) (caps.map a.eval).toArray := ⟨by simp, fun j d hj => by have := listRep hs caps j d hj; simpa using this⟩
  have hfv : Rep K (.fnc (.func g) (caps.map (opd s))) (.func (.func g) #[] (caps.map a.eval).toArray) := .fnc _ _ _ (by simp) (listRep hs caps)
  have hts : t < a.tmps.size := by rw [hs.size]; exact ht
  refine wpList_plain rfl fun K1 hK1 => ?_
  have hrun1 : (execOp a.eval { dst := some t, op := .makeFunc (.func g) #[] caps.toArray, type := type, pos := pos, after := after, guard := none }).run P w = .ok (.value (.func (.func g) #[] (caps.map a.eval).toArray)) w := by
    simp [execOp, Instr.makeFunc]
  unfold Oper.wp
  rw [hrun1]
  refine hK1 _ _ (wpList_plain rfl fun K2 hK2 => ?_)
  generalize ha1 : (a.put (some t) (.func (.func g) #[] (caps.map a.eval).toArray)) = a1
  have hev : a1.eval (.tmp t) = .func (.func g) #[] (caps.map a.eval).toArray := by
    subst ha1
    simp [Act.eval, Act.put, hts]
  have hrun2 : (execOp a1.eval { dst := none, op := .defer { callee := .value (.tmp t), args := #[], argTypes := ts }, type := type2, pos := pos2, after := after2, guard := none }).run P w = .ok (.defer { target := .fn (.func g) (caps.map a.eval).toArray, args := #[] }) w := by
    simp [execOp, resolve, hev, Deferred.ofValue]
  unfold Oper.wp
  rw [hrun2]
  refine hK2 _ _ ?_
  let Γ' : Ctx := ⟨⟨Γ.own.own, [{ target := .fn (.func g) (caps.map a.eval).toArray, args := #[] }]⟩, K, s.next, w, fun ch s2 => LeaveD P Γ.base fn post g (caps.map (opd s)) (.panicking ch) s2, fun _ _ _ => False⟩
  have hin' : In Γ' K w := ⟨.refl _, hs.hdr, fun b o v e => .inl e, fun b hb => hin.own_of_ge hb, rfl, rfl, rfl, Nat.le_refl _, fun _ _ => rfl⟩
  have hs1 : Sim K Γ.own (s.put (some t) (.fnc (.func g) (caps.map (opd s)))) a1 w := by
    subst ha1
    exact hs.put (by simpa [putOK] using ht) hfv
  have hs' : Sim K Γ'.own (s.put (some t) (.fnc (.func g) (caps.map (opd s)))) (({ a1 with defers := { target := .fn (.func g) (caps.map a.eval).toArray, args := #[] } :: a1.defers } : Act).put none undef) w :=
    ⟨hs1.sat, by have := hs1.defers; rw [hd] at this; show _ :: a1.defers = _; rw [this], hs1.size, hs1.env, hs1.hdr⟩
  refine wp_mono (h Γ' rfl (fun ch s2 h => h) K _ w hin' hs') ?_
  rintro e a' w' (⟨K', s', h1, h2, h3⟩ | h3)
  · have hdf : a'.defers = [{ target := .fn (.func g) (caps.map a.eval).toArray, args := #[] }] := h2.defers
    have go : ∀ u, u ≠ .run → LeaveD P Γ.base fn post g (caps.map (opd s)) u s' → Leaves P fn a'.tmps (RX Γ.base post) a'.defers u w' := fun u hu hl => by
      rw [hdf]
      exact leaveD_run hu hl hin h1 h2 rfl rfl hs.hdr rfl hc _ hrep
    cases e with
    | panic ch => exact .inr ⟨trivial, hesc _ _ _ (go (.panicking ch) (by simp) h3)⟩
    | ret => exact .inr ⟨trivial, hesc _ _ _ (go .returning (by simp) h3.2)⟩
    | normal => exact absurd h3.1 (by simp)
    | exit i => exact absurd h3.1 (by simp)
    | goto i => exact absurd h3.1 (by simp)
    | outgrown => exact absurd h3.1 (by simp)
  · exact h3.2.elim
def HS (P : Program) (Γ : Ctx) : List Oper → St → (St → Prop) → Prop
  | [], s, k => k s
  | o :: l, s, k => o.guard = none ∧ hstep P Γ o.dst o.op s fun s' => HS P Γ l s' k
theorem hs_ops {P Γ cs} {Q : Exit → Act → List Frame → World → Prop} {k : St → Prop} (ops : Array Oper) : ∀ (l : List Oper) (i : Nat) (s : St) (K : Kr) (a : Act) (w : World), (∀ j, ops[i + j]? = l[j]?) → HS P Γ l s k → In Γ K w → Sim K Γ.own s a w →
    (∀ K' a' w' s', In Γ K' w' → Sim K' Γ.own s' a' w' → k s' → Q .normal a' cs w') → (∀ ch K' a' w' s', In Γ K' w' → Sim K' Γ.own s' a' w' → Γ.pan ch s' → Q (.panic ch) a' cs w') →
    wpOpsS P ops Q (List.range' i l.length) a cs w
  | [], i, s, K, a, w, _, h, hin, hs, hQ, _ => by simpa [wpOpsS] using hQ K a w s hin hs h
  | o :: l, i, s, K, a, w, ho, h, hin, hs, hQ, hP => by
    have h0 : ops[i]? = some o := by simpa using ho 0
    obtain ⟨hg, hst⟩ := h
    rw [List.length_cons, List.range'_succ]
    unfold wpOpsS
    rw [h0]
    simp only [Region.wanted, hg, if_true]
    have hw := hstep_effG hst K a w hin hs (fun a' w' => wpOpsS P ops Q (List.range' (i + 1) l.length) a' cs w') (fun e a' w' => Q e a' cs w')
      (fun K' a' w' s' h1 h2 h3 => hs_ops ops l (i + 1) s' K' a' w' (fun j => by have := ho (j + 1); simpa [Nat.add_assoc, Nat.add_comm 1 j] using this) h3 h1 h2 hQ hP) hP
    unfold Oper.wp at hw
    split
    · rename_i w' hr
      rw [hr] at hw
      exact hw.elim
    · exact hw
/-- What recover hands out, and how the frame below goes on. -/
def recU : FrameMode → Value × FrameMode
  | .panicking ({ v, recovered := false, goexit := false } :: older) => (v, .panicking ({ v, recovered := true } :: older))
  | u => (.nilIface, u)
def EndR (Γ : Ctx) (post : FrameMode → List (Nat × Ob) → Nat → Prop) (u' : FrameMode) (e : Exit) (s : St) : Prop := (e = .normal ∨ e = .ret) ∧ ∃ s', Wk Γ s s' ∧ Γ.n0 ≤ s'.next ∧ post u' s'.obs s'.next
theorem RetDf.of_body {P g fn caps obs nx u post id x type pos after l rest} (hf : P.funcs[g]? = some fn)
    (hb : fn.body = some (.seq (.region id ({ dst := some x, op := .call { callee := .builtin .recover, args := #[], argTypes := #[] }, type := type, pos := pos, after := after, guard := none } :: l : List Oper).toArray false) rest))
    (hn : caps.length ≤ fn.ntmps) (hx : x < fn.ntmps) (hres : fn.results = #[])
    (h : ∀ Γ : Ctx, Γ.n0 = nx → HS P Γ l ((entry caps fn.ntmps obs nx).put (some x) (.u (.oth (recU u).1))) fun s' => V P Γ rest s' (RunK P Γ (EndR Γ post (recU u).2) .done)) : RetDf P g caps obs nx u post := by
  intro k own w vs hsat hhdr hfresh hrep
  have hsz : vs.size = caps.length := hrep.1
  let Γ : Ctx := .of own k nx w
  have hin : In Γ k w := ⟨.refl _, hhdr, fun b o v e => .inl e, hfresh, rfl, rfl, rfl, Nat.le_refl _, fun _ _ => rfl⟩
  have hs : Sim k Γ.own (entry caps fn.ntmps obs nx) { tmps := vs ++ Array.replicate (fn.ntmps - vs.size) undef, defers := [] } w := by
    refine ⟨hsat, rfl, ?_, fun y d hy => ?_, hhdr⟩
    · simp [entry, hsz]; omega
    · simp only [entry, getK_zipIdx, Nat.zero_le, if_true, Nat.sub_zero] at hy
      have hlt := (List.getElem?_eq_some_iff.1 hy).1
      refine ⟨by simp [entry]; omega, ?_⟩
      have := hrep.2 y d hy
      have e : (vs ++ Array.replicate (fn.ntmps - vs.size) undef).getD y undef = vs.getD y undef := by
        simp [Array.getElem?_append, show y < vs.size by omega]
      rw [e]
      exact this
  refine callsD_of_wpS hf hb fun c0 cs hm => wpS_seq (wpS_region ?_)
  have hsize : ({ dst := some x, op := .call { callee := .builtin .recover, args := #[], argTypes := #[] }, type := type, pos := pos, after := after, guard := none } :: l : List Oper).toArray.size = l.length + 1 := by simp
  rw [hsize, List.range_eq_range', List.range'_succ]
  generalize hops : ({ dst := some x, op := .call { callee := .builtin .recover, args := #[], argTypes := #[] }, type := type, pos := pos, after := after, guard := none } :: l : List Oper).toArray = ops
  have h0 : ops[0]? = some { dst := some x, op := .call { callee := .builtin .recover, args := #[], argTypes := #[] }, type := type, pos := pos, after := after, guard := none } := by rw [← hops]; simp
  unfold wpOpsS
  rw [h0]
  have hrun : ∀ ρ : Operand → Value, (execOp ρ { dst := some x, op := .call { callee := .builtin .recover, args := #[], argTypes := #[] }, type := type, pos := pos, after := after, guard := none }).run P w = .ok .recover w := fun ρ => by
    simp [execOp, resolve, invoke, builtin]
  simp only [Region.wanted, if_true, hrun]
  have hrec : recoverD (c0 :: cs) = some ((recU u).1, { c0 with mode := (recU u).2 } :: cs) ∨ (recoverD (c0 :: cs) = none ∧ (recU u).1 = .nilIface ∧ { c0 with mode := (recU u).2 } = c0) := by
    subst hm
    have same : ∀ m, c0.mode = m → ({ c0 with mode := m } : Frame) = c0 := fun m h => by rw [← h]
    cases hmo : c0.mode with
    | run => exact .inr ⟨by simp [recoverD, hmo], rfl, same _ hmo⟩
    | returning => exact .inr ⟨by simp [recoverD, hmo], rfl, same _ hmo⟩
    | panicking ch =>
      cases ch with
      | nil => exact .inr ⟨by simp [recoverD, hmo], rfl, same _ hmo⟩
      | cons e older =>
        obtain ⟨v, r, g⟩ := e
        cases r <;> cases g
        · exact .inl (by simp [recoverD, hmo, recU])
        · exact .inr ⟨by simp [recoverD, hmo], rfl, same _ hmo⟩
        · exact .inr ⟨by simp [recoverD, hmo], rfl, same _ hmo⟩
        · exact .inr ⟨by simp [recoverD, hmo], rfl, same _ hmo⟩
  have main : wpOpsS P ops (Exit.thenS (rest.wpS P (bodyPostS P fn c0 cs fun e u' w' => ∃ v obs' nx' k', e = .returned v ∧ In (.of own k nx w) k' w' ∧ Sat k' own obs' w' ∧ (∀ i, nx' ≤ i → k'.hdr i = none) ∧ nx ≤ nx' ∧ post u' obs' nx'))
      (bodyPostS P fn c0 cs fun e u' w' => ∃ v obs' nx' k', e = .returned v ∧ In (.of own k nx w) k' w' ∧ Sat k' own obs' w' ∧ (∀ i, nx' ≤ i → k'.hdr i = none) ∧ nx ≤ nx' ∧ post u' obs' nx')) (List.range' (0 + 1) l.length)
      (Act.put { tmps := vs ++ Array.replicate (fn.ntmps - vs.size) undef, defers := [] } (some x) (recU u).1) ({ c0 with mode := (recU u).2 } :: cs) w := by
    refine hs_ops ops l (0 + 1) _ k _ w (fun j => by rw [← hops]; simp [Nat.add_comm 1 j]) (h Γ rfl) hin (hs.put (by simpa [putOK, entry] using hx) (.u _ _ (.oth _))) (fun K' a' w' s' h1 h2 h3 => ?_) (fun ch K' a' w' s' _ _ h3 => h3.elim)
    refine wpS_of_wp (wp_mono (h3 K' a' w' h1 h2) ?_)
    rintro e a2 w2 (⟨K2, s2, g1, g2, g3⟩ | g3)
    · have hd2 : a2.defers = [] := g2.defers
      have fin : EndR Γ post (recU u).2 e s2 → a2.defers = [] ∧ ∃ u', ({ c0 with mode := (recU u).2 } :: cs : List Frame) = { c0 with mode := u' } :: cs ∧ ∃ v, (results fn a2.tmps).run P w2 = .ok v w2 ∧
          ∃ v' obs' nx' k', Ending.returned v = .returned v' ∧ In (.of own k nx w) k' w2 ∧ Sat k' own obs' w2 ∧ (∀ i, nx' ≤ i → k'.hdr i = none) ∧ nx ≤ nx' ∧ post u' obs' nx' := fun ⟨_, s3, hw, hnx, hp⟩ => by
        obtain ⟨K3, q1, q2⟩ := hw K2 a2 w2 g1 g2
        exact ⟨hd2, _, rfl, .tuple #[], by simp [results, hres], _, s3.obs, s3.next, K3, rfl, q1, q2.sat, q2.hdr, hnx, hp⟩
      cases e with
      | normal => exact fin g3
      | ret => exact fin g3
      | panic ch => exact g3.elim
      | exit i => rcases g3.1 with h | h <;> cases h
      | goto i => rcases g3.1 with h | h <;> cases h
      | outgrown => rcases g3.1 with h | h <;> cases h
    · exact g3.2.elim
  rcases hrec with hr | ⟨hr, h1, h2⟩
  · rw [hr]
    exact main
  · rw [hr]
    rw [h1, h2] at main
    exact main
end Go.VL
