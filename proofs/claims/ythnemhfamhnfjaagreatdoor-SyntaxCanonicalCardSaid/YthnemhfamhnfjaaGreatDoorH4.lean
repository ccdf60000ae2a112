/- Texts joined by a program of mine: Zr Ua Ub Uc UD UI Ud Ea#p Eb#p UV Uv Ly Ea Eb Ec#p Ed#p Zj#p Ec Ed Ee Ya Yb Yc Yd Ye Yf Yg Yh Yi Yj Zg#p Ef Zg Eg Eh. -/
import Derived.Test.YthnemhfamhnfjaaGreatDoorH3
import Derived.WalkKit
import Derived.WalkSpells
import Derived.Lib.ConvBytes
import Derived.Laws.IdiomStrings
import Derived.Test.YthnemhfamhnfjaaGreatDoorTie
import Derived.Test.YthnemhfamhnfjaaGreatDoorCards
import Derived.Lib.LaidTab
import Derived.Lib.ItoaNum
set_option linter.all false
set_option maxRecDepth 100000
set_option maxHeartbeats 8000000
namespace Go.Proofs.YthnemhfamhnfjaaGreatDoor
open Go Go.RowKit
def zlj (c : UInt8) : UInt8 := if c = 32 then 10 else c
def zbp (s : List UInt8) : List UInt8 := s.map zlj
def FeedAt (B : Nat) (w : World) (s : List UInt8) (k : Nat) (wr : World) : Prop :=
 (∀ j, j < s.length → wr.cell? ⟨B, j, none⟩ = some (.int .u8 ((((zbp s).take k ++ s.drop k).getD j 0).toNat : Int))) ∧ (∀ j, j < s.length → wr.frozen? ⟨B, j, none⟩ = false) ∧ Below B w wr
theorem zfP (s : List UInt8) : (zbp s).length = s.length := by simp [zbp]
theorem ze6 {s : List UInt8} {k j : Nat} (hk : k ≤ s.length) (hj : j < s.length) : ((zbp s).take k ++ s.drop k).getD j 0 = if j < k then zlj (s.getD j 0) else s.getD j 0 := by
 rw [List.getD_eq_getElem?_getD, List.getElem?_append]
 have h1 : ((zbp s).take k).length = k := by simp [zfP]; omega
 rw [h1]
 split
 ·rename_i h
  rw [List.getElem?_take, if_pos h, zbp, List.getElem?_map, List.getElem?_eq_getElem hj]
  simp [hj]
 ·rename_i h
  rw [List.getElem?_drop, Nat.add_sub_cancel' (by omega)]
  simp
theorem FeedAt.zsI (s : List UInt8) (e : TypeId) (w : World) : FeedAt w.heap.size w s 0 (Lib.bytesWorld w e ⟨s.toArray⟩) := by
 have hsz : (⟨s.toArray⟩ : ByteArray).size = s.length := by simp [ByteArray.size]
 refine ⟨fun j hj => ?_, fun j hj => ?_, ?_⟩
 ·rw [Lib.bytesWorld_cell w e ⟨s.toArray⟩ j (by rw [hsz]; exact hj)]
  simp
 ·unfold World.frozen?
  rw [show (⟨w.heap.size, j, none⟩ : Addr).block = w.heap.size from rfl, Lib.bytesWorld_at_new]
  have : s.length ≤ (Lib.bytesCells w e ⟨s.toArray⟩).size := by simp [Lib.bytesCells]
  simp
  omega
 ·exact ⟨rfl, rfl, rfl, by rw [Lib.bytesWorld_size]; omega, fun k hk => Lib.bytesWorld_at_old w e _ k hk⟩
theorem FeedAt.keep {B : Nat} {w : World} {s : List UInt8} {k : Nat} {wr : World} (h : FeedAt B w s k wr) (hk : k < s.length) (hc : ¬ s.getD k 0 = 32) : FeedAt B w s (k + 1) wr := by
 obtain ⟨h1, h2, h3⟩ := h
 refine ⟨fun j hj => ?_, h2, h3⟩
 rw [h1 j hj, ze6 (by omega) hj, ze6 (by omega) hj]
 by_cases e : j = k
 ·subst e
  rw [if_neg (by omega), if_pos (by omega), zlj, if_neg hc]
 ·by_cases l : j < k
  ·rw [if_pos l, if_pos (by omega)]
  ·rw [if_neg l, if_neg (by omega)]
theorem FeedAt.put {B : Nat} {w : World} {s : List UInt8} {k : Nat} {wr : World} (h : FeedAt B w s k wr) (hk : k < s.length) (hc : s.getD k 0 = 32) : FeedAt B w s (k + 1) (wr.setCell ⟨B, k, none⟩ (.int .u8 10)) := by
 obtain ⟨h1, h2, h3⟩ := h
 refine ⟨fun j hj => ?_, fun j hj => by rw [World.frozen?_setCell]; exact h2 j hj, h3.setCell (Nat.le_refl _) _⟩
 rw [ze6 (by omega) hj]
 by_cases e : j = k
 ·subst e
  rw [World.cell?_setCell_same _ _ _ (h1 j hj), if_pos (by omega), zlj, if_pos hc]
  rfl
 ·rw [World.cell?_setCell_other _ _ _ _ (by intro g; cases g; exact e rfl), h1 j hj, ze6 (by omega) hj]
  by_cases l : j < k
  ·rw [if_pos l, if_pos (by omega)]
  ·rw [if_neg l, if_neg (by omega)]
theorem FeedAt.fin {B : Nat} {w : World} {s : List UInt8} {wr : World} (h : FeedAt B w s s.length wr) : ∀ j (hj : j < (zbp s).length), wr.cell? ((⟨B, 0, none⟩ : Addr).add j) = some (.int .u8 ((zbp s)[j].toNat : Int)) := by
 intro j hj
 have hj' : j < s.length := by rw [zfP] at hj; exact hj
 have := h.1 j hj'
 rw [ze6 (Nat.le_refl _) hj', if_pos hj'] at this
 have e : (⟨B, 0, none⟩ : Addr).add j = ⟨B, j, none⟩ := by unfold Addr.add; split <;> simp_all
 rw [e, this]
 simp [zbp, hj']
set_option maxRecDepth 1000000 in
theorem zkO (s : List UInt8) (hlen : s.length ≤ 1000000) (w w1 : World) (B cap : Nat) (hu9 : Tryz.prog.underlying 9 = some .string) (u74 : Tryz.prog.underlying 74 = some (.slice 5)) (u5 : Tryz.prog.underlying 5 = some (.int .u8))
  (hconv : (convert 9 74 (.string ⟨s.toArray⟩)).run Tryz.prog w = .ok (.slice (some ⟨B, 0, none⟩) s.length cap) w1) (hst : FeedAt B w s 0 w1) :
  Calls Tryz.prog 29 #[.string ⟨s.toArray⟩] w fun e w' => e = .returned (.string ⟨(zbp s).toArray⟩) ∧ Below B w w' := by
 have hsz : (⟨s.toArray⟩ : ByteArray).size = s.length := by simp [ByteArray.size]
 go_enter Tryz.func29, Tryz.ntmps29
 go_wp2
 go_loopw [4] (fun i wr => ∃ j : Nat, j ≤ s.length ∧ i = .int .i64 j ∧ FeedAt B w s j wr) (fun i _ => s.length - (intOf i).toNat)
 case atStart => exact ⟨0, Nat.zero_le _, rfl, hst⟩
 case round =>
  obtain ⟨j, hj, rfl, hF⟩ := hrel
  by_cases hlt : j < s.length
  ·have g1 := hF.1 j hlt
   have g2 := hF.2.1 j hlt
   rw [ze6 (by omega) hlt, if_neg (by omega)] at g1
   by_cases hc : s.getD j 0 = 32
   ·have hnx := hF.put hlt hc
    rw [hc] at g1
    clear hconv hst hF
    go_wp2
    case roundEnd => exact ⟨⟨j + 1, by omega, rfl, hnx⟩, by simp [intOf]; omega⟩
   ·have hnx := hF.keep hlt hc
    have hc2 : ¬ ((s.getD j 0).toNat : Int) = 32 := fun h => hc (UInt8.toNat_inj.1 (by simpa using (show (s.getD j 0).toNat = (32 : UInt8).toNat by have : (32 : UInt8).toNat = 32 := rfl; omega)))
    generalize s.getD j 0 = ch at *
    clear hconv hst hF
    go_wp2
    case roundEnd => exact ⟨⟨j + 1, by omega, rfl, hnx⟩, by simp [intOf]; omega⟩
  ·obtain rfl : j = s.length := by omega
   have hback := run_convert_bytes_back (P := Tryz.prog) wr 74 9 5 ⟨B, 0, none⟩ cap (zbp s) u74 u5 hu9 hF.fin
   rw [zfP] at hback
   have hb := hF.2.2
   clear hconv hst hF
   go_wp2
   go_ret
   exact ⟨rfl, hb⟩
theorem zjs (s : List UInt8) (hlen : s.length ≤ 1000000) (w : World) : Calls Tryz.prog 29 #[.string ⟨s.toArray⟩] w fun e w' => e = .returned (.string ⟨(zbp s).toArray⟩) ∧ Below w.heap.size w w' := by
 have hsz : (⟨s.toArray⟩ : ByteArray).size = s.length := by simp [ByteArray.size]
 have hu9 : Tryz.prog.underlying 9 = some .string := by kernel_rfl
 have u74 : Tryz.prog.underlying 74 = some (.slice 5) := by kernel_rfl
 have u5 : Tryz.prog.underlying 5 = some (.int .u8) := by kernel_rfl
 have hconv := Lib.run_convert_string_bytes (P := Tryz.prog) w 9 74 5 ⟨s.toArray⟩ hu9 u74 u5
 rw [hsz] at hconv
 exact zkO s hlen w _ _ _ hu9 u74 u5 hconv (FeedAt.zsI s 5 w)
open Go.VL in
theorem zdZ (s : List UInt8) (hlen : s.length ≤ 1000000) : Fun Tryz.prog 29 [.u (.str s)] (· = .u (.str (zbp s))) :=
 Fun.zlu fun k own w vs hsat hrep => by
  obtain ⟨v, rfl, hv⟩ := zha hrep
  obtain rfl := zer hv
  exact ⟨_, .str _, zjs s hlen w⟩
end Go.Proofs.YthnemhfamhnfjaaGreatDoor
namespace Go.Proofs.YthnemhfamhnfjaaGreatDoor
open Go Go.VL
attribute [local simp] zdy zck evPure opd uOf zaI St.put St.at getK binD binI binS binB nilD aggD zii zjj lookD lookR zcY Go.VL.nextD zc1 zkb zjm zhD zcO mkV zdU zbt zbE mapEff zeJ zgV Key.kk shiftI arith unD convD zeH loadD cellsAt fieldAddrD fieldD indexAddrD indexD sliceD cutD lenD minmaxD nilCheckD buildD fillD zb4 zdM zfi setAll zdm zfu zcU zja zcL St.add za0 zbZ rowsOf zew zc6 zak zac zaa zbe zc4 zaY entry zbS zb9 valD zcn zcT zhO zdS zdT zcc zbU zaw za2 zbx delAll effD St.effS zdP zbk zbb zdQ zbl zbd zcD zbc za4 zcE zdH zbV zcz zbw zcx zcy zaP mkD zbO zbG zbT zaw zcR D.ids Op.operands Call.operands zbN makeIfD makeFuncD typeAssertD zji zei zej zjh zcZ IntKind.bits zdq List.take_of_length_le List.range_succ
attribute [local irreducible] V G H HD HD2 zap Eff CallP CallV EndOK Fun Ret FinOK LoopI LoopW EndW
inductive Exp where
 | mk (op n unit : Int) (s : List UInt8) (args : List Exp)
 deriving Inhabited
def Exp.row : Exp → List U
 | .mk op n u s args => [.int .i64 op, .int .i64 n, .int .i64 u, .str s, .sl (args.map fun e => e.row)]
def Exp.op : Exp → Int | .mk op _ _ _ _ => op
def Exp.n : Exp → Int | .mk _ n _ _ _ => n
def Exp.unit : Exp → Int | .mk _ _ u _ _ => u
def Exp.s : Exp → List UInt8 | .mk _ _ _ s _ => s
def Exp.args : Exp → List Exp | .mk _ _ _ _ args => args
theorem Exp.row_eq (e : Exp) : e.row = [.int .i64 e.op, .int .i64 e.n, .int .i64 e.unit, .str e.s, .sl (e.args.map Exp.row)] := by
 cases e with
 | mk op n u s args => rw [Exp.row]; rfl
structure Var where
 name : List UInt8
 unit : Int
 n : Int
 deriving DecidableEq, Inhabited
structure Let where
 name : List UInt8
 body : Exp
 deriving Inhabited
def Var.row (v : Var) : List U := [.str v.name, .int .i64 v.unit, .int .i64 v.n]
def Let.row (l : Let) : List U := .str l.name :: l.body.row
def vars (l : List Var) : U := .sl (l.map Var.row)
def lets (l : List Let) : U := .sl (l.map Let.row)
def zbm (c : UInt8) : Bool := decide (97 ≤ c.toNat) && decide (c.toNat ≤ 122)
def zaN (c : UInt8) : Bool := decide (48 ≤ c.toNat) && decide (c.toNat ≤ 57)
theorem zee (c : UInt8) : Fun Tryz.prog 102 [.u (.int .u8 c.toNat)] (· = .u (.bool (zbm c))) := by
 unfold zbm
 (refine Fun.of_body Tryz.func102 rfl (by simp) fun Γ hn => ?_); simp only [entry, ziC, ziN, maC, maN, oA, Tryz.ntmps102]
 repeat' (first
  | ((first | refine zaf ?_ | refine zaj ?_ | refine zah ?_ | fail); simp)
  | (refine zas ?_; simp only [zap])
  | (refine ⟨fun hc => ?_, fun hc => ?_⟩ <;> (try (exfalso; omega)))
  | fail)
 all_goals
  (refine EndOK.val (.inr rfl) ?_; simp [zaM, zag, zau, Tryz.results102])
 all_goals first | omega | (simp; omega) | (rw [Bool.eq_iff_iff]; simp; omega)
theorem zeT (c : UInt8) : Fun Tryz.prog 104 [.u (.int .u8 c.toNat)] (· = .u (.bool (zaN c))) := by
 unfold zaN
 (refine Fun.of_body Tryz.func104 rfl (by simp) fun Γ hn => ?_); simp only [entry, ziC, ziN, maC, maN, oA, Tryz.ntmps104]
 repeat' (first
  | ((first | refine zaf ?_ | refine zaj ?_ | refine zah ?_ | fail); simp)
  | (refine zas ?_; simp only [zap])
  | (refine ⟨fun hc => ?_, fun hc => ?_⟩ <;> (try (exfalso; omega)))
  | fail)
 all_goals
  (refine EndOK.val (.inr rfl) ?_; simp [zaM, zag, zau, Tryz.results104])
 all_goals first | omega | (simp; omega) | (rw [Bool.eq_iff_iff]; simp; omega)
theorem znx (c : UInt8) : Fun Tryz.prog 103 [.u (.int .u8 c.toNat)] (· = .u (.bool (zbm c || zaN c))) := by
 (refine Fun.of_body Tryz.func103 rfl (by simp) fun Γ hn => ?_); simp only [entry, ziC, ziN, maC, maN, oA, Tryz.ntmps103]
 repeat' (first
  | ((first | refine zaf ?_ | refine zaj ?_ | refine zah ?_ | fail); simp)
  | (refine zas ?_; simp only [zap])
  | (refine ⟨fun hc => ?_, fun hc => ?_⟩ <;> (try (exfalso; omega)))
  | (refine CallP.fE (zee c) (by first | rfl | fail) (by first | (simp; done) | (simp; rfl) | fail) ?_; (try simp))
  | (refine CallP.fE (zeT c) (by first | rfl | fail) (by first | (simp; done) | (simp; rfl) | fail) ?_; (try simp))
  | fail)
 all_goals
  (refine EndOK.val (.inr rfl) ?_; simp [zaM, zag, zau, Tryz.results103])
 all_goals simp_all
def zbn (p : UInt8 → Bool) (l : List UInt8) : Nat := (l.takeWhile p).length
theorem zlA {p : UInt8 → Bool} {l : List UInt8} {i : Nat} (h : ∀ c ∈ l.take i, p c = true) (hi : i ≤ l.length) (he : i = l.length ∨ ∃ c, l[i]? = some c ∧ p c = false) : zbn p l = i := by
 unfold zbn
 induction l generalizing i with
 | nil => simp at hi; simp [hi]
 | cons a l ih =>
  cases i with
  | zero =>
   rcases he with he | ⟨c, h1, h2⟩
   ·simp at he
   ·simp at h1; subst h1; simp [h2]
  | succ i =>
   have ha : p a = true := h a (by simp)
   rw [List.takeWhile_cons, if_pos ha, List.length_cons]
   rw [ih (i := i) (fun c hc => h c (by simp [hc])) (by simpa using hi) (by simpa using he)]
/-- The first place where something holds; -1 without one. -/
def zhJ {α : Type} (p : α → Bool) : List α → Int → Int
 | [], _ => -1
 | x :: l, i => if p x = true then i else zhJ p l (i + 1)
theorem ziV {α : Type} {p : α → Bool} {l : List α} {i : Nat} {x : α} {k : Int} (h : ∀ c ∈ l.take i, p c = false) (hx : l[i]? = some x) (hp : p x = true) : zhJ p l k = k + i := by
 induction l generalizing i k with
 | nil => simp at hx
 | cons s l ih =>
  cases i with
  | zero => simp at hx; simp [zhJ, hx, hp]
  | succ i =>
   rw [zhJ, if_neg (by rw [h s (by simp)]; simp), ih (i := i) (fun c hc => h c (by simp [hc])) (by simpa using hx)]
   omega
theorem zfL {α : Type} {p : α → Bool} {l : List α} {k : Int} (h : ∀ c ∈ l, p c = false) : zhJ p l k = -1 := by
 induction l generalizing k with
 | nil => rfl
 | cons s l ih => rw [zhJ, if_neg (by rw [h s (by simp)]; simp), ih fun c hc => h c (by simp [hc])]
theorem ziW {α : Type} (p : α → Bool) (l : List α) : ∀ k : Int, 0 ≤ k → (0 ≤ zhJ p l k ↔ l.any p = true) := by
 induction l with
 | nil => intro k hk; simp [zhJ]
 | cons s l ih =>
  intro k hk
  by_cases h : p s = true
  ·simp [zhJ, h, hk]
  ·rw [zhJ, if_neg h, ih (k + 1) (by omega)]
   simp [h]
theorem zbB {α : Type} {p : α → Prop} {l : List α} {i : Nat} {x : α} (hx : l[i]? = some x) (h : ∀ c ∈ l.take i, p c) (hp : p x) : ∀ c ∈ l.take (i + 1), p c := by
 obtain ⟨hi, rfl⟩ := lGE.1 hx
 rw [List.take_succ_eq_append_getElem hi]
 intro c hc
 rcases List.mem_append.1 hc with hc | hc
 ·exact h c hc
 ·simp at hc; subst hc; exact hp
theorem zfx (l : List UInt8) (hl : l.length ≤ 1000000) (f : FuncId) (p : UInt8 → Bool) (hf : ∀ c ∈ l, Fun Tryz.prog f [.u (.int .u8 c.toNat)] (· = .u (.bool (p c)))) (hcl : zam Tryz.prog f = true) :
  Fun Tryz.prog 75 [.u (.str l), .fnc (.func f) []] (· = .u (.int .i64 (zbn p l))) := by
 (refine Fun.of_body Tryz.func75 rfl (by simp) fun Γ hn => ?_); simp only [entry, ziC, ziN, maC, maN, oA, Tryz.ntmps75]
 repeat' (first
  | ((first | refine zaf ?_ | refine zaj ?_ | refine zah ?_ | fail); simp)
  | fail)
 refine zdt (α := { i : Nat // i ≤ l.length ∧ ∀ c ∈ l.take i, p c = true }) [0, 1] (fun i => [(5, .u (.int .i64 i.1))]) (fun i => l.length - i.1) ⟨0, by omega, by simp⟩ ?_ ?_
 ·exact (Wk.env rfl rfl rfl (by simp [wkE, St.lp, zan, zaa, getK] <;> (try (intros; simp_all; done)) <;> (try (intros; omega)) <;> (try grind)))
 rintro ⟨i, hi, hb⟩
 simp [St.lp, St.only, zan, zaa, getK]
 rcases hx : l[i]? with _ | c
 ·have hge : l.length ≤ i := by simpa using hx
  repeat' (first
  | ((first | refine zaf ?_ | refine zaj ?_ | fail); simp [hx])
  | (refine ⟨by omega, ?_⟩)
  | ((first | refine zah ?_ | refine zai ?_ | fail); simp [hx])
  | (refine zas ?_; simp only [zap])
  | (refine zce ?_; simp [zap])
  | (intro hc <;> (try (exfalso; omega)))
  | fail)
  (refine EndOK.val (.inr rfl) ?_; simp [zaM, zag, zau, Tryz.results75])
  rw [zlA hb hi (.inl (by omega))]
 ·have hlt := (lGE.1 hx).1
  have h1 := hf c (List.mem_of_getElem? hx)
  repeat' (first
  | ((first | refine zaf ?_ | refine zaj ?_ | fail); simp [hx])
  | (refine ⟨by omega, ?_⟩)
  | ((first | refine zah ?_ | refine zai ?_ | refine zaD ?_ | fail); simp [hx])
  | ((first | refine zas ?_ | refine zaq ?_ | fail); simp only [zap])
  | (refine zce ?_; simp [zap])
  | (refine ⟨?_, by omega⟩)
  | (refine ⟨fun hc => ?_, fun hc => ?_⟩ <;> (try (exfalso; omega)))
  | (intro hc <;> (try (exfalso; omega)))
  | (refine CallP.fE (h1) (by first | rfl | fail) (by first | simp [hx] <;> rfl | fail) ?_; (try simp [hcl, hx]))
  | fail)
  ·refine LoopW.next ⟨i + 1, by omega, zbB hx hb (by assumption)⟩ (by simp; omega) ?_
   exact (Wk.env rfl rfl rfl (by simp [wkE, St.lp, zan, zaa, getK] <;> (try (intros; simp_all; done)) <;> (try (intros; omega)) <;> (try grind)))
  ·(refine EndOK.val (.inr rfl) ?_; simp [zaM, zag, zau, Tryz.results75])
   rw [zlA hb hi (.inr ⟨c, hx, by assumption⟩)]
def ze9 (s : List UInt8) : Bool := match s with
 | [] => false
 | c :: _ => zbm c && decide (s.length ≤ 20) && decide (zbn (fun c => zbm c || zaN c) s = s.length)
theorem zlv (s : List UInt8) : Fun Tryz.prog 47 [.u (.str s)] (· = .u (.bool (ze9 s))) := by
 cases s with
 | nil =>
  (refine Fun.of_body Tryz.func47 rfl (by simp) fun Γ hn => ?_); simp only [entry, ziC, ziN, maC, maN, oA, Tryz.ntmps47]
  repeat' (first
  | ((first | refine zaf ?_ | refine zaj ?_ | refine zah ?_ | refine zai ?_ | fail); simp)
  | (refine zas ?_; simp only [zap])
  | fail)
  all_goals
   (refine EndOK.val (.inr rfl) ?_; simp [zaM, zag, zau, Tryz.results47])
  all_goals simp [ze9]
 | cons c s =>
  by_cases hl : s.length + 1 ≤ 20
  ·have hs := zfx (c :: s) (by simp; omega) 103 _ (fun c _ => znx c) (by simp)
   (refine Fun.of_body Tryz.func47 rfl (by simp) fun Γ hn => ?_); simp only [entry, ziC, ziN, maC, maN, oA, Tryz.ntmps47]
   repeat' (first
  | ((first | refine zaf ?_ | refine zaj ?_ | fail); simp)
  | (refine ⟨by omega, ?_⟩)
  | ((first | refine zah ?_ | refine zai ?_ | fail); simp)
  | ((first | refine zas ?_ | refine zaq ?_ | fail); simp only [zap])
  | (refine ⟨fun hc => ?_, fun hc => ?_⟩ <;> (try (exfalso; omega)))
  | (intro hc <;> (try (exfalso; omega)))
  | (refine CallP.fE (zee c) (by first | rfl | fail) (by first | (simp; done) | (simp; rfl) | fail) ?_; (try simp))
  | (refine CallP.fE (hs) (by first | rfl | fail) (by first | (simp; done) | (simp; rfl) | fail) ?_; (try simp))
  | fail)
   all_goals
    (refine EndOK.val (.inr rfl) ?_; simp [zaM, zag, zau, Tryz.results47])
   all_goals
    simp [ze9, *]
    try omega
  ·(refine Fun.of_body Tryz.func47 rfl (by simp) fun Γ hn => ?_); simp only [entry, ziC, ziN, maC, maN, oA, Tryz.ntmps47]
   repeat' (first
  | ((first | refine zaf ?_ | refine zaj ?_ | refine zah ?_ | refine zai ?_ | fail); simp)
  | (refine zas ?_; simp only [zap])
  | (refine ⟨?_, by omega⟩)
  | (refine ⟨fun hc => ?_, fun hc => ?_⟩ <;> (try (exfalso; omega)))
  | (intro hc <;> (try (exfalso; omega)))
  | (refine CallP.fE (zee c) (by first | rfl | fail) (by first | (simp; done) | (simp; rfl) | fail) ?_; (try simp))
  | fail)
   all_goals
     (refine EndOK.val (.inr rfl) ?_; simp [zaM, zag, zau, Tryz.results47])
   all_goals
     simp [ze9, *]
     try omega
def zqN (l : List (List UInt8)) : U := .sl (l.map fun s => [.str s])
def zoB : List (List UInt8) → List UInt8 → Int → Int
 | [], _, _ => -1
 | s :: l, x, i => if x = s then i else zoB l x (i + 1)
theorem zqX {l : List (List UInt8)} {x : List UInt8} {i : Nat} {k : Int} (h : ∀ c ∈ l.take i, ¬ x = c) (hx : l[i]? = some x) : zoB l x k = k + i := by
 induction l generalizing i k with
 | nil => simp at hx
 | cons s l ih =>
  cases i with
  | zero => simp at hx; simp [zoB, hx]
  | succ i =>
   rw [zoB, if_neg (h s (by simp)), ih (i := i) (fun c hc => h c (by simp [hc])) (by simpa using hx)]
   omega
theorem zoA {l : List (List UInt8)} {x : List UInt8} {k : Int} (h : ∀ c ∈ l, ¬ x = c) : zoB l x k = -1 := by
 induction l generalizing k with
 | nil => rfl
 | cons s l ih => rw [zoB, if_neg (h s (by simp)), ih fun c hc => h c (by simp [hc])]
theorem zm8 (l : List (List UInt8)) (x : List UInt8) : Fun Tryz.prog 105 [.u (zqN l), .u (.str x)] (· = .u (.int .i64 (zoB l x 0))) := by
 (refine Fun.of_body Tryz.func105 rfl (by simp) fun Γ hn => ?_); simp only [entry, ziC, ziN, maC, maN, oA, Tryz.ntmps105]
 simp only [zqN]
 refine zjd (x := 0) rfl fun hl => ?_
 simp at hl
 repeat' (first
  | ((first | refine zaf ?_ | refine zaj ?_ | refine zah ?_ | refine zaD ?_ | fail); simp)
  | fail)
 refine zdt (α := { i : Nat // i ≤ l.length ∧ ∀ c ∈ l.take i, ¬ x = c }) [0, 1, 7] (fun i => [(8, .u (.int .i64 i.1))]) (fun i => l.length - i.1) ⟨0, by omega, by simp⟩ ?_ ?_
 ·exact (Wk.env rfl rfl rfl (by simp [wkE, St.lp, zan, zaa, getK] <;> (try (intros; simp_all; done)) <;> (try (intros; omega)) <;> (try grind)))
 rintro ⟨i, hi, hb⟩
 simp [St.lp, St.only, zan, zaa, getK]
 rcases hx : l[i]? with _ | c
 ·have hge : l.length ≤ i := by simpa using hx
  repeat' (first
  | ((first | refine zaf ?_ | refine zaj ?_ | fail); simp [hx])
  | (refine ⟨by omega, ?_⟩)
  | (refine zah ?_; simp [hx])
  | (refine zas ?_; simp only [zap])
  | (refine zce ?_; simp [zap])
  | (intro hc <;> (try (exfalso; omega)))
  | fail)
  (refine EndOK.val (.inr rfl) ?_; simp [zaM, zag, zau, Tryz.results105])
  rw [List.take_of_length_le hge] at hb
  exact (zoA hb).symm
 ·have hlt := (lGE.1 hx).1
  by_cases hxc : x = c
  ·subst hxc
   repeat' (first
  | ((first | refine zaf ?_ | refine zaj ?_ | refine zah ?_ | refine zai ?_ | fail); simp [hx])
  | ((first | refine zas ?_ | refine zaq ?_ | fail); simp only [zap])
  | (refine ⟨?_, by omega⟩)
  | (intro hc <;> (try (exfalso; omega)))
  | fail)
   (refine EndOK.val (.inr rfl) ?_; simp [zaM, zag, zau, Tryz.results105])
   rw [zqX hb hx]
   omega
  ·repeat' (first
  | ((first | refine zaf ?_ | refine zaj ?_ | fail); simp [hx, hxc])
  | (refine ⟨by omega, ?_⟩)
  | ((first | refine zah ?_ | refine zai ?_ | refine zaG ?_ | fail); simp [hx, hxc])
  | (refine zaq ?_; simp only [zap])
  | (refine ⟨?_, by omega⟩)
  | (intro hc <;> (try (exfalso; omega)))
  | fail)
   refine LoopW.next ⟨i + 1, by omega, zbB hx hb hxc⟩ (by simp; omega) ?_
   exact (Wk.env rfl rfl rfl (by simp [wkE, St.lp, zan, zaa, getK] <;> (try (intros; simp_all; done)) <;> (try (intros; omega)) <;> (try grind)))
theorem zpP (l : List (List UInt8)) (x : List UInt8) : ∀ k : Int, 0 ≤ k → decide (0 ≤ zoB l x k) = l.contains x := by
 induction l with
 | nil => intro k hk; simp [zoB]
 | cons s l ih =>
  intro k hk
  by_cases h : x = s
  ·subst h; simp [zoB, hk]
  ·rw [zoB, if_neg h, ih (k + 1) (by omega)]
   simp [h]
theorem zi5 (l : List (List UInt8)) (x : List UInt8) : Fun Tryz.prog 48 [.u (zqN l), .u (.str x)] (· = .u (.bool (l.contains x))) := by
 have h1 := zm8 l x
 (refine Fun.of_body Tryz.func48 rfl (by simp) fun Γ hn => ?_); simp only [entry, ziC, ziN, maC, maN, oA, Tryz.ntmps48]
 simp only [zqN] at h1 ⊢
 repeat' (first
  | ((first | refine zaf ?_ | refine zaj ?_ | refine zah ?_ | fail); simp)
  | (refine zas ?_; simp only [zap])
  | (refine CallP.fE (h1) (by first | rfl | fail) (by first | (simp; done) | (simp; rfl) | fail) ?_; (try simp))
  | fail)
 (refine EndOK.val (.inr rfl) ?_; simp [zaM, zag, zau, Tryz.results48])
 have h2 := zpP l x 0 (by omega)
 simpa using h2
def words : List (List UInt8) := [[97, 110, 100], [98, 97, 99, 107, 115], [98, 105, 100, 100, 105, 110, 103], [99, 105, 114, 99, 108, 101], [99, 111, 105, 110, 115], [99, 111, 118, 101, 114], [100, 97, 121, 115], [100, 114, 97, 119], [100, 117, 101], [101, 108, 115, 101], [102, 97, 108, 115, 101], [102, 105, 110, 101], [102, 117, 110, 100], [103, 114, 97, 99, 101], [104, 111, 108, 100], [105, 102], [106, 111, 105, 110], [106, 117, 114, 121], [108, 101, 116], [109, 97, 120], [109, 105, 108, 108, 101], [109, 105, 110], [110, 101, 101, 100], [110, 111, 116], [111, 114], [111, 114, 100, 101, 114], [112, 97, 121], [112, 101, 114], [114, 111, 116, 97, 116, 105, 110, 103], [115, 97, 118, 105, 110, 103], [115, 101, 97, 108, 101, 100], [116, 104, 101, 110], [116, 114, 117, 101], [118, 111, 105, 99, 101, 115], [119, 97, 105, 116]]
set_option maxHeartbeats 4000000 in
set_option maxRecDepth 100000 in
theorem zjB : Fun Tryz.prog 49 [] (· = .u (zqN words)) := by
 (refine Fun.of_bodyW Tryz.func49 rfl (by simp) fun Γ hn => ?_); simp only [entry, ziC, ziN, maC, maN, oA, Tryz.ntmps49]
 simp only [zqN, words, List.map_cons, List.map_nil]
 repeat' (first
  | ((first | refine zaf ?_ | refine zaj ?_ | refine zah ?_ | fail); simp [zb9, zbS])
  | (refine zas ?_; simp only [zap])
  | fail)
 (refine EndW.frzN 1 ?_; simp [frzN, frz1, zaz, zay, St.frz, St.frzS, frzS, fv, zaH, za3, za5, zaE, zat, zal, del, frz, za6])
 refine EndW.here ?_
 (refine EndOK.val (.inr rfl) ?_; simp [zaM, zag, zau, Tryz.results49])
def zbr (s : List UInt8) : Bool := ze9 s && !words.contains s
set_option maxRecDepth 100000 in
theorem ze0 (s : List UInt8) : Fun Tryz.prog 16 [.u (.str s)] (· = .u (.bool (zbr s))) := by
 have h1 := zi5 words s
 have h2 := zlv s
 have h3 := zjB
 generalize hw : words.contains s = w at h1
 simp only [zqN] at h1 h3
 generalize (words.map fun s => [U.str s]) = W at h1 h3
 unfold zbr
 rw [hw]
 clear hw
 generalize ze9 s = b at h2 ⊢
 cases b
 all_goals
  (refine Fun.of_body Tryz.func16 rfl (by simp) fun Γ hn => ?_); simp only [entry, ziC, ziN, maC, maN, oA, Tryz.ntmps16]
  repeat' (first
  | ((first | refine zaf ?_ | refine zaj ?_ | refine zah ?_ | fail); simp)
  | (refine zas ?_; simp only [zap])
  | (refine CallP.fE (h1) (by first | rfl | fail) (by first | (simp; done) | (simp; rfl) | fail) ?_; (try simp))
  | (refine CallP.fE (h2) (by first | rfl | fail) (by first | (simp; done) | (simp; rfl) | fail) ?_; (try simp))
  | (refine CallP.fE (h3) (by first | rfl | fail) (by first | (simp; done) | (simp; rfl) | fail) ?_; (try simp))
  | fail)
  (refine EndOK.val (.inr rfl) ?_; simp [zaM, zag, zau, Tryz.results16])
def zb2 (op : Int) : Int := if op = 0 ∨ op = 1 then 0 else if op = 12 then 1 else if op = 13 then 3 else if op < 0 ∨ 14 ≤ op then -1 else 2
theorem zjW (op : Int) : Fun Tryz.prog 121 [.u (.int .i64 op)] (· = .u (.int .i64 (zb2 op))) := by
 unfold zb2
 (refine Fun.of_body Tryz.func121 rfl (by simp) fun Γ hn => ?_); simp only [entry, ziC, ziN, maC, maN, oA, Tryz.ntmps121]
 repeat' (first
  | ((first | refine zaf ?_ | refine zaj ?_ | refine zah ?_ | refine zai ?_ | refine zaD ?_ | refine zaG ?_ | fail); simp)
  | ((first | refine zas ?_ | refine zaq ?_ | fail); simp only [zap])
  | (refine ⟨?_, by omega⟩)
  | (refine ⟨fun hc => ?_, fun hc => ?_⟩ <;> (try (exfalso; omega)))
  | (intro hc <;> (try (exfalso; omega)))
  | fail)
 all_goals
  (refine EndOK.val (.inr rfl) ?_; simp [zaM, zag, zau, Tryz.results121])
 all_goals (repeat' split) <;> first | rfl | omega | simp_all
theorem zq1 : Exp.row = fun e => [.int .i64 e.op, .int .i64 e.n, .int .i64 e.unit, .str e.s, .sl (e.args.map Exp.row)] := funext fun e => e.row_eq
def zgB (e : Exp) : D := .u (.agg [.int .i64 e.op, .int .i64 e.n, .int .i64 e.unit, .str e.s, .sl (e.args.map Exp.row)])
def zry (l : List Exp) : U := .sl (l.map fun e => [.int .i64 e.op, .int .i64 e.n, .int .i64 e.unit, .str e.s, .sl (e.args.map Exp.row)])
theorem zq0 (l : List Exp) : zry l = .sl (l.map Exp.row) := by rw [zry, ← zq1]
theorem znc (l : List (Exp)) (f : FuncId) (caps : List U) (p : Exp → Bool) (hf : ∀ n ∈ l, Fun Tryz.prog f (zgB n :: caps.map .u) (· = .u (.bool (p n)))) (hcl : zam Tryz.prog f = true)
  (hca : ∀ o, zcT o (caps.map .u) = some (caps.map .u, [])) : Fun Tryz.prog 141 [.u (zry l), .fnc (.func f) (caps.map .u)] (· = .u (.int .i64 (zhJ p l 0))) := by
 (refine Fun.of_body Tryz.func141 rfl (by simp) fun Γ hn => ?_); simp only [entry, ziC, ziN, maC, maN, oA, Tryz.ntmps141]
 simp only [zry]
 refine zjd (x := 0) rfl fun hl => ?_
 simp at hl
 repeat' (first
  | ((first | refine zaf ?_ | refine zaj ?_ | refine zah ?_ | refine zaD ?_ | fail); simp)
  | fail)
 refine zdt (α := { i : Nat // i ≤ l.length ∧ ∀ c ∈ l.take i, p c = false }) [0, 1, 7] (fun i => [(8, .u (.int .i64 i.1))]) (fun i => l.length - i.1) ⟨0, by omega, by simp⟩ ?_ ?_
 ·exact (Wk.env rfl rfl rfl (by simp [wkE, St.lp, zan, zaa, getK] <;> (try (intros; simp_all; done)) <;> (try (intros; omega)) <;> (try grind)))
 rintro ⟨i, hi, hb⟩
 simp [St.lp, St.only, zan, zaa, getK]
 rcases hx : l[i]? with _ | n
 ·have hge : l.length ≤ i := by simpa using hx
  repeat' (first
  | ((first | refine zaf ?_ | refine zaj ?_ | fail); simp [hx])
  | (refine ⟨by omega, ?_⟩)
  | (refine zah ?_; simp [hx])
  | (refine zas ?_; simp only [zap])
  | (refine zce ?_; simp [zap])
  | (intro hc <;> (try (exfalso; omega)))
  | fail)
  (refine EndOK.val (.inr rfl) ?_; simp [zaM, zag, zau, Tryz.results141])
  rw [List.take_of_length_le hge] at hb
  exact (zfL hb).symm
 ·have hlt : i < l.length := (lGE.1 hx).1
  have h1 := hf n (List.mem_of_getElem? hx)
  simp only [zgB] at h1
  cases hp : p n
  ·rw [hp] at h1
   repeat' (first
  | ((first | refine zaf ?_ | refine zaj ?_ | fail); simp [hx, hca])
  | (refine ⟨by omega, ?_⟩)
  | ((first | refine zah ?_ | refine zai ?_ | refine zaG ?_ | fail); simp [hx, hca])
  | (refine zaq ?_; simp only [zap])
  | (refine ⟨?_, by omega⟩)
  | (intro hc <;> (try (exfalso; omega)))
  | (refine CallP.fE (h1) (by first | rfl | fail) (by first | simp [hx, hca] <;> rfl | fail) ?_; (try simp [hcl, hx, hca]))
  | fail)
   refine LoopW.next ⟨i + 1, by omega, zbB hx hb hp⟩ (by simp; omega) ?_
   exact (Wk.env rfl rfl rfl (by simp [wkE, St.lp, zan, zaa, getK] <;> (try (intros; simp_all; done)) <;> (try (intros; omega)) <;> (try grind)))
  ·rw [hp] at h1
   repeat' (first
  | ((first | refine zaf ?_ | refine zaj ?_ | refine zah ?_ | refine zai ?_ | fail); simp [hx, hca])
  | ((first | refine zas ?_ | refine zaq ?_ | fail); simp only [zap])
  | (refine ⟨?_, by omega⟩)
  | (intro hc <;> (try (exfalso; omega)))
  | (refine CallP.fE (h1) (by first | rfl | fail) (by first | simp [hx, hca] <;> rfl | fail) ?_; (try simp [hcl, hx, hca]))
  | fail)
   (refine EndOK.val (.inr rfl) ?_; simp [zaM, zag, zau, Tryz.results141])
   rw [ziV hb hx hp]
   omega
theorem zi7 (l : List (Exp)) (f : FuncId) (caps : List U) (p : Exp → Bool) (hf : ∀ n ∈ l, Fun Tryz.prog f (zgB n :: caps.map .u) (· = .u (.bool (p n)))) (hcl : zam Tryz.prog f = true)
  (hca : ∀ o, zcT o (caps.map .u) = some (caps.map .u, [])) (hcb : ∀ o, zbU o (caps.map .u) = some (caps, [])) : Fun Tryz.prog 122 [.u (zry l), .fnc (.func f) (caps.map .u)] (· = .u (.bool (l.any p))) := by
 have h1 := znc l f caps p hf hcl hca
 (refine Fun.of_body Tryz.func122 rfl (by simp) fun Γ hn => ?_); simp only [entry, ziC, ziN, maC, maN, oA, Tryz.ntmps122]
 simp only [zry] at h1 ⊢
 repeat' (first
  | ((first | refine zaf ?_ | refine zaj ?_ | refine zah ?_ | fail); simp [hcb])
  | (refine zas ?_; simp only [zap])
  | (refine CallP.fE (h1) (by first | rfl | fail) (by first | simp [hcb] <;> rfl | fail) ?_; (try simp [hcl, hcb]))
  | fail)
 (refine EndOK.val (.inr rfl) ?_; simp [zaM, zag, zau, Tryz.results122])
 have h2 := ziW p l 0 (by omega)
 rw [Bool.eq_iff_iff]
 simpa using h2
def zlE (e : Exp) : Bool := decide (e.s = []) && decide (0 ≤ e.unit) && decide (e.unit < 5) && decide (0 ≤ e.n) && decide (e.n ≤ if e.unit = 0 then 1 else 1099511627776)
def zaA : Nat → Exp → Bool
 | 0, _ => false
 | d + 1, e => decide ((e.args.length : Int) = zb2 e.op) && (if e.op = 0 then zlE e else if e.n ≠ 0 ∨ e.unit ≠ 0 then false else if e.op = 1 then zbr e.s else decide (e.s = []) && !e.args.any (fun x => !zaA d x))
set_option maxRecDepth 100000 in
set_option maxHeartbeats 4000000 in
theorem zjz : ∀ (d : Nat) (e : Exp), (d : Int) ≤ 100 → Fun Tryz.prog 69 [zgB e, .u (.int .i64 d)] (· = .u (.bool (zaA d e)))
 | 0, e, _ => by
  (refine Fun.of_body Tryz.func69 rfl (by simp) fun Γ hn => ?_); simp only [entry, ziC, ziN, maC, maN, oA, Tryz.ntmps69]
  simp only [zgB]
  repeat' (first
  | ((first | refine zaf ?_ | refine zeE ?_ | refine zaj ?_ | refine zah ?_ | refine zai ?_ | fail); simp)
  | (refine zf2 ?_)
  | (refine hk _ ?_; clear hk k; simp only [zap])
  | (refine zeA rfl (by kernel_rfl) (by kernel_rfl) fun k hk => ?_; simp)
  | (refine zeD rfl (by simp) (fun hc => ?_) (fun hc => ?_) <;> (try simp at hc) <;> (try (exfalso; omega)) <;> (try simp))
  | (refine zas ?_; simp only [zap])
  | fail)
  (refine EndOK.val (.inr rfl) ?_; simp [zaM, zag, zau, Tryz.results69])
  rfl
 | d + 1, e, hd => by
  have hr : ∀ x : Exp, Fun Tryz.prog 123 (zgB x :: [U.row [.int .i64 ((d + 1 : Nat) : Int)] 0].map .u) (· = .u (.bool (!zaA d x))) := fun x => by
   have h1 := zjz d x (by omega)
   (refine Fun.of_body Tryz.func123 rfl (by simp) fun Γ hn => ?_); simp only [entry, ziC, ziN, maC, maN, oA, Tryz.ntmps123]
   simp only [zgB] at h1 ⊢
   repeat' (first
  | ((first | refine zaf ?_ | refine zaj ?_ | fail); simp)
  | (refine ⟨by omega, ?_⟩)
  | (refine zah ?_; simp)
  | (refine zas ?_; simp only [zap])
  | (refine CallP.fE (h1) (by first | rfl | fail) (by first | (simp; done) | (simp; rfl) | fail) ?_; (try simp))
  | fail)
   (refine EndOK.val (.inr rfl) ?_; simp [zaM, zag, zau, Tryz.results123])
  have hcon := zi7 e.args 123 [U.row [.int .i64 ((d + 1 : Nat) : Int)] 0] (fun x => !zaA d x) (fun x _ => hr x) (by simp) (fun _ => rfl) (fun _ => rfl)
  have hnam := ze0 e.s
  have hopr := zjW e.op
  simp only [List.map_cons, List.map_nil] at hcon
  rw [zaA]
  unfold zlE
  generalize (e.args.any fun x => !zaA d x) = z at hcon ⊢
  generalize zbr e.s = nm at hnam ⊢
  generalize hop : zb2 e.op = oi at hopr ⊢
  (refine Fun.of_body Tryz.func69 rfl (by simp) fun Γ hn => ?_); simp only [entry, ziC, ziN, maC, maN, oA, Tryz.ntmps69]
  rw [zq0] at hcon
  simp only [zgB]
  by_cases hlen : (e.args.length : Int) = oi
  case neg =>
   repeat' (first
  | ((first | refine zaf ?_ | refine zeE ?_ | refine zaj ?_ | refine zah ?_ | refine zai ?_ | fail); simp [hlen])
  | (refine zf2 ?_)
  | (refine hk _ ?_; clear hk k; simp only [zap])
  | (refine zeA rfl (by kernel_rfl) (by kernel_rfl) fun k hk => ?_; simp [hlen])
  | (refine zeD rfl (by simp [hlen]) (fun hc => ?_) (fun hc => ?_) <;> (try simp [hlen] at hc) <;> (try (exfalso; omega)) <;> (try simp [hlen]))
  | (refine zas ?_; simp only [zap])
  | (refine CallV.fun_ (hopr) (by first | rfl | fail) (by first | simp [hlen] <;> rfl | fail) ?_ <;> (try simp [hlen]))
  | fail)
   (refine EndOK.val (.inr rfl) ?_; simp [zaM, zag, zau, Tryz.results69])
   try (simp_all; done)
  by_cases h0 : e.op = 0
  case pos =>
   by_cases hu : e.unit = 0
   all_goals
    repeat' (first
  | ((first | refine zaf ?_ | refine zeE ?_ | refine zaj ?_ | refine zah ?_ | refine zai ?_ | fail); simp [hlen, h0, hu])
  | (refine zf2 ?_)
  | (refine hk _ ?_; clear hk k; simp only [zap])
  | (refine zeA rfl (by kernel_rfl) (by kernel_rfl) fun k hk => ?_; simp [hlen, h0, hu])
  | (refine zeD rfl (by simp [hlen, h0, hu]) (fun hc => ?_) (fun hc => ?_) <;> (try simp [hlen, h0, hu] at hc) <;> (try (exfalso; omega)) <;> (try simp [hlen, h0, hu]))
  | (refine zaG ?_; simp [hlen, h0, hu])
  | ((first | refine zas ?_ | refine zaq ?_ | fail); simp only [zap])
  | (refine ⟨fun hc => ?_, fun hc => ?_⟩ <;> (try (exfalso; omega)))
  | (refine CallV.fun_ (hopr) (by first | rfl | fail) (by first | simp [hlen, h0, hu] <;> rfl | fail) ?_ <;> (try simp [hlen, h0, hu]))
  | fail)
    all_goals
     (refine EndOK.val (.inr rfl) ?_; simp [zaM, zag, zau, Tryz.results69])
   all_goals clear hr hopr hcon hnam
   all_goals grind
  by_cases hnu : e.n ≠ 0 ∨ e.unit ≠ 0
  case pos =>
   repeat' (first
  | ((first | refine zaf ?_ | refine zeE ?_ | refine zaj ?_ | refine zah ?_ | refine zai ?_ | fail); simp [hlen, h0])
  | (refine zf2 ?_)
  | (refine hk _ ?_; clear hk k; simp only [zap])
  | (refine zeA rfl (by kernel_rfl) (by kernel_rfl) fun k hk => ?_; simp [hlen, h0])
  | (refine zeD rfl (by simp [hlen, h0]) (fun hc => ?_) (fun hc => ?_) <;> (try simp [hlen, h0] at hc) <;> (try (exfalso; omega)) <;> (try simp [hlen, h0]))
  | ((first | refine zas ?_ | refine zaq ?_ | fail); simp only [zap])
  | (refine ⟨?_, by omega⟩)
  | (refine ⟨fun hc => ?_, fun hc => ?_⟩ <;> (try (exfalso; omega)))
  | (intro hc <;> (try (exfalso; omega)))
  | (refine CallV.fun_ (hopr) (by first | rfl | fail) (by first | simp [hlen, h0] <;> rfl | fail) ?_ <;> (try simp [hlen, h0]))
  | fail)
   all_goals
    (refine EndOK.val (.inr rfl) ?_; simp [zaM, zag, zau, Tryz.results69])
   all_goals clear hr hopr hcon hnam
   all_goals grind
  by_cases h1 : e.op = 1
  case pos =>
   repeat' (first
  | ((first | refine zaf ?_ | refine zeE ?_ | refine zaj ?_ | fail); simp [hlen, h0, h1])
  | (refine ⟨by omega, ?_⟩)
  | ((first | refine zah ?_ | refine zai ?_ | fail); simp [hlen, h0, h1])
  | (refine zf2 ?_)
  | (refine hk _ ?_; clear hk k; simp only [zap])
  | (refine zeA rfl (by kernel_rfl) (by kernel_rfl) fun k hk => ?_; simp [hlen, h0, h1])
  | (refine zeD rfl (by simp [hlen, h0, h1]) (fun hc => ?_) (fun hc => ?_) <;> (try simp [hlen, h0, h1] at hc) <;> (try (exfalso; omega)) <;> (try simp [hlen, h0, h1]))
  | ((first | refine zas ?_ | refine zaq ?_ | fail); simp only [zap])
  | (refine ⟨?_, by omega⟩)
  | (intro hc <;> (try (exfalso; omega)))
  | (refine CallV.fun_ (hopr) (by first | rfl | fail) (by first | simp [hlen, h0, h1] <;> rfl | fail) ?_ <;> (try simp [hlen, h0, h1]))
  | (refine CallP.fE (hnam) (by first | rfl | fail) (by first | simp [hlen, h0, h1] <;> rfl | fail) ?_; (try simp [hlen, h0, h1]))
  | fail)
   all_goals
    (refine EndOK.val (.inr rfl) ?_; simp [zaM, zag, zau, Tryz.results69])
   all_goals clear hr hopr hcon hnam
   all_goals grind
  by_cases hs : e.s = []
  all_goals
   repeat' (first
  | ((first | refine zaf ?_ | refine zeE ?_ | refine zaj ?_ | fail); simp [hlen, h0, h1, hs])
  | (refine ⟨by omega, ?_⟩)
  | ((first | refine zah ?_ | refine zai ?_ | fail); simp [hlen, h0, h1, hs])
  | (refine zf2 ?_)
  | (refine hk _ ?_; clear hk k; simp only [zap])
  | (refine zeA rfl (by kernel_rfl) (by kernel_rfl) fun k hk => ?_; simp [hlen, h0, h1, hs])
  | (refine zeD rfl (by simp [hlen, h0, h1, hs]) (fun hc => ?_) (fun hc => ?_) <;> (try simp [hlen, h0, h1, hs] at hc) <;> (try (exfalso; omega)) <;> (try simp [hlen, h0, h1, hs]))
  | ((first | refine zas ?_ | refine zaq ?_ | fail); simp only [zap])
  | (refine ⟨?_, by omega⟩)
  | (intro hc <;> (try (exfalso; omega)))
  | (refine CallV.fun_ (hopr) (by first | rfl | fail) (by first | simp [hlen, h0, h1, hs] <;> rfl | fail) ?_ <;> (try simp [hlen, h0, h1, hs]))
  | (refine CallP.fE (hcon) (by first | rfl | fail) (by first | simp [hlen, h0, h1, hs] <;> rfl | fail) ?_; (try simp [hlen, h0, h1, hs]))
  | fail)
   all_goals
    (refine EndOK.val (.inr rfl) ?_; simp [zaM, zag, zau, Tryz.results69])
  all_goals clear hr hopr hcon hnam
  all_goals grind
theorem zci (e : Exp) : Fun Tryz.prog 25 [zgB e] (· = .u (.bool (zaA 12 e))) := by
 have h1 := zjz 12 e (by omega)
 (refine Fun.of_body Tryz.func25 rfl (by simp) fun Γ hn => ?_); simp only [entry, ziC, ziN, maC, maN, oA, Tryz.ntmps25]
 simp only [zgB] at h1 ⊢
 repeat' (first
  | ((first | refine zaf ?_ | refine zaj ?_ | refine zah ?_ | fail); simp)
  | (refine zas ?_; simp only [zap])
  | (refine CallP.fE (h1) (by first | rfl | fail) (by first | (simp; done) | (simp; rfl) | fail) ?_; (try simp))
  | fail)
 (refine EndOK.val (.inr rfl) ?_; simp [zaM, zag, zau, Tryz.results25])
def zlW (l : Let) : List U := [.str l.name, .int .i64 l.body.op, .int .i64 l.body.n, .int .i64 l.body.unit, .str l.body.s, .sl (l.body.args.map Exp.row)]
def zos (l : Let) : D := .u (.agg [.str l.name, .int .i64 l.body.op, .int .i64 l.body.n, .int .i64 l.body.unit, .str l.body.s, .sl (l.body.args.map Exp.row)])
def zfH (l : List Let) : U := .sl (l.map fun l => [.str l.name, .int .i64 l.body.op, .int .i64 l.body.n, .int .i64 l.body.unit, .str l.body.s, .sl (l.body.args.map Exp.row)])
theorem zna (l : List (Let)) (f : FuncId) (caps : List U) (p : Let → Bool) (hf : ∀ n ∈ l, Fun Tryz.prog f (zos n :: caps.map .u) (· = .u (.bool (p n)))) (hcl : zam Tryz.prog f = true)
  (hca : ∀ o, zcT o (caps.map .u) = some (caps.map .u, [])) : Fun Tryz.prog 120 [.u (zfH l), .fnc (.func f) (caps.map .u)] (· = .u (.int .i64 (zhJ p l 0))) := by
 (refine Fun.of_body Tryz.func120 rfl (by simp) fun Γ hn => ?_); simp only [entry, ziC, ziN, maC, maN, oA, Tryz.ntmps120]
 simp only [zfH]
 refine zjd (x := 0) rfl fun hl => ?_
 simp at hl
 repeat' (first
  | ((first | refine zaf ?_ | refine zaj ?_ | refine zah ?_ | refine zaD ?_ | fail); simp)
  | fail)
 refine zdt (α := { i : Nat // i ≤ l.length ∧ ∀ c ∈ l.take i, p c = false }) [0, 1, 7] (fun i => [(8, .u (.int .i64 i.1))]) (fun i => l.length - i.1) ⟨0, by omega, by simp⟩ ?_ ?_
 ·exact (Wk.env rfl rfl rfl (by simp [wkE, St.lp, zan, zaa, getK] <;> (try (intros; simp_all; done)) <;> (try (intros; omega)) <;> (try grind)))
 rintro ⟨i, hi, hb⟩
 simp [St.lp, St.only, zan, zaa, getK]
 rcases hx : l[i]? with _ | n
 ·have hge : l.length ≤ i := by simpa using hx
  repeat' (first
  | ((first | refine zaf ?_ | refine zaj ?_ | fail); simp [hx])
  | (refine ⟨by omega, ?_⟩)
  | (refine zah ?_; simp [hx])
  | (refine zas ?_; simp only [zap])
  | (refine zce ?_; simp [zap])
  | (intro hc <;> (try (exfalso; omega)))
  | fail)
  (refine EndOK.val (.inr rfl) ?_; simp [zaM, zag, zau, Tryz.results120])
  rw [List.take_of_length_le hge] at hb
  exact (zfL hb).symm
 ·have hlt : i < l.length := (lGE.1 hx).1
  have h1 := hf n (List.mem_of_getElem? hx)
  simp only [zos] at h1
  cases hp : p n
  ·rw [hp] at h1
   repeat' (first
  | ((first | refine zaf ?_ | refine zaj ?_ | fail); simp [hx, hca])
  | (refine ⟨by omega, ?_⟩)
  | ((first | refine zah ?_ | refine zai ?_ | refine zaG ?_ | fail); simp [hx, hca])
  | (refine zaq ?_; simp only [zap])
  | (refine ⟨?_, by omega⟩)
  | (intro hc <;> (try (exfalso; omega)))
  | (refine CallP.fE (h1) (by first | rfl | fail) (by first | simp [hx, hca] <;> rfl | fail) ?_; (try simp [hcl, hx, hca]))
  | fail)
   refine LoopW.next ⟨i + 1, by omega, zbB hx hb hp⟩ (by simp; omega) ?_
   exact (Wk.env rfl rfl rfl (by simp [wkE, St.lp, zan, zaa, getK] <;> (try (intros; simp_all; done)) <;> (try (intros; omega)) <;> (try grind)))
  ·rw [hp] at h1
   repeat' (first
  | ((first | refine zaf ?_ | refine zaj ?_ | refine zah ?_ | refine zai ?_ | fail); simp [hx, hca])
  | ((first | refine zas ?_ | refine zaq ?_ | fail); simp only [zap])
  | (refine ⟨?_, by omega⟩)
  | (intro hc <;> (try (exfalso; omega)))
  | (refine CallP.fE (h1) (by first | rfl | fail) (by first | simp [hx, hca] <;> rfl | fail) ?_; (try simp [hcl, hx, hca]))
  | fail)
   (refine EndOK.val (.inr rfl) ?_; simp [zaM, zag, zau, Tryz.results120])
   rw [ziV hb hx hp]
   omega
theorem zfU (l : List (Let)) (f : FuncId) (caps : List U) (p : Let → Bool) (hf : ∀ n ∈ l, Fun Tryz.prog f (zos n :: caps.map .u) (· = .u (.bool (p n)))) (hcl : zam Tryz.prog f = true)
  (hca : ∀ o, zcT o (caps.map .u) = some (caps.map .u, [])) (hcb : ∀ o, zbU o (caps.map .u) = some (caps, [])) : Fun Tryz.prog 67 [.u (zfH l), .fnc (.func f) (caps.map .u)] (· = .u (.bool (l.any p))) := by
 have h1 := zna l f caps p hf hcl hca
 (refine Fun.of_body Tryz.func67 rfl (by simp) fun Γ hn => ?_); simp only [entry, ziC, ziN, maC, maN, oA, Tryz.ntmps67]
 simp only [zfH] at h1 ⊢
 repeat' (first
  | ((first | refine zaf ?_ | refine zaj ?_ | refine zah ?_ | fail); simp [hcb])
  | (refine zas ?_; simp only [zap])
  | (refine CallP.fE (h1) (by first | rfl | fail) (by first | simp [hcb] <;> rfl | fail) ?_; (try simp [hcl, hcb]))
  | fail)
 (refine EndOK.val (.inr rfl) ?_; simp [zaM, zag, zau, Tryz.results67])
 have h2 := ziW p l 0 (by omega)
 rw [Bool.eq_iff_iff]
 simpa using h2
def zrL (n : Int) : D := .u (.int .i64 n)
def zqV (l : List Int) : U := .sl (l.map fun n => [.int .i64 n])
theorem znb (l : List (Int)) (f : FuncId) (caps : List U) (p : Int → Bool) (hf : ∀ n ∈ l, Fun Tryz.prog f (zrL n :: caps.map .u) (· = .u (.bool (p n)))) (hcl : zam Tryz.prog f = true)
  (hca : ∀ o, zcT o (caps.map .u) = some (caps.map .u, [])) : Fun Tryz.prog 140 [.u (zqV l), .fnc (.func f) (caps.map .u)] (· = .u (.int .i64 (zhJ p l 0))) := by
 (refine Fun.of_body Tryz.func140 rfl (by simp) fun Γ hn => ?_); simp only [entry, ziC, ziN, maC, maN, oA, Tryz.ntmps140]
 simp only [zqV]
 refine zjd (x := 0) rfl fun hl => ?_
 simp at hl
 repeat' (first
  | ((first | refine zaf ?_ | refine zaj ?_ | refine zah ?_ | refine zaD ?_ | fail); simp)
  | fail)
 refine zdt (α := { i : Nat // i ≤ l.length ∧ ∀ c ∈ l.take i, p c = false }) [0, 1, 7] (fun i => [(8, .u (.int .i64 i.1))]) (fun i => l.length - i.1) ⟨0, by omega, by simp⟩ ?_ ?_
 ·exact (Wk.env rfl rfl rfl (by simp [wkE, St.lp, zan, zaa, getK] <;> (try (intros; simp_all; done)) <;> (try (intros; omega)) <;> (try grind)))
 rintro ⟨i, hi, hb⟩
 simp [St.lp, St.only, zan, zaa, getK]
 rcases hx : l[i]? with _ | n
 ·have hge : l.length ≤ i := by simpa using hx
  repeat' (first
  | ((first | refine zaf ?_ | refine zaj ?_ | fail); simp [hx])
  | (refine ⟨by omega, ?_⟩)
  | (refine zah ?_; simp [hx])
  | (refine zas ?_; simp only [zap])
  | (refine zce ?_; simp [zap])
  | (intro hc <;> (try (exfalso; omega)))
  | fail)
  (refine EndOK.val (.inr rfl) ?_; simp [zaM, zag, zau, Tryz.results140])
  rw [List.take_of_length_le hge] at hb
  exact (zfL hb).symm
 ·have hlt : i < l.length := (lGE.1 hx).1
  have h1 := hf n (List.mem_of_getElem? hx)
  simp only [zrL] at h1
  cases hp : p n
  ·rw [hp] at h1
   repeat' (first
  | ((first | refine zaf ?_ | refine zaj ?_ | fail); simp [hx, hca])
  | (refine ⟨by omega, ?_⟩)
  | ((first | refine zah ?_ | refine zai ?_ | refine zaG ?_ | fail); simp [hx, hca])
  | (refine zaq ?_; simp only [zap])
  | (refine ⟨?_, by omega⟩)
  | (intro hc <;> (try (exfalso; omega)))
  | (refine CallP.fE (h1) (by first | rfl | fail) (by first | simp [hx, hca] <;> rfl | fail) ?_; (try simp [hcl, hx, hca]))
  | fail)
   refine LoopW.next ⟨i + 1, by omega, zbB hx hb hp⟩ (by simp; omega) ?_
   exact (Wk.env rfl rfl rfl (by simp [wkE, St.lp, zan, zaa, getK] <;> (try (intros; simp_all; done)) <;> (try (intros; omega)) <;> (try grind)))
  ·rw [hp] at h1
   repeat' (first
  | ((first | refine zaf ?_ | refine zaj ?_ | refine zah ?_ | refine zai ?_ | fail); simp [hx, hca])
  | ((first | refine zas ?_ | refine zaq ?_ | fail); simp only [zap])
  | (refine ⟨?_, by omega⟩)
  | (intro hc <;> (try (exfalso; omega)))
  | (refine CallP.fE (h1) (by first | rfl | fail) (by first | simp [hx, hca] <;> rfl | fail) ?_; (try simp [hcl, hx, hca]))
  | fail)
   (refine EndOK.val (.inr rfl) ?_; simp [zaM, zag, zau, Tryz.results140])
   rw [ziV hb hx hp]
   omega
theorem zi6 (l : List (Int)) (f : FuncId) (caps : List U) (p : Int → Bool) (hf : ∀ n ∈ l, Fun Tryz.prog f (zrL n :: caps.map .u) (· = .u (.bool (p n)))) (hcl : zam Tryz.prog f = true)
  (hca : ∀ o, zcT o (caps.map .u) = some (caps.map .u, [])) (hcb : ∀ o, zbU o (caps.map .u) = some (caps, [])) : Fun Tryz.prog 118 [.u (zqV l), .fnc (.func f) (caps.map .u)] (· = .u (.bool (l.any p))) := by
 have h1 := znb l f caps p hf hcl hca
 (refine Fun.of_body Tryz.func118 rfl (by simp) fun Γ hn => ?_); simp only [entry, ziC, ziN, maC, maN, oA, Tryz.ntmps118]
 simp only [zqV] at h1 ⊢
 repeat' (first
  | ((first | refine zaf ?_ | refine zaj ?_ | refine zah ?_ | fail); simp [hcb])
  | (refine zas ?_; simp only [zap])
  | (refine CallP.fE (h1) (by first | rfl | fail) (by first | simp [hcb] <;> rfl | fail) ?_; (try simp [hcl, hcb]))
  | fail)
 (refine EndOK.val (.inr rfl) ?_; simp [zaM, zag, zau, Tryz.results118])
 have h2 := ziW p l 0 (by omega)
 rw [Bool.eq_iff_iff]
 simpa using h2
def inB (lo hi : Int) (l : List Int) : Bool := !l.any fun n => decide (n < lo) || decide (hi < n)
theorem zqW (lo hi n : Int) : Fun Tryz.prog 119 (zrL n :: [U.row [.int .i64 lo] 0, U.row [.int .i64 hi] 0].map .u) (· = .u (.bool (decide (n < lo) || decide (hi < n)))) := by
 simp only [zrL, List.map_cons, List.map_nil]
 (refine Fun.of_body Tryz.func119 rfl (by simp) fun Γ hn => ?_); simp only [entry, ziC, ziN, maC, maN, oA, Tryz.ntmps119]
 repeat' (first
  | ((first | refine zaf ?_ | refine zaj ?_ | refine zah ?_ | fail); simp)
  | (refine zas ?_; simp only [zap])
  | (refine ⟨fun hc => ?_, fun hc => ?_⟩ <;> (try (exfalso; omega)))
  | fail)
 all_goals
  (refine EndOK.val (.inr rfl) ?_; simp [zaM, zag, zau, Tryz.results119])
 all_goals grind
theorem zke (lo hi : Int) (l : List Int) : Fun Tryz.prog 66 [.u (.int .i64 lo), .u (.int .i64 hi), .u (zqV l)] (· = .u (.bool (inB lo hi l))) := by
 have h1 := zi6 l 119 [U.row [.int .i64 lo] 0, U.row [.int .i64 hi] 0] _ (fun n _ => zqW lo hi n) (by simp) (fun _ => rfl) (fun _ => rfl)
 simp only [List.map_cons, List.map_nil] at h1
 unfold inB
 (refine Fun.of_body Tryz.func66 rfl (by simp) fun Γ hn => ?_); simp only [entry, ziC, ziN, maC, maN, oA, Tryz.ntmps66]
 simp only [zqV] at h1 ⊢
 repeat' (first
  | ((first | refine zaf ?_ | refine zaj ?_ | refine zah ?_ | fail); simp)
  | (refine zas ?_; simp only [zap])
  | (refine CallP.fE (h1) (by first | rfl | fail) (by first | (simp; done) | (simp; rfl) | fail) ?_; (try simp))
  | fail)
 (refine EndOK.val (.inr rfl) ?_; simp [zaM, zag, zau, Tryz.results66])
theorem zmD (x l : Let) : Fun Tryz.prog 68 (zos x :: [U.row (zlW l) 0].map .u) (· = .u (.bool (decide (x.name = l.name)))) := by
 simp only [zos, zlW, List.map_cons, List.map_nil]
 (refine Fun.of_body Tryz.func68 rfl (by simp) fun Γ hn => ?_); simp only [entry, ziC, ziN, maC, maN, oA, Tryz.ntmps68]
 repeat' (first
  | ((first | refine zaf ?_ | refine zaj ?_ | refine zah ?_ | fail); simp)
  | (refine zas ?_; simp only [zap])
  | fail)
 (refine EndOK.val (.inr rfl) ?_; simp [zaM, zag, zau, Tryz.results68])
structure By where
 kind : Int
 period : Int
 grace : Int
 wait : Int
 last : Int
 order : Int
 sld : Bool
 backs : Int
 voices : Int
 jury : Int
 fund : Int
 lets : List Let
 due : Exp
 fine : Exp
 pay : Exp
 cover : Exp
 hold : Exp
 deriving Inhabited
def zbf (b : By) : List U := [.int .i64 b.kind, .int .i64 b.period, .int .i64 b.grace, .int .i64 b.wait, .int .i64 b.last, .int .i64 b.order, .bool b.sld, .int .i64 b.backs, .int .i64 b.voices, .int .i64 b.jury, .int .i64 b.fund,
 .sl (b.lets.map fun l => [.str l.name, .int .i64 l.body.op, .int .i64 l.body.n, .int .i64 l.body.unit, .str l.body.s, .sl (l.body.args.map Exp.row)]),
 .int .i64 b.due.op, .int .i64 b.due.n, .int .i64 b.due.unit, .str b.due.s, .sl (b.due.args.map Exp.row),
 .int .i64 b.fine.op, .int .i64 b.fine.n, .int .i64 b.fine.unit, .str b.fine.s, .sl (b.fine.args.map Exp.row),
 .int .i64 b.pay.op, .int .i64 b.pay.n, .int .i64 b.pay.unit, .str b.pay.s, .sl (b.pay.args.map Exp.row),
 .int .i64 b.cover.op, .int .i64 b.cover.n, .int .i64 b.cover.unit, .str b.cover.s, .sl (b.cover.args.map Exp.row),
 .int .i64 b.hold.op, .int .i64 b.hold.n, .int .i64 b.hold.unit, .str b.hold.s, .sl (b.hold.args.map Exp.row)]
def zlg (b : By) : Bool := inB 0 2 [b.kind] && inB 0 2 [b.order] && inB 1 1000 [b.period, b.last] && inB 0 1000 [b.grace, b.wait, b.voices, b.fund] && inB 0 60 [b.backs, b.jury]
def zdL (seen : List Let) : List Let → Bool
 | [] => true
 | l :: r => zbr l.name && zaA 12 l.body && !seen.any (fun x => decide (x.name = l.name)) && zdL (seen ++ [l]) r
theorem zpE {L : List Let} {i : Nat} {l : Let} (h : L[i]? = some l) : zdL (L.take i) (L.drop i) = (zbr l.name && zaA 12 l.body && !(L.take i).any (fun x => decide (x.name = l.name)) && zdL (L.take (i + 1)) (L.drop (i + 1))) := by
 obtain ⟨hi, rfl⟩ := lGE.1 h
 rw [List.drop_eq_getElem_cons hi, zdL, List.take_succ_eq_append_getElem hi]
def zlk (b : By) : Bool := zaA 12 b.due && zaA 12 b.fine && zaA 12 b.pay && zaA 12 b.cover && zaA 12 b.hold
def zbD (b : By) : Bool := zlg b && !(b.sld && decide (b.kind ≠ 1)) && decide (b.lets.length ≤ 20) && zdL [] b.lets && zlk b
set_option maxRecDepth 100000 in
set_option maxHeartbeats 4000000 in
theorem zdI (b : By) : Fun Tryz.prog 23 [.u (.agg (zbf b))] (· = .u (.bool (zbD b))) := by
 have i1 := zke 0 2 [b.kind]
 have i2 := zke 0 2 [b.order]
 have i3 := zke 1 1000 [b.period, b.last]
 have i4 := zke 0 1000 [b.grace, b.wait, b.voices, b.fund]
 have i5 := zke 0 60 [b.backs, b.jury]
 simp only [zqV, List.map_cons, List.map_nil] at i1 i2 i3 i4 i5
 have hr : ∀ e : Exp, Fun Tryz.prog 25 [.u (.agg [.int .i64 e.op, .int .i64 e.n, .int .i64 e.unit, .str e.s, .sl (e.args.map Exp.row)])] (· = .u (.bool (zaA 12 e))) := fun e => zci e
 have e1 := hr b.due
 have e2 := hr b.fine
 have e3 := hr b.pay
 have e4 := hr b.cover
 have e5 := hr b.hold
 unfold zbD zlg zlk
 generalize inB 0 2 [b.kind] = c1 at i1 ⊢
 generalize inB 0 2 [b.order] = c2 at i2 ⊢
 generalize inB 1 1000 [b.period, b.last] = c3 at i3 ⊢
 generalize inB 0 1000 [b.grace, b.wait, b.voices, b.fund] = c4 at i4 ⊢
 generalize inB 0 60 [b.backs, b.jury] = c5 at i5 ⊢
 (refine Fun.of_body Tryz.func23 rfl (by simp) fun Γ hn => ?_); simp only [entry, ziC, ziN, maC, maN, oA, Tryz.ntmps23]
 simp only [zbf]
 repeat' (first
  | ((first | refine zaf ?_ | refine zaj ?_ | refine zah ?_ | refine zai ?_ | refine zaD ?_ | fail); simp)
  | ((first | refine zas ?_ | refine zaq ?_ | fail); simp only [zap])
  | (refine ⟨fun hc => ?_, fun hc => ?_⟩ <;> (try (exfalso; omega)))
  | (refine CallP.fE (i1) (by first | rfl | fail) (by first | (simp; done) | (simp; rfl) | fail) ?_; (try simp))
  | (refine CallP.fE (i2) (by first | rfl | fail) (by first | (simp; done) | (simp; rfl) | fail) ?_; (try simp))
  | (refine CallP.fE (i3) (by first | rfl | fail) (by first | (simp; done) | (simp; rfl) | fail) ?_; (try simp))
  | (refine CallP.fE (i4) (by first | rfl | fail) (by first | (simp; done) | (simp; rfl) | fail) ?_; (try simp))
  | (refine CallP.fE (i5) (by first | rfl | fail) (by first | (simp; done) | (simp; rfl) | fail) ?_; (try simp))
  | fail)
 all_goals try ((refine EndOK.val (.inr rfl) ?_; simp [zaM, zag, zau, Tryz.results23]); clear i1 i2 i3 i4 i5 hr e1 e2 e3 e4 e5; grind)
 all_goals
  refine zdt (α := { i : Nat // i ≤ b.lets.length ∧ zdL [] b.lets = zdL (b.lets.take i) (b.lets.drop i) }) [1, 62, 63] (fun i => [(64, .u (.int .i64 i.1))]) (fun i => b.lets.length - i.1) ⟨0, by omega, by simp⟩ ?_ ?_
  ·exact (Wk.cut rfl (by simp [hn, St.lp]) (by simp [wkO, St.lp, zaa, getK, Ob.under, D.under, zad, zae]) (by simp [wkU, St.lp, zan, zaa, getK, D.under]) (by simp [wkE, St.lp, zan, zaa, getK] <;> (try (intros; simp_all; done)) <;> (try (intros; omega)) <;> (try grind)))
  rintro ⟨i, hi, hb⟩
  simp [St.lp, St.only, zan, zaa, getK]
  rcases hx : b.lets[i]? with _ | l
  ·have hge : b.lets.length ≤ i := by simpa using hx
   have hb' : zdL [] b.lets = true := by rw [hb, List.drop_of_length_le hge]; rfl
   generalize zaA 12 b.due = x1 at e1 ⊢
   generalize zaA 12 b.fine = x2 at e2 ⊢
   generalize zaA 12 b.pay = x3 at e3 ⊢
   generalize zaA 12 b.cover = x4 at e4 ⊢
   generalize zaA 12 b.hold = x5 at e5 ⊢
   repeat' (first
  | ((first | refine zaf ?_ | refine zaj ?_ | fail); simp [hx])
  | (refine ⟨by omega, ?_⟩)
  | (refine zah ?_; simp [hx])
  | (refine zas ?_; simp only [zap])
  | (refine zce ?_; simp [zap])
  | (refine ⟨fun hc => ?_, fun hc => ?_⟩ <;> (try (exfalso; omega)))
  | (intro hc <;> (try (exfalso; omega)))
  | (refine CallP.fE (e1) (by first | rfl | fail) (by first | simp [hx] <;> rfl | fail) ?_; (try simp [hx]))
  | (refine CallP.fE (e2) (by first | rfl | fail) (by first | simp [hx] <;> rfl | fail) ?_; (try simp [hx]))
  | (refine CallP.fE (e3) (by first | rfl | fail) (by first | simp [hx] <;> rfl | fail) ?_; (try simp [hx]))
  | (refine CallP.fE (e4) (by first | rfl | fail) (by first | simp [hx] <;> rfl | fail) ?_; (try simp [hx]))
  | (refine CallP.fE (e5) (by first | rfl | fail) (by first | simp [hx] <;> rfl | fail) ?_; (try simp [hx]))
  | fail)
   all_goals
    (refine EndOK.val (.inr rfl) ?_; simp [zaM, zag, zau, Tryz.results23])
   all_goals
    clear i1 i2 i3 i4 i5 hr e1 e2 e3 e4 e5
    grind
  ·have hlt : i < b.lets.length := (lGE.1 hx).1
   have hnx := zpE hx
   have e6 := ze0 l.name
   have e7 := hr l.body
   have e8 := zfU (b.lets.take i) 68 [U.row (zlW l) 0] _ (fun x _ => zmD x l) (by simp) (fun _ => rfl) (fun _ => rfl)
   simp only [zfH, zlW, List.map_cons, List.map_nil] at e8
   generalize zbr l.name = y1 at e6 hnx
   generalize zaA 12 l.body = y2 at e7 hnx
   generalize ((b.lets.take i).any fun x => decide (x.name = l.name)) = y3 at e8 hnx
   repeat' (first
  | ((first | refine zaf ?_ | refine zaj ?_ | fail); simp [hx])
  | (refine ⟨by omega, ?_⟩)
  | ((first | refine zah ?_ | refine zai ?_ | refine zaG ?_ | fail); simp [hx])
  | ((first | refine zas ?_ | refine zaq ?_ | fail); simp only [zap])
  | (refine ⟨?_, by omega⟩)
  | (refine ⟨fun hc => ?_, fun hc => ?_⟩ <;> (try (exfalso; omega)))
  | (intro hc <;> (try (exfalso; omega)))
  | (refine CallP.fE (e6) (by first | rfl | fail) (by first | simp [hx] <;> rfl | fail) ?_; (try simp [hx]))
  | (refine CallP.fE (e7) (by first | rfl | fail) (by first | simp [hx] <;> rfl | fail) ?_; (try simp [hx]))
  | (refine CallP.fE (e8) (by first | rfl | fail) (by first | simp [hx] <;> rfl | fail) ?_; (try simp [hx]))
  | fail)
   all_goals first
    | (refine LoopW.next ⟨i + 1, by omega, by simp_all⟩ (by simp; omega) ?_; exact (Wk.cut rfl (by simp [hn, St.lp]) (by simp [wkO, St.lp, zaa, getK, Ob.under, D.under, zad, zae]) (by simp [wkU, St.lp, zan, zaa, getK, D.under]) (by simp [wkE, St.lp, zan, zaa, getK] <;> (try (intros; simp_all; done)) <;> (try (intros; omega)) <;> (try grind))))
    | ((refine EndOK.val (.inr rfl) ?_; simp [zaM, zag, zau, Tryz.results23]); clear i1 i2 i3 i4 i5 hr e1 e2 e3 e4 e5 e6 e7 e8; grind)
end Go.Proofs.YthnemhfamhnfjaaGreatDoor
namespace Go.Proofs.YthnemhfamhnfjaaGreatDoor
open Go Go.VL
structure Tok where
 kind : Int
 text : List UInt8
 n : Int
 pos : Int
 deriving DecidableEq, Inhabited
def Tok.row (t : Tok) : List U := [.int .i64 t.kind, .str t.text, .int .i64 t.n, .int .i64 t.pos]
def zaT (c : UInt8) : Bool := decide (c.toNat = 32) || decide (c.toNat = 9) || decide (c.toNat = 10)
def zb6 (c : UInt8) : Bool := zbm c || zaN c
def za8 (s : List UInt8) : Int := s.foldl (fun n c => 10 * n + ((c.toNat : Int) - 48)) 0
def zd6 (s : List UInt8) : Option Int :=
 if s = [] ∨ zbn zaN s ≠ s.length ∨ (s.head? = some 48 ∧ s ≠ [48]) ∨ 13 < s.length then none else if 1099511627776 < za8 s then none else some (za8 s)
theorem zd1 (s : List UInt8) (c : UInt8) : za8 (s ++ [c]) = 10 * za8 s + ((c.toNat : Int) - 48) := by simp [za8]
theorem zey : ∀ (n : Nat) (s : List UInt8), s.length = n → (∀ c ∈ s, zaN c = true) → 0 ≤ za8 s ∧ za8 s < 10 ^ n
 | 0, s, h, _ => by have := List.eq_nil_of_length_eq_zero h; subst this; simp [za8]
 | n + 1, s, h, hd => by
  have hne : s ≠ [] := fun e => by rw [e] at h; simp at h
  obtain ⟨t, c, rfl⟩ : ∃ t c, s = t ++ [c] := ⟨s.dropLast, s.getLast hne, (List.dropLast_concat_getLast hne).symm⟩
  have h1 := zey n t (by simpa using h) (fun x hx => hd x (by simp [hx]))
  have h2 := hd c (by simp)
  simp only [zaN, Bool.and_eq_true, decide_eq_true_eq] at h2
  rw [zd1]
  have : (10 : Int) ^ (n + 1) = 10 * 10 ^ n := by rw [Int.pow_succ]; omega
  omega
end Go.Proofs.YthnemhfamhnfjaaGreatDoor
namespace Go.Proofs.YthnemhfamhnfjaaGreatDoor
open Go Go.VL
def signsL : List (List UInt8) := [[61, 61], [59], [44], [61], [60], [43], [45], [42], [47], [40], [41]]
def zeu (s : List UInt8) : Except Int Tok := match s with
 | [] => .error 0
 | c :: r => if zbm c = true then
   if ze9 ((c :: r).take (zbn zb6 (c :: r))) = true then .ok ⟨1, (c :: r).take (zbn zb6 (c :: r)), 0, 0⟩ else .error 13
  else if zaN c = true then
   match zd6 ((c :: r).take (zbn zaN (c :: r))) with | some n => .ok ⟨2, (c :: r).take (zbn zaN (c :: r)), n, 0⟩ | none => .error 3
  else match signsL.find? fun x => x.isPrefixOf (c :: r) with | some x => .ok ⟨3, x, 0, 0⟩ | none => .error 11
def nextD (s : List UInt8) : D := match zeu s with | .ok t => .tup [.u (.agg [.int .i64 t.kind, .str t.text, .int .i64 t.n, .int .i64 t.pos]), .u (.int .i64 0)] | .error e => .tup [.u (.agg [.int .i64 0, .str [], .int .i64 0, .int .i64 0]), .u (.int .i64 e)]
end Go.Proofs.YthnemhfamhnfjaaGreatDoor
namespace Go.Proofs.YthnemhfamhnfjaaGreatDoor
open Go Go.VL Go.ChangeShapes Go.WideShapes Go.ChangeAt Go.RowKit
theorem Tryz.own : ownKnob Tryz.prog.godebug = none := by kernel_rfl
theorem Tryz.zrf : laidOutB Tryz.prog = true := by kernel_rfl
theorem Tryz.zt2 : zhU Tryz.prog = true := by kernel_rfl
theorem zrC {u : U} (h : ArgU Tryz.prog 9 u) : ∃ n, u = .str n := by
 obtain ⟨n, h1, _⟩ := (h.one (by simp) (by simp)).of_str (by simp)
 exact ⟨n, by simpa using h1⟩
end Go.Proofs.YthnemhfamhnfjaaGreatDoor
namespace Go.Proofs.YthnemhfamhnfjaaGreatDoor
open Go Go.VL Go.ChangeShapes Go.WideShapes Go.ChangeAt Go.RowKit
end Go.Proofs.YthnemhfamhnfjaaGreatDoor
namespace Go.Proofs.YthnemhfamhnfjaaGreatDoor
open Go Go.VL
abbrev zor : List (String × DataW Unit) := [("math/bits.deBruijn32tab", Rows.laid_math_bits_deBruijn32tab), ("math/bits.deBruijn64tab", Rows.laid_math_bits_deBruijn64tab), ("internal/strconv.uint64pow10", Rows.laid_internal_strconv_uint64pow10), ("stokvel/lex.signs", Rows.laid_stokvel_lex_signs)]
theorem zpW (os : Os) (args : Array Value) : laidMetH Tryz.prog zor ((World.doorLaid Tryz.prog 400 os).forCall (fun _ _ => 0) ⟨#[], args, []⟩).memory :=
 laidMetH_of_parts3 (fuel := 8) (laidMet_of_run' 8 (by kernel_rfl) (by kernel_rfl)) (by kernel_rfl) (by kernel_rfl)
/-- The cells of a listed variable, and its end. -/
theorem ziX {P : Program} {w : World} {n : String} {g : Nat} {cs : Array Value} (hg : P.globalNamed n = some g) (hv : w.var? P n = some cs) :
  (∀ j, j < cs.toList.length → VL.look w g j = some (.val (cs.toList.getD j undef))) ∧ VL.look w g cs.toList.length = some .fin := by
 unfold World.var? at hv
 rw [hg, Option.bind_some] at hv
 split at hv
 ·rename_i cs0 t fr hh
  cases hv
  refine ⟨fun j hj => zed ?_, ?_⟩
  ·have hj' : j < cs.size := by simpa using hj
   simp [World.cell?, hh, hj', List.getD]
  ·have := zpC hh
   simpa using this
 ·cases hv
theorem zqM {P : Program} {w : World} {n : String} {g : Nat} {t e : TypeId} {cs : Array Value} {L : List (List UInt8)} {fuel : Nat} {H : Type} {enc : TypeId × Value → H} {base : Nat} {spare : Nat → Bool} {held : Bool} {q : List MemPlace}
  (hg : P.globalNamed n = some g) (hv : w.var? P n = some cs) (ht : P.underlying t = some (.array L.length e)) (he : P.underlying e = some .string) (hc : P.cellsOf e = 1) (hct : P.cellsOf t = L.length)
  (hd : DataW.trod enc P w base spare held fuel t cs.toList = some (.agg (L.map fun b => .lit (.string b)), q)) : cs.toList = L.map fun b => .string ⟨b.toArray⟩ := by
 obtain ⟨xs, m1, rfl, hx1, hlen, hn3, hel⟩ := DataW.trod_array ht hd
 have hcell := zi8 hg hv ht he hc hd
 apply List.ext_getElem?
 intro j
 cases hb : L[j]? with
 | none =>
  have := List.getElem?_eq_none_iff.1 hb
  rw [List.getElem?_eq_none (by omega), List.getElem?_map, hb]; rfl
 | some b =>
  have h := hcell j b hb
  rw [World.var?_cell hg hv j] at h
  rw [List.getElem?_map, hb, Array.getElem?_toList, h]; rfl
def zrD : List (List UInt8) := [[61, 61], [59], [44], [61], [60], [43], [45], [42], [47], [40], [41]]
theorem zoD (W : World) (h : laidMetH Tryz.prog zor W) : GlobIn (zjk W) := by
 rw [MakeChecks.laidMetH_plain _ _ _ (by kernel_rfl)] at h
 obtain ⟨ps, ⟨ga, ta, ca, fa, pa, qa, hga, hta, hva, hda, ⟨gb, tb, cb, fb, pb, qb, hgb, htb, hvb, hdb, ⟨gc, tc, cc, fc, pc, qc, hgc, htc, hvc, hdc, ⟨gd, td, cd, fd, pd, qd, hgd, htd, hvd, hdd, _⟩, _⟩, _⟩, _⟩, _⟩ := h
 obtain rfl : ga = 3 := Option.some.inj (hga.symm.trans (by kernel_rfl))
 obtain rfl : gb = 4 := Option.some.inj (hgb.symm.trans (by kernel_rfl))
 obtain rfl : gc = 2 := Option.some.inj (hgc.symm.trans (by kernel_rfl))
 obtain rfl : gd = 0 := Option.some.inj (hgd.symm.trans (by kernel_rfl))
 obtain rfl : ta = 164 := Option.some.inj (hta.symm.trans (by kernel_rfl))
 obtain rfl : tb = 165 := Option.some.inj (htb.symm.trans (by kernel_rfl))
 obtain rfl : tc = 158 := Option.some.inj (htc.symm.trans (by kernel_rfl))
 obtain rfl : td = 138 := Option.some.inj (htd.symm.trans (by kernel_rfl))
 have ea := Lib.cells_of_tab (p := pa) (n := 32) (e := 5) (k := .u8) (zs := (globs[1]!.2.map fun v => match v with | .int _ z => z | _ => 0)) (by kernel_rfl) (by kernel_rfl) (by kernel_rfl) (by kernel_rfl) (hda.trans (by kernel_rfl))
 have eb := Lib.cells_of_tab (p := pb) (n := 64) (e := 5) (k := .u8) (zs := (globs[2]!.2.map fun v => match v with | .int _ z => z | _ => 0)) (by kernel_rfl) (by kernel_rfl) (by kernel_rfl) (by kernel_rfl) (hdb.trans (by kernel_rfl))
 have ec := Lib.cells_of_tab (p := pc) (n := 20) (e := 152) (k := .u64) (zs := (globs[0]!.2.map fun v => match v with | .int _ z => z | _ => 0)) (by kernel_rfl) (by kernel_rfl) (by kernel_rfl) (by kernel_rfl) (hdc.trans (by kernel_rfl))
 have ed := zqM (q := pd) (L := zrD) hgd hvd (by kernel_rfl) (e := 9) (by kernel_rfl) (by kernel_rfl) (by kernel_rfl) (hdd.trans (by kernel_rfl))
 have fa := ziX hga hva
 have fb := ziX hgb hvb
 have fc := ziX hgc hvc
 have fd := ziX hgd hvd
 rw [ea] at fa
 rw [eb] at fb
 rw [ec] at fc
 rw [ed] at fd
 intro p hp
 unfold globs at hp
 simp only [List.mem_cons, List.not_mem_nil, or_false] at hp
 rcases hp with rfl | rfl | rfl | rfl
 ·exact fc
 ·exact fa
 ·exact fb
 ·exact fd
end Go.Proofs.YthnemhfamhnfjaaGreatDoor
namespace Go.Proofs.YthnemhfamhnfjaaGreatDoor
open Go Go.VL
attribute [local simp] zdy zck evPure opd uOf zaI St.put St.at getK binD binI binS binB nilD aggD zii zjj lookD lookR zcY Go.VL.nextD zc1 zkb zjm zhD zcO mkV zdU zbt zbE mapEff zeJ zgV Key.kk shiftI arith unD convD zeH loadD cellsAt fieldAddrD fieldD indexAddrD indexD sliceD cutD lenD minmaxD nilCheckD buildD fillD zb4 zdM zfi setAll zdm zfu zcU zja zcL St.add za0 zbZ rowsOf zew zc6 zak zac zaa zbe zc4 zaY entry zbS zb9 valD zcn zcT zhO zdS zdT zcc zbU zaw za2 zbx delAll effD St.effS zdP zbk zbb zdQ zbl zbd zcD zbc za4 zcE zdH zbV zcz zbw zcx zcy zaP mkD zbO zbG zbT zaw zcR D.ids Op.operands Call.operands zbN makeIfD makeFuncD typeAssertD zji zei zej zjh zcZ IntKind.bits zdq List.take_of_length_le List.range_succ
attribute [local irreducible] V G H HD HD2 zap Eff CallP CallV EndOK Fun Ret FinOK LoopI LoopW EndW
theorem zoX (c : UInt8) : Fun Tryz.prog 76 [.u (.int .u8 c.toNat)] (· = .u (.bool (zaT c))) := by
 unfold zaT
 (refine Fun.of_body Tryz.func76 rfl (by simp) fun Γ hn => ?_); simp only [entry, ziC, ziN, maC, maN, oA, Tryz.ntmps76]
 repeat' (first
  | ((first | refine zaf ?_ | refine zaj ?_ | refine zah ?_ | fail); simp)
  | (refine zas ?_; simp only [zap])
  | (refine ⟨fun hc => ?_, fun hc => ?_⟩ <;> (try (exfalso; omega)))
  | fail)
 all_goals
  (refine EndOK.val (.inr rfl) ?_; simp [zaM, zag, zau, Tryz.results76])
 all_goals first | omega | (rw [Bool.eq_iff_iff]; simp; omega) | (simp; omega)
theorem zn9 (c : UInt8) : Fun Tryz.prog 124 [.u (.int .u8 c.toNat)] (· = .u (.bool (zb6 c))) := by
 unfold zb6
 (refine Fun.of_body Tryz.func124 rfl (by simp) fun Γ hn => ?_); simp only [entry, ziC, ziN, maC, maN, oA, Tryz.ntmps124]
 repeat' (first
  | ((first | refine zaf ?_ | refine zaj ?_ | refine zah ?_ | fail); simp)
  | (refine zas ?_; simp only [zap])
  | (refine ⟨fun hc => ?_, fun hc => ?_⟩ <;> (try (exfalso; omega)))
  | (refine CallP.fE (zee c) (by first | rfl | fail) (by first | (simp; done) | (simp; rfl) | fail) ?_; (try simp))
  | (refine CallP.fE (zeT c) (by first | rfl | fail) (by first | (simp; done) | (simp; rfl) | fail) ?_; (try simp))
  | fail)
 all_goals
  (refine EndOK.val (.inr rfl) ?_; simp [zaM, zag, zau, Tryz.results124])
 all_goals simp_all
theorem zdd (p : UInt8 → Bool) (l : List UInt8) : zbn p l ≤ l.length := by
 unfold zbn
 exact (List.takeWhile_sublist p).length_le
theorem znG {p : UInt8 → Bool} {l : List UInt8} (h : zbn p l = l.length) : ∀ c ∈ l, p c = true := by
 have : l.takeWhile p = l := (List.takeWhile_sublist p).eq_of_length h
 intro c hc
 rw [← this] at hc
 exact List.all_eq_true.1 (List.all_takeWhile (l := l) (p := p)) c hc
theorem zmP (s : List UInt8) (hl : s.length ≤ 1000000) : Fun Tryz.prog 125 [.u (.str s)] (· = .tup [.u (.int .i64 ((zd6 s).getD 0)), .u (.bool (zd6 s).isSome)]) := by
 have hsp := zfx s hl 104 zaN (fun c _ => zeT c) (by simp)
 unfold zd6
 cases s with
 | nil =>
  (refine Fun.of_body Tryz.func125 rfl (by simp) fun Γ hn => ?_); simp only [entry, ziC, ziN, maC, maN, oA, Tryz.ntmps125]
  repeat' (first
  | ((first | refine zaf ?_ | refine zaj ?_ | refine zah ?_ | refine zai ?_ | fail); simp)
  | (refine zas ?_; simp only [zap])
  | fail)
  all_goals
   (refine EndOK.val (.inr rfl) ?_; simp [zaM, zag, zau, Tryz.results125])
 | cons c s =>
  by_cases h1 : zbn zaN (c :: s) = (c :: s).length
  case neg =>
   rw [if_pos (.inr (.inl h1))]
   have h1' : ¬ (zbn zaN (c :: s) : Int) = s.length + 1 := by simp at h1; omega
   (refine Fun.of_body Tryz.func125 rfl (by simp) fun Γ hn => ?_); simp only [entry, ziC, ziN, maC, maN, oA, Tryz.ntmps125]
   repeat' (first
  | ((first | refine zaf ?_ | refine zaj ?_ | refine zah ?_ | refine zai ?_ | fail); simp [h1'])
  | (refine zas ?_; simp only [zap])
  | (refine CallP.fE (hsp) (by first | rfl | fail) (by first | simp [h1'] <;> rfl | fail) ?_; (try simp [h1']))
  | fail)
   all_goals
    (refine EndOK.val (.inr rfl) ?_; simp [zaM, zag, zau, Tryz.results125])
  have h1' : (zbn zaN (c :: s) : Int) = s.length + 1 := by simp at h1; omega
  by_cases h2 : c.toNat = 48 ∧ s ≠ []
  ·rw [if_pos (.inr (.inr (.inl ⟨by have := h2.1; simp; exact UInt8.toNat_inj.1 this, by simp; intro _; exact h2.2⟩)))]
   have h2b := h2.1
   have h2a := h2.2
   (refine Fun.of_body Tryz.func125 rfl (by simp) fun Γ hn => ?_); simp only [entry, ziC, ziN, maC, maN, oA, Tryz.ntmps125]
   repeat' (first
  | ((first | refine zaf ?_ | refine zaj ?_ | refine zah ?_ | refine zai ?_ | fail); simp [h1', h2a, h2b])
  | (refine zas ?_; simp only [zap])
  | (refine CallP.fE (hsp) (by first | rfl | fail) (by first | simp [h1', h2a, h2b] <;> rfl | fail) ?_; (try simp [h1', h2a, h2b]))
  | fail)
   all_goals
    (refine EndOK.val (.inr rfl) ?_; simp [zaM, zag, zau, Tryz.results125])
  have h2' : c.toNat = 48 → s = [] := fun h => by
   by_cases hs : s = []
   ·exact hs
   ·exact absurd ⟨h, hs⟩ h2
  by_cases h3 : 13 < (c :: s).length
  ·rw [if_pos (.inr (.inr (.inr h3)))]
   have h3' : 13 < (s.length : Int) + 1 := by simp at h3; omega
   have hne : s ≠ [] := fun e => by rw [e] at h3; simp at h3
   have h2'' : ¬ c.toNat = 48 := fun h => hne (h2' h)
   (refine Fun.of_body Tryz.func125 rfl (by simp) fun Γ hn => ?_); simp only [entry, ziC, ziN, maC, maN, oA, Tryz.ntmps125]
   repeat' (first
  | ((first | refine zaf ?_ | refine zaj ?_ | fail); simp [h1', h2'', h3'])
  | (refine ⟨by omega, ?_⟩)
  | ((first | refine zah ?_ | refine zai ?_ | fail); simp [h1', h2'', h3'])
  | (refine zas ?_; simp only [zap])
  | (intro hc <;> (try (exfalso; omega)))
  | (refine CallP.fE (hsp) (by first | rfl | fail) (by first | simp [h1', h2'', h3'] <;> rfl | fail) ?_; (try simp [h1', h2'', h3']))
  | fail)
   all_goals
    (refine EndOK.val (.inr rfl) ?_; simp [zaM, zag, zau, Tryz.results125])
  have hall := znG h1
  rw [if_neg (by
   simp only [not_or]
   refine ⟨by simp, fun h => h h1, fun h => ?_, h3⟩
   have hc48 : c = 48 := by have := h.1; simpa using this
   have := h2' (by rw [hc48]; rfl)
   rw [this, hc48] at h
   exact h.2 rfl)]
  have h3' : ¬ 13 < (s.length : Int) + 1 := by simp at h3; omega
  have hval : ∀ k, k ≤ (c :: s).length → 0 ≤ za8 ((c :: s).take k) ∧ za8 ((c :: s).take k) < 10 ^ 13 := fun k hk => by
   have h4 := zey k ((c :: s).take k) (by simp; simp at hk; omega) (fun x hx => hall x (List.mem_of_mem_take hx))
   have : (10 : Int) ^ k ≤ 10 ^ 13 := by
    have := Nat.pow_le_pow_right (n := 10) (by omega) (show k ≤ 13 by simp at h3 hk; omega)
    exact_mod_cast this
   omega
  have hloop : ∀ (hw : c.toNat = 48 → s = []), Fun Tryz.prog 125 [.u (.str (c :: s))] (· = .tup [.u (.int .i64 ((if 1099511627776 < za8 (c :: s) then none else some (za8 (c :: s)) : Option Int).getD 0)), .u (.bool (if 1099511627776 < za8 (c :: s) then none else some (za8 (c :: s)) : Option Int).isSome)]) := fun hw => by
   by_cases h48 : c.toNat = 48
   ·have h48' : (c.toNat : Int) = 48 := by omega
    have hc48 : (c = 48) = True := eq_true (UInt8.toNat_inj.1 h48)
    have hs0 : (s = []) = True := eq_true (hw h48)
    (refine Fun.of_body Tryz.func125 rfl (by simp) fun Γ hn => ?_); simp only [entry, ziC, ziN, maC, maN, oA, Tryz.ntmps125]
    repeat' (first
  | ((first | refine zaf ?_ | refine zaj ?_ | refine zah ?_ | refine zai ?_ | refine zaD ?_ | fail); simp [h1', h3', h48', hc48, hs0])
  | (refine zaq ?_; simp only [zap])
  | (refine CallP.fE (hsp) (by first | rfl | fail) (by first | simp [h1', h3', h48', hc48, hs0] <;> rfl | fail) ?_; (try simp [h1', h3', h48', hc48, hs0]))
  | fail)
    refine zdt (α := { i : Nat // i ≤ (c :: s).length }) [0, 30] (fun i => [(4, .u (.int .i64 (za8 ((c :: s).take i.1)))), (31, .u (.int .i64 i.1))]) (fun i => (c :: s).length - i.1) ⟨0, by omega⟩ ?_ ?_
    ·exact (Wk.cut rfl (by simp [hn, St.lp]) (by simp [wkO, St.lp, zaa, getK, Ob.under, D.under, zad, zae, za8]) (by simp [wkU, St.lp, zan, zaa, getK, D.under, za8]) (by simp [wkE, St.lp, zan, zaa, getK, za8] <;> (try (intros; simp_all; done)) <;> (try (intros; omega)) <;> (try grind)))
    rintro ⟨i, hi⟩
    simp [St.lp, St.only, zan, zaa, getK]
    rcases hx : (c :: s)[i]? with _ | a
    ·have hge : (c :: s).length ≤ i := by simpa using hx
     obtain rfl : i = (c :: s).length := by omega
     rw [List.take_length]
     have hge2 : ¬ ((c :: s).length : Int) < s.length + 1 := by simp
     by_cases hb : 1099511627776 < za8 (c :: s)
     ·repeat' (first
  | ((first | refine zaf ?_ | refine zaj ?_ | refine zah ?_ | refine zai ?_ | fail); simp [hb, hge2])
  | (refine zas ?_; simp only [zap])
  | (refine zce ?_; simp [zap])
  | fail)
      (refine EndOK.val (.inr rfl) ?_; simp [zaM, zag, zau, Tryz.results125])
      try simp [hb]
     ·repeat' (first
  | ((first | refine zaf ?_ | refine zaj ?_ | refine zah ?_ | refine zai ?_ | fail); simp [hb, hge2])
  | ((first | refine zas ?_ | refine zaq ?_ | fail); simp only [zap])
  | (refine zce ?_; simp [zap])
  | fail)
      (refine EndOK.val (.inr rfl) ?_; simp [zaM, zag, zau, Tryz.results125])
      try simp [hb]
    ·have hlt : i < (c :: s).length := (lGE.1 hx).1
     have hlt2 : (i : Int) < s.length + 1 := by simp at hlt; omega
     have hd := hall a (List.mem_of_getElem? hx)
     simp only [zaN, Bool.and_eq_true, decide_eq_true_eq] at hd
     have hv := hval i hi
     have hv2 := hval (i + 1) hlt
     have hsn : za8 ((c :: s).take (i + 1)) = 10 * za8 ((c :: s).take i) + ((a.toNat : Int) - 48) := by
      rw [List.take_succ, hx]; exact zd1 _ _
     generalize za8 ((c :: s).take i) = dv at hv hsn
     have hsn2 := hsn.symm
     repeat' (first
  | ((first | refine zaf ?_ | refine zaj ?_ | fail); simp [hx, hlt2, hsn2])
  | (refine ⟨by omega, ?_⟩)
  | ((first | refine zah ?_ | refine zaG ?_ | fail); simp [hx, hlt2, hsn2])
  | (refine zaq ?_; simp only [zap])
  | fail)
     refine LoopW.next ⟨i + 1, hlt⟩ (by simp at hlt; simp; omega) ?_
     exact (Wk.cut rfl (by simp [hn, St.lp]) (by simp [wkO, St.lp, zaa, getK, Ob.under, D.under, zad, zae, hsn]) (by simp [wkU, St.lp, zan, zaa, getK, D.under, hsn]) (by simp [wkE, St.lp, zan, zaa, getK, hsn] <;> (try (intros; simp_all; done)) <;> (try (intros; omega)) <;> (try grind)))
   ·(refine Fun.of_body Tryz.func125 rfl (by simp) fun Γ hn => ?_); simp only [entry, ziC, ziN, maC, maN, oA, Tryz.ntmps125]
    repeat' (first
  | ((first | refine zaf ?_ | refine zaj ?_ | fail); simp [h1', h3', h48])
  | (refine ⟨by omega, ?_⟩)
  | ((first | refine zah ?_ | refine zai ?_ | refine zaD ?_ | fail); simp [h1', h3', h48])
  | (refine zaq ?_; simp only [zap])
  | (intro hc <;> (try (exfalso; omega)))
  | (refine CallP.fE (hsp) (by first | rfl | fail) (by first | simp [h1', h3', h48] <;> rfl | fail) ?_; (try simp [h1', h3', h48]))
  | fail)
    refine zdt (α := { i : Nat // i ≤ (c :: s).length }) [0, 30] (fun i => [(4, .u (.int .i64 (za8 ((c :: s).take i.1)))), (31, .u (.int .i64 i.1))]) (fun i => (c :: s).length - i.1) ⟨0, by omega⟩ ?_ ?_
    ·exact (Wk.cut rfl (by simp [hn, St.lp]) (by simp [wkO, St.lp, zaa, getK, Ob.under, D.under, zad, zae, za8]) (by simp [wkU, St.lp, zan, zaa, getK, D.under, za8]) (by simp [wkE, St.lp, zan, zaa, getK, za8] <;> (try (intros; simp_all; done)) <;> (try (intros; omega)) <;> (try grind)))
    rintro ⟨i, hi⟩
    simp [St.lp, St.only, zan, zaa, getK]
    rcases hx : (c :: s)[i]? with _ | a
    ·have hge : (c :: s).length ≤ i := by simpa using hx
     obtain rfl : i = (c :: s).length := by omega
     rw [List.take_length]
     have hge2 : ¬ ((c :: s).length : Int) < s.length + 1 := by simp
     by_cases hb : 1099511627776 < za8 (c :: s)
     ·repeat' (first
  | ((first | refine zaf ?_ | refine zaj ?_ | refine zah ?_ | refine zai ?_ | fail); simp [hb, hge2])
  | (refine zas ?_; simp only [zap])
  | (refine zce ?_; simp [zap])
  | fail)
      (refine EndOK.val (.inr rfl) ?_; simp [zaM, zag, zau, Tryz.results125])
      try simp [hb]
     ·repeat' (first
  | ((first | refine zaf ?_ | refine zaj ?_ | refine zah ?_ | refine zai ?_ | fail); simp [hb, hge2])
  | ((first | refine zas ?_ | refine zaq ?_ | fail); simp only [zap])
  | (refine zce ?_; simp [zap])
  | fail)
      (refine EndOK.val (.inr rfl) ?_; simp [zaM, zag, zau, Tryz.results125])
      try simp [hb]
    ·have hlt : i < (c :: s).length := (lGE.1 hx).1
     have hlt2 : (i : Int) < s.length + 1 := by simp at hlt; omega
     have hd := hall a (List.mem_of_getElem? hx)
     simp only [zaN, Bool.and_eq_true, decide_eq_true_eq] at hd
     have hv := hval i hi
     have hv2 := hval (i + 1) hlt
     have hsn : za8 ((c :: s).take (i + 1)) = 10 * za8 ((c :: s).take i) + ((a.toNat : Int) - 48) := by
      rw [List.take_succ, hx]; exact zd1 _ _
     generalize za8 ((c :: s).take i) = dv at hv hsn
     have hsn2 := hsn.symm
     repeat' (first
  | ((first | refine zaf ?_ | refine zaj ?_ | fail); simp [hx, hlt2, hsn2])
  | (refine ⟨by omega, ?_⟩)
  | ((first | refine zah ?_ | refine zaG ?_ | fail); simp [hx, hlt2, hsn2])
  | (refine zaq ?_; simp only [zap])
  | fail)
     refine LoopW.next ⟨i + 1, hlt⟩ (by simp at hlt; simp; omega) ?_
     exact (Wk.cut rfl (by simp [hn, St.lp]) (by simp [wkO, St.lp, zaa, getK, Ob.under, D.under, zad, zae, hsn]) (by simp [wkU, St.lp, zan, zaa, getK, D.under, hsn]) (by simp [wkE, St.lp, zan, zaa, getK, hsn] <;> (try (intros; simp_all; done)) <;> (try (intros; omega)) <;> (try grind)))
  exact hloop h2'
theorem zk1 (s p : List UInt8) : Fun Tryz.prog 142 [.u (.str s), .u (.str p)] (· = .u (.bool (p.isPrefixOf s))) := by
 by_cases hl : p.length ≤ s.length
 ·have hl2 : (p.length : Int) ≤ s.length := by omega
  by_cases he : s.take p.length = p
  ·have hp : p.isPrefixOf s = true := List.isPrefixOf_iff_prefix.2 (List.prefix_iff_eq_take.2 he.symm)
   (refine Fun.of_body Tryz.func142 rfl (by simp) fun Γ hn => ?_); simp only [entry, ziC, ziN, maC, maN, oA, Tryz.ntmps142]
   repeat' (first
  | ((first | refine zaf ?_ | refine zaj ?_ | refine zah ?_ | fail); simp [hl, hl2, he])
  | (refine zas ?_; simp only [zap])
  | fail)
   all_goals
    (refine EndOK.val (.inr rfl) ?_; simp [zaM, zag, zau, Tryz.results142])
   all_goals first | (rw [hp]; done) | exact List.isPrefixOf_iff_prefix.1 hp | (simp [hp]; done) | rfl
  ·have hp : p.isPrefixOf s = false := by
    cases h : p.isPrefixOf s with
    | false => rfl
    | true => exact absurd (List.prefix_iff_eq_take.1 (List.isPrefixOf_iff_prefix.1 h)).symm he
   (refine Fun.of_body Tryz.func142 rfl (by simp) fun Γ hn => ?_); simp only [entry, ziC, ziN, maC, maN, oA, Tryz.ntmps142]
   repeat' (first
  | ((first | refine zaf ?_ | refine zaj ?_ | refine zah ?_ | fail); simp [hl, hl2, he])
  | (refine zas ?_; simp only [zap])
  | fail)
   all_goals
    (refine EndOK.val (.inr rfl) ?_; simp [zaM, zag, zau, Tryz.results142])
   all_goals first | (rw [hp]; done) | exact List.isPrefixOf_iff_prefix.1 hp | (simp [hp]; done) | rfl
 ·have hl2 : ¬ (p.length : Int) ≤ s.length := by omega
  have hp : p.isPrefixOf s = false := by
   cases h : p.isPrefixOf s with
   | false => rfl
   | true => exact absurd (List.isPrefixOf_iff_prefix.1 h).length_le hl
  (refine Fun.of_body Tryz.func142 rfl (by simp) fun Γ hn => ?_); simp only [entry, ziC, ziN, maC, maN, oA, Tryz.ntmps142]
  repeat' (first
  | ((first | refine zaf ?_ | refine zaj ?_ | refine zah ?_ | fail); simp [hl, hl2])
  | (refine zas ?_; simp only [zap])
  | fail)
  all_goals
   (refine EndOK.val (.inr rfl) ?_; simp [zaM, zag, zau, Tryz.results142])
  all_goals first | (rw [hp]; done) | exact List.isPrefixOf_iff_prefix.1 hp | (simp [hp]; done) | rfl
theorem zmG (s p : List UInt8) : Fun Tryz.prog 126 [.u (.str s), .u (.str p)] (· = .u (.bool (p.isPrefixOf s))) := by
 have h := zk1 s p
 (refine Fun.of_body Tryz.func126 rfl (by simp) fun Γ hn => ?_); simp only [entry, ziC, ziN, maC, maN, oA, Tryz.ntmps126]
 repeat' (first
  | ((first | refine zaf ?_ | refine zaj ?_ | refine zah ?_ | fail); simp)
  | (refine zas ?_; simp only [zap])
  | (refine CallP.fE (h) (by first | rfl | fail) (by first | (simp; done) | (simp; rfl) | fail) ?_; (try simp))
  | fail)
 (refine EndOK.val (.inr rfl) ?_; simp [zaM, zag, zau, Tryz.results126])
@[local simp] theorem zrx : zoF 0 = .u (.row (signsL.map .str) 0) := by
 simp [zoF, globs, signsL, uOf]
theorem hsl : signsL.length = 11 := rfl
theorem zpy (s : List UInt8) (hs : s ≠ []) (hl : s.length ≤ 1000000) : Fun Tryz.prog 77 [.u (.str s)] (· = nextD s) := by
 obtain ⟨c, r, rfl⟩ : ∃ c r, s = c :: r := by cases s with | nil => exact absurd rfl hs | cons c r => exact ⟨c, r, rfl⟩
 have h1 := zee c
 have h2 := zeT c
 have h3 := zfx (c :: r) hl 124 zb6 (fun c _ => zn9 c) (by simp)
 have h4 := zfx (c :: r) hl 104 zaN (fun c _ => zeT c) (by simp)
 have h5 := zlv ((c :: r).take (zbn zb6 (c :: r)))
 have h6 := zmP ((c :: r).take (zbn zaN (c :: r))) (by have := zdd zaN (c :: r); rw [List.length_take]; omega)
 have l1 : (zbn zb6 (c :: r) : Int) ≤ r.length + 1 := by have := zdd zb6 (c :: r); simp at this; omega
 have l2 : (zbn zaN (c :: r) : Int) ≤ r.length + 1 := by have := zdd zaN (c :: r); simp at this; omega
 have l1' : zbn zb6 (c :: r) ≤ r.length + 1 := by omega
 have l2' : zbn zaN (c :: r) ≤ r.length + 1 := by omega
 unfold nextD zeu
 cases c1 : zbm c with
 | true =>
  rw [c1] at h1
  cases c3 : ze9 ((c :: r).take (zbn zb6 (c :: r))) with
  | true =>
   rw [c3] at h5
   (refine Fun.of_body Tryz.func77 rfl (by simp) fun Γ hn => ?_); simp only [entry, ziC, ziN, maC, maN, oA, Tryz.ntmps77]
   repeat' (first
  | ((first | refine zaf ?_ | refine zaj ?_ | refine zah ?_ | refine zai ?_ | fail); simp [l1, l1'])
  | ((first | refine zas ?_ | refine zaq ?_ | fail); simp only [zap])
  | (refine CallP.fE (h1) (by first | rfl | fail) (by first | simp [l1, l1'] <;> rfl | fail) ?_; (try simp [l1, l1']))
  | (refine CallP.fE (h3) (by first | rfl | fail) (by first | simp [l1, l1'] <;> rfl | fail) ?_; (try simp [l1, l1']))
  | (refine CallP.fE (h5) (by first | rfl | fail) (by first | simp [l1, l1'] <;> rfl | fail) ?_; (try simp [l1, l1']))
  | fail)
   (refine EndOK.val (.inr rfl) ?_; simp [zaM, zag, zau, Tryz.results77])
   simp [c1, c3]
  | false =>
   rw [c3] at h5
   (refine Fun.of_body Tryz.func77 rfl (by simp) fun Γ hn => ?_); simp only [entry, ziC, ziN, maC, maN, oA, Tryz.ntmps77]
   repeat' (first
  | ((first | refine zaf ?_ | refine zaj ?_ | refine zah ?_ | refine zai ?_ | fail); simp [l1, l1'])
  | (refine zas ?_; simp only [zap])
  | (refine CallP.fE (h1) (by first | rfl | fail) (by first | simp [l1, l1'] <;> rfl | fail) ?_; (try simp [l1, l1']))
  | (refine CallP.fE (h3) (by first | rfl | fail) (by first | simp [l1, l1'] <;> rfl | fail) ?_; (try simp [l1, l1']))
  | (refine CallP.fE (h5) (by first | rfl | fail) (by first | simp [l1, l1'] <;> rfl | fail) ?_; (try simp [l1, l1']))
  | fail)
   (refine EndOK.val (.inr rfl) ?_; simp [zaM, zag, zau, Tryz.results77])
   simp [c1, c3]
 | false =>
  rw [c1] at h1
  cases c2 : zaN c with
  | true =>
   rw [c2] at h2
   cases c3 : zd6 ((c :: r).take (zbn zaN (c :: r))) with
   | none =>
    rw [c3] at h6
    (refine Fun.of_body Tryz.func77 rfl (by simp) fun Γ hn => ?_); simp only [entry, ziC, ziN, maC, maN, oA, Tryz.ntmps77]
    repeat' (first
  | ((first | refine zaf ?_ | refine zaj ?_ | refine zah ?_ | refine zai ?_ | fail); simp [l2, l2'])
  | (refine zas ?_; simp only [zap])
  | (refine CallP.fE (h1) (by first | rfl | fail) (by first | simp [l2, l2'] <;> rfl | fail) ?_; (try simp [l2, l2']))
  | (refine CallP.fE (h2) (by first | rfl | fail) (by first | simp [l2, l2'] <;> rfl | fail) ?_; (try simp [l2, l2']))
  | (refine CallP.fE (h4) (by first | rfl | fail) (by first | simp [l2, l2'] <;> rfl | fail) ?_; (try simp [l2, l2']))
  | (refine CallP.fE (h6) (by first | rfl | fail) (by first | simp [l2, l2'] <;> rfl | fail) ?_; (try simp [l2, l2']))
  | fail)
    (refine EndOK.val (.inr rfl) ?_; simp [zaM, zag, zau, Tryz.results77])
    simp [c1, c2, c3]
   | some n =>
    rw [c3] at h6
    (refine Fun.of_body Tryz.func77 rfl (by simp) fun Γ hn => ?_); simp only [entry, ziC, ziN, maC, maN, oA, Tryz.ntmps77]
    repeat' (first
  | ((first | refine zaf ?_ | refine zaj ?_ | refine zah ?_ | refine zai ?_ | fail); simp [l2, l2'])
  | ((first | refine zas ?_ | refine zaq ?_ | fail); simp only [zap])
  | (refine CallP.fE (h1) (by first | rfl | fail) (by first | simp [l2, l2'] <;> rfl | fail) ?_; (try simp [l2, l2']))
  | (refine CallP.fE (h2) (by first | rfl | fail) (by first | simp [l2, l2'] <;> rfl | fail) ?_; (try simp [l2, l2']))
  | (refine CallP.fE (h4) (by first | rfl | fail) (by first | simp [l2, l2'] <;> rfl | fail) ?_; (try simp [l2, l2']))
  | (refine CallP.fE (h6) (by first | rfl | fail) (by first | simp [l2, l2'] <;> rfl | fail) ?_; (try simp [l2, l2']))
  | fail)
    (refine EndOK.val (.inr rfl) ?_; simp [zaM, zag, zau, Tryz.results77])
    simp [c1, c2, c3]
  | false =>
   rw [c2] at h2
   (refine Fun.of_body Tryz.func77 rfl (by simp) fun Γ hn => ?_); simp only [entry, ziC, ziN, maC, maN, oA, Tryz.ntmps77]
   repeat' (first
  | ((first | refine zaf ?_ | refine zaj ?_ | refine zah ?_ | refine zai ?_ | refine zaD ?_ | fail); simp [hsl, List.take_of_length_le])
  | (refine zaq ?_; simp only [zap])
  | (refine CallP.fE (h1) (by first | rfl | fail) (by first | simp [hsl, List.take_of_length_le] <;> rfl | fail) ?_; (try simp [hsl, List.take_of_length_le]))
  | (refine CallP.fE (h2) (by first | rfl | fail) (by first | simp [hsl, List.take_of_length_le] <;> rfl | fail) ?_; (try simp [hsl, List.take_of_length_le]))
  | fail)
   refine zdt (α := { i : Nat // i ≤ 11 ∧ ∀ x ∈ signsL.take i, x.isPrefixOf (c :: r) = false }) [0, 2, 3, 43] (fun i => [(44, .u (.int .i64 i.1))]) (fun i => 11 - i.1) ⟨0, by omega, by simp⟩ ?_ ?_
   ·exact (Wk.cut rfl (by simp [hn, St.lp]) (by simp [wkO, St.lp, zaa, getK, Ob.under, D.under, zad, zae]) (by simp [wkU, St.lp, zan, zaa, getK, D.under]) (by simp [wkE, St.lp, zan, zaa, getK] <;> (try (intros; simp_all; done)) <;> (try (intros; omega)) <;> (try grind)))
   rintro ⟨i, hi, hb⟩
   simp [St.lp, St.only, zan, zaa, getK]
   rcases hx : signsL[i]? with _ | x
   ·have hge : signsL.length ≤ i := by simpa using hx
    obtain rfl : i = 11 := by rw [hsl] at hge; omega
    have hnone : signsL.find? (fun x => x.isPrefixOf (c :: r)) = none := List.find?_eq_none.2 fun x hx => by
     rw [hb x (by rw [List.take_of_length_le (by rw [hsl]; omega)]; exact hx)]; simp
    repeat' (first
  | ((first | refine zaf ?_ | refine zaj ?_ | refine zah ?_ | fail); simp)
  | (refine zas ?_; simp only [zap])
  | (refine zce ?_; simp [zap])
  | fail)
    (refine EndOK.val (.inr rfl) ?_; simp [zaM, zag, zau, Tryz.results77])
    simp [c1, c2, hnone]
   ·have hlt : i < 11 := by have := (lGE.1 hx).1; rw [hsl] at this; exact this
    have hlt2 : (i : Int) < 11 := by omega
    have hp := zmG (c :: r) x
    by_cases hpx : x.isPrefixOf (c :: r) = true
    ·have hfind : signsL.find? (fun x => x.isPrefixOf (c :: r)) = some x := by
      have e : signsL = signsL.take i ++ x :: signsL.drop (i + 1) := by
       obtain ⟨h5, h6⟩ := lGE.1 hx
       rw [← h6, List.getElem_cons_drop, List.take_append_drop]
      rw [e, List.find?_append, List.find?_eq_none.2 (fun y hy => by rw [hb y hy]; simp), List.find?_cons, hpx]
      rfl
     rw [hpx] at hp
     repeat' (first
  | ((first | refine zaf ?_ | refine zaj ?_ | refine zah ?_ | refine zai ?_ | fail); simp [hx, hsl, hlt2])
  | ((first | refine zas ?_ | refine zaq ?_ | fail); simp only [zap])
  | (refine CallP.fE (hp) (by first | rfl | fail) (by first | simp [hx, hsl, hlt2] <;> rfl | fail) ?_; (try simp [hx, hsl, hlt2]))
  | fail)
     (refine EndOK.val (.inr rfl) ?_; simp [zaM, zag, zau, Tryz.results77])
     simp [c1, c2, hfind]
    ·rw [Bool.eq_false_iff.2 hpx] at hp
     repeat' (first
  | ((first | refine zaf ?_ | refine zaj ?_ | fail); simp [hx, hsl, hlt2])
  | (refine ⟨by omega, ?_⟩)
  | ((first | refine zah ?_ | refine zai ?_ | refine zaG ?_ | fail); simp [hx, hsl, hlt2])
  | (refine zaq ?_; simp only [zap])
  | (refine CallP.fE (hp) (by first | rfl | fail) (by first | simp [hx, hsl, hlt2] <;> rfl | fail) ?_; (try simp [hx, hsl, hlt2]))
  | fail)
     refine LoopW.next ⟨i + 1, by omega, fun y hy => ?_⟩ (by simp; omega) ?_
     ·rw [List.take_succ, hx] at hy
      rcases List.mem_append.1 hy with h | h
      ·exact hb y h
      ·simp at h; subst h; exact Bool.eq_false_iff.2 hpx
     ·exact (Wk.cut rfl (by simp [hn, St.lp]) (by simp [wkO, St.lp, zaa, getK, Ob.under, D.under, zad, zae]) (by simp [wkU, St.lp, zan, zaa, getK, D.under]) (by simp [wkE, St.lp, zan, zaa, getK] <;> (try (intros; simp_all; done)) <;> (try (intros; omega)) <;> (try grind)))
end Go.Proofs.YthnemhfamhnfjaaGreatDoor
namespace Go.Proofs.YthnemhfamhnfjaaGreatDoor
open Go Go.VL
/-- The tokens of a string from a place on. -/
def zhG : Nat → List UInt8 → Nat → Except (Nat × Int) (List Tok)
 | 0, _, _ => .ok []
 | f + 1, s, p =>
  match (s.drop (p + zbn zaT (s.drop p))) with
  | [] => .ok [⟨0, [], 0, ((p + zbn zaT (s.drop p) : Nat) : Int)⟩]
  | c :: r => match zeu (c :: r) with
   | .error e => .error (p + zbn zaT (s.drop p), e)
   | .ok t => match zhG f s (p + zbn zaT (s.drop p) + t.text.length) with
    | .error x => .error x
    | .ok l => .ok ({ t with pos := ((p + zbn zaT (s.drop p) : Nat) : Int) } :: l)
def zgs (s : List UInt8) : Except (Nat × Int) (List Tok) := if 2000 < s.length then .error (0, 6) else zhG (s.length + 1) s 0
def zh5 : Except (Nat × Int) (List Tok) → D
 | .ok l => .tup [.u (.sl (l.map fun t => [.int .i64 t.kind, .str t.text, .int .i64 t.n, .int .i64 t.pos])), .u (.int .i64 0), .u (.int .i64 0)]
 | .error (p, e) => .tup [.u (.sl []), .u (.int .i64 p), .u (.int .i64 e)]
def zmF (acc : List Tok) : Except (Nat × Int) (List Tok) → Except (Nat × Int) (List Tok)
 | .ok l => .ok (acc ++ l)
 | .error x => .error x
theorem znP (x) : zmF [] x = x := by cases x <;> simp [zmF]
theorem zjt {p : UInt8 → Bool} {c : UInt8} {r : List UInt8} (h : p c = true) : 0 < zbn p (c :: r) := by
 unfold zbn; rw [List.takeWhile_cons, if_pos h]; simp
theorem zeZ {s : List UInt8} {t : Tok} (h : zeu s = .ok t) : 0 < t.text.length ∧ t.text.length ≤ s.length := by
 unfold zeu at h
 split at h
 ·cases h
 ·rename_i c r
  by_cases c1 : zbm c = true
  ·rw [if_pos c1] at h
   split at h
   ·cases h
    have h1 := zjt (p := zb6) (c := c) (r := r) (by simp [zb6, c1])
    have h2 := zdd zb6 (c :: r)
    simp only [List.length_take]
    omega
   ·cases h
  ·rw [if_neg c1] at h
   by_cases c2 : zaN c = true
   ·rw [if_pos c2] at h
    split at h
    ·cases h
     have h1 := zjt (p := zaN) (c := c) (r := r) c2
     have h2 := zdd zaN (c :: r)
     simp only [List.length_take]
     omega
    ·cases h
   ·rw [if_neg c2] at h
    split at h
    ·rename_i x hx
     cases h
     have h1 := List.find?_some hx
     have h2 := List.mem_of_find?_eq_some hx
     refine ⟨?_, (List.isPrefixOf_iff_prefix.1 h1).length_le⟩
     simp only [signsL, List.mem_cons, List.not_mem_nil, or_false] at h2
     rcases h2 with h | h | h | h | h | h | h | h | h | h | h <;> subst h <;> simp
    ·cases h
def ziw (l : List Tok) : List (List D) := l.map fun t => [.u (.int .i64 t.kind), .u (.str t.text), .u (.int .i64 t.n), .u (.int .i64 t.pos)]
theorem zcv (l : List Tok) : (ziw l).length = l.length := by simp [ziw]
theorem zjp (l : List Tok) : rowsD (l.map fun t => [U.int .i64 t.kind, .str t.text, .int .i64 t.n, .int .i64 t.pos]) = ziw l := by simp [rowsD, ziw, Function.comp_def]
theorem zlx (l : List Tok) : zdq (ziw l) = some (l.map fun t => [U.int .i64 t.kind, .str t.text, .int .i64 t.n, .int .i64 t.pos]) := by rw [← zjp]; simp
theorem zg6 (l) : zaS (ziw l) = True := by rw [← zjp]; simp
theorem zf7 (n : Nat) (l) : (∀ x ∈ ziw l, ∀ y ∈ x, D.under n y = true) ↔ True := by
 refine ⟨fun _ => trivial, fun _ x hx y hy => ?_⟩
 obtain ⟨b, _, rfl⟩ := List.mem_map.1 hx
 simp at hy
 rcases hy with rfl | rfl | rfl | rfl <;> simp [D.under]
end Go.Proofs.YthnemhfamhnfjaaGreatDoor
namespace Go.Proofs.YthnemhfamhnfjaaGreatDoor
open Go Go.VL
abbrev znF (l : List Tok) : U := .sl (l.map fun t => [.int .i64 t.kind, .str t.text, .int .i64 t.n, .int .i64 t.pos])
abbrev pOb (l : List Tok) (p : Nat) : Ob := .box [.u (znF l), .u (.int .i64 p)]
abbrev zqu (l : List Tok) (p : Nat) : U := .row [znF l, .int .i64 p] 0
/-- Tokens as Lex makes them: the end comes last, and nowhere else. -/
structure TokOK (l : List Tok) : Prop where
 fin : ∀ (i : Nat) (t : Tok), l[i]? = some t → t.kind ≠ 0 → i + 1 < l.length
 len : l.length ≤ 1000000
def isB (l : List Tok) (p : Nat) (w : List UInt8) : Bool := match l[p]? with | some t => decide (t.kind ≠ 0) && decide (t.text = w) | none => false
theorem za1 {l : List Tok} {p : Nat} {w : List UInt8} (hl : TokOK l) (h : isB l p w = true) : p + 1 < l.length := by
 unfold isB at h
 split at h
 ·rename_i t ht
  simp only [Bool.and_eq_true, decide_eq_true_eq] at h
  exact hl.fin p t ht h.1
 ·cases h
end Go.Proofs.YthnemhfamhnfjaaGreatDoor
namespace Go.Proofs.YthnemhfamhnfjaaGreatDoor
open Go Go.VL
noncomputable def eqB {α : Type} (a b : α) : Bool := @decide (a = b) (Classical.propDecidable _)
theorem zcb {α : Type} {a b : α} : eqB a b = true ↔ a = b := by unfold eqB; exact @decide_eq_true_iff _ (Classical.propDecidable _)
theorem zex {α : Type} (a : α) : eqB a a = true := zcb.2 rfl
theorem zeh {α : Type} {a b : α} (h : a ≠ b) : eqB a b = false := by
 cases hb : eqB a b with
 | false => rfl
 | true => exact absurd (zcb.1 hb) h
end Go.Proofs.YthnemhfamhnfjaaGreatDoor
namespace Go.Proofs.YthnemhfamhnfjaaGreatDoor
open Go Go.VL
attribute [local simp] zdy zck evPure opd uOf zaI St.put St.at getK binD binI binS binB nilD aggD zii zjj lookD lookR zcY Go.VL.nextD zc1 zkb zjm zhD zcO mkV zdU zbt zbE mapEff zeJ zgV Key.kk shiftI arith unD convD zeH loadD cellsAt fieldAddrD fieldD indexAddrD indexD sliceD cutD lenD minmaxD nilCheckD buildD fillD zb4 zdM zfi setAll zdm zfu zcU zja zcL St.add za0 zbZ rowsOf zew zc6 zak zac zaa zbe zc4 zaY entry zbS zb9 valD zcn zcT zhO zdS zdT zcc zbU zaw za2 zbx delAll effD St.effS zdP zbk zbb zdQ zbl zbd zcD zbc za4 zcE zdH zbV zcz zbw zcx zcy zaP mkD zbO zbG zbT zaw zcR D.ids Op.operands Call.operands zbN makeIfD makeFuncD typeAssertD zji zei zej zjh zcZ IntKind.bits zdq List.take_of_length_le List.range_succ
attribute [local irreducible] V G H HD HD2 zap Eff CallP CallV EndOK Fun Ret FinOK LoopI LoopW EndW
theorem zog (s : List UInt8) : Fun Tryz.prog 32 [.u (.str s)] (· = zh5 (zgs s)) := by
 unfold zgs
 by_cases hlong : 2000 < s.length
 ·have hlong2 : 2000 < (s.length : Int) := by omega
  rw [if_pos hlong]
  (refine Fun.of_bodyW Tryz.func32 rfl (by simp) fun Γ hn => ?_); simp only [entry, ziC, ziN, maC, maN, oA, Tryz.ntmps32]
  repeat' (first
  | ((first | refine zaf ?_ | refine zaj ?_ | refine zah ?_ | refine zai ?_ | fail); simp [hlong, hlong2])
  | (refine zas ?_; simp only [zap])
  | fail)
  refine EndW.norm (EndW.here ?_)
  (refine EndOK.val (.inr rfl) ?_; simp [zaM, zag, zau, Tryz.results32, zay, zaz, ziK, ziL, frz, za6, frzS, fv, zaH, za3, za5, zaE, zat, zal, zb3, zcs, zct, zbh])
  simp [zh5]
 rw [if_neg hlong]
 have hlong2 : ¬ 2000 < (s.length : Int) := by omega
 obtain ⟨R, hR⟩ : ∃ R, R = zhG (s.length + 1) s 0 := ⟨_, rfl⟩
 rw [← hR]
 (refine Fun.of_bodyW Tryz.func32 rfl (by simp) fun Γ hn => ?_); simp only [entry, ziC, ziN, maC, maN, oA, Tryz.ntmps32]
 repeat' (first
  | ((first | refine zaf ?_ | refine zaj ?_ | refine zah ?_ | refine zai ?_ | refine zaD ?_ | fail); simp [hlong, hlong2])
  | (refine zaq ?_; simp only [zap])
  | fail)
 refine zhE _ (Wk.own 5 52 4 (by decide) rfl) ?_
 simp [St.own]
 refine zd8 (α := { x : List Tok × Nat × Nat // x.2.1 ≤ s.length ∧ s.length < x.2.1 + x.2.2 ∧ x.1.length ≤ x.2.1 ∧ R = zmF x.1 (zhG x.2.2 s x.2.1) }) [0] (fun x => [(5, .vec 0 x.1.1.length), (6, .u (.int .i64 x.1.2.1))]) (fun x => [(0, .vec 52 4 (ziw x.1.1))]) 1 (fun x => x.1.2.2) ⟨([], 0, s.length + 1), by simp, by simp, by simp, by rw [znP, hR]⟩ ?_ ?_
 ·exact (Wk.cut rfl (by simp [hn, St.lp]) (by simp [wkO, St.lp, zaa, getK, Ob.under, D.under, zad, zae, ziw]) (by simp [wkU, St.lp, zan, zaa, getK, D.under, ziw]) (by simp [wkE, St.lp, zan, zaa, getK, ziw] <;> (try (intros; simp_all; done)) <;> (try (intros; omega)) <;> (try grind)))
 rintro ⟨⟨acc, p, f⟩, h1, h2, h3, h4⟩
 simp only at h1 h2 h3 h4
 simp [St.lp, St.only, zan, zaa, getK]
 obtain ⟨f', rfl⟩ : ∃ f', f = f' + 1 := ⟨f - 1, by omega⟩
 rw [zhG] at h4
 have hsp := zfx (s.drop p) (by rw [List.length_drop]; omega) 76 zaT (fun c _ => zoX c) (by simp)
 have hle := zdd zaT (s.drop p)
 rw [List.length_drop] at hle
 obtain ⟨b, hb⟩ : ∃ b, b = zbn zaT (s.drop p) := ⟨_, rfl⟩
 rw [← hb] at hsp hle h4
 have hp1 : (p : Int) ≤ s.length := by omega
 have hpb : (p : Int) + b ≤ s.length := by omega
 rcases hd : s.drop (p + b) with _ | ⟨c, r⟩
 ·have hdl : (s.drop (p + b)).length = 0 := by rw [hd]; rfl
  rw [List.length_drop] at hdl
  have hpe : p + b = s.length := by omega
  have hpe2 : (p : Int) + b = s.length := by omega
  rw [hd] at h4
  simp only at h4
  have hap : ziw acc ++ [[D.u (.int .i64 0), D.u (.str []), D.u (.int .i64 0), D.u (.int .i64 (s.length : Int))]] = ziw (acc ++ [⟨0, [], 0, s.length⟩]) := by simp [ziw]
  have hlr : zld 4 (ziw acc) := fun r hr => by obtain ⟨t, _, rfl⟩ := List.mem_map.1 hr; rfl
  rw [hpe] at h4
  repeat' (first
  | ((first | refine zaf ?_ | refine zaj ?_ | fail); simp [h1, hp1, hpe2, zcv, hap, hlr])
  | (refine ⟨by omega, ?_⟩)
  | ((first | refine zah ?_ | refine zai ?_ | refine zaD ?_ | fail); simp [h1, hp1, hpe2, zcv, hap, hlr])
  | (refine zas ?_; simp only [zap])
  | (refine CallP.fE (hsp) (by first | rfl | fail) (by first | simp [h1, hp1, hpe2, zcv, hap, hlr] <;> rfl | fail) ?_; (try simp [h1, hp1, hpe2, zcv, hap, hlr]))
  | fail)
  (refine EndW.frzN 3 ?_; simp [frzN, frz1, zaz, zay, St.frz, St.frzS, frzS, fv, zaH, za3, za5, zaE, zat, zal, del, frz, za6, zlx, zcv, List.length_append])
  refine EndW.norm (EndW.here ?_)
  (refine EndOK.val (.inr rfl) ?_; simp [zaM, zag, zau, Tryz.results32, zay, zaz, ziK, ziL, frz, za6, frzS, fv, zaH, za3, za5, zaE, zat, zal, zb3, zcs, zct, zbh, zlx, zcv, List.length_append])
  rw [h4]
  simp [zmF, zh5]
 ·have hdl : (s.drop (p + b)).length = r.length + 1 := by rw [hd]; rfl
  rw [List.length_drop] at hdl
  have hpe : ¬ p + b = s.length := by omega
  have hpe2 : ¬ (p : Int) + b = s.length := by omega
  have hnx := zpy (s.drop (p + b)) (by rw [hd]; simp) (by rw [List.length_drop]; omega)
  unfold nextD at hnx
  rw [hd] at h4
  simp only at h4
  rw [hd] at hnx
  have hpb2 : ((p : Int) + b).toNat = p + b := by omega
  have hpb3 : p + b ≤ s.length := by omega
  cases hno : zeu (c :: r) with
  | error e =>
   rw [hno] at h4 hnx
   have he : e ≠ 0 := by
    unfold zeu at hno
    simp only at hno
    split at hno
    ·split at hno <;> cases hno
     omega
    ·split at hno
     ·split at hno <;> cases hno
      omega
     ·split at hno <;> cases hno
      omega
   repeat' (first
  | ((first | refine zaf ?_ | refine zaj ?_ | fail); simp [h1, hp1, hpe, hpe2, hd, he, hpb, hpb2, hpb3])
  | (refine ⟨by omega, ?_⟩)
  | ((first | refine zah ?_ | refine zai ?_ | refine zaD ?_ | fail); simp [h1, hp1, hpe, hpe2, hd, he, hpb, hpb2, hpb3])
  | ((first | refine zas ?_ | refine zaq ?_ | fail); simp only [zap])
  | (refine CallP.fE (hsp) (by first | rfl | fail) (by first | simp [h1, hp1, hpe, hpe2, hd, he, hpb, hpb2, hpb3] <;> rfl | fail) ?_; (try simp [h1, hp1, hpe, hpe2, hd, he, hpb, hpb2, hpb3]))
  | (refine CallP.fE (hnx) (by first | rfl | fail) (by first | simp [h1, hp1, hpe, hpe2, hd, he, hpb, hpb2, hpb3] <;> rfl | fail) ?_; (try simp [h1, hp1, hpe, hpe2, hd, he, hpb, hpb2, hpb3]))
  | fail)
   refine EndW.norm (EndW.here ?_)
   (refine EndOK.val (.inr rfl) ?_; simp [zaM, zag, zau, Tryz.results32, zay, zaz, ziK, ziL, frz, za6, frzS, fv, zaH, za3, za5, zaE, zat, zal, zb3, zcs, zct, zbh])
   rw [h4]
   simp [zmF, zh5]
  | ok t =>
   rw [hno] at h4 hnx
   obtain ⟨ht1, ht2⟩ := zeZ hno
   simp only [List.length_cons] at ht2
   have hap : ziw acc ++ [[D.u (.int .i64 t.kind), D.u (.str t.text), D.u (.int .i64 t.n), D.u (.int .i64 ((p : Int) + b))]] = ziw (acc ++ [{ t with pos := ((p + b : Nat) : Int) }]) := by simp [ziw]
   have hlr : zld 4 (ziw acc) := fun r hr => by obtain ⟨t, _, rfl⟩ := List.mem_map.1 hr; rfl
   repeat' (first
  | ((first | refine zaf ?_ | refine zaj ?_ | fail); simp [h1, hp1, hpe, hpe2, hd, hpb, hpb2, hpb3, zcv, hap, hlr])
  | (refine ⟨by omega, ?_⟩)
  | ((first | refine zah ?_ | refine zai ?_ | refine zaD ?_ | refine zaG ?_ | fail); simp [h1, hp1, hpe, hpe2, hd, hpb, hpb2, hpb3, zcv, hap, hlr])
  | (refine zaq ?_; simp only [zap])
  | (refine CallP.fE (hsp) (by first | rfl | fail) (by first | simp [h1, hp1, hpe, hpe2, hd, hpb, hpb2, hpb3, zcv, hap, hlr] <;> rfl | fail) ?_; (try simp [h1, hp1, hpe, hpe2, hd, hpb, hpb2, hpb3, zcv, hap, hlr]))
  | (refine CallP.fE (hnx) (by first | rfl | fail) (by first | simp [h1, hp1, hpe, hpe2, hd, hpb, hpb2, hpb3, zcv, hap, hlr] <;> rfl | fail) ?_; (try simp [h1, hp1, hpe, hpe2, hd, hpb, hpb2, hpb3, zcv, hap, hlr]))
  | fail)
   refine LoopW.next ⟨(acc ++ [{ t with pos := ((p + b : Nat) : Int) }], p + b + t.text.length, f'), by simp; omega, by simp; omega, by simp; omega, ?_⟩ (by simp) ?_
   ·rw [h4]
    simp only
    cases zhG f' s (p + b + t.text.length) <;> simp [zmF]
   ·skip
    exact (Wk.ren ((fun i => if i = 0 then 3 else i)) rfl (by first | (simp [hn]; done) | (intro i hi; rw [hn] at hi; constructor <;> (try simp) <;> (try (intro _)) <;> omega)) (by simp [zgx, St.lp, zan, zaa, getK, zac, zak, D.under, D.le, D.ren, zg6, zf7] <;> (try (intros; simp_all; done)) <;> (try omega)) (by simp [wkR, St.lp, zaa, getK, zac, zak, obR, leU, zbg, zaS, Ob.under, D.under, D.le, D.ren, zg6, zf7] <;> (try (intros; simp_all; done)) <;> (try omega)) (by simp [zg6, zf7]))
end Go.Proofs.YthnemhfamhnfjaaGreatDoor
namespace Go.Proofs.YthnemhfamhnfjaaGreatDoor
open Go Go.VL
attribute [local simp] HS zdy zck evPure opd uOf zaI St.put St.at getK binD binI binS binB nilD aggD zii zjj lookD lookR zcY Go.VL.nextD zc1 zkb zjm zhD zcO mkV zdU zbt zbE mapEff zeJ zgV Key.kk shiftI arith unD convD zeH loadD cellsAt fieldAddrD fieldD indexAddrD indexD sliceD cutD lenD minmaxD nilCheckD buildD fillD zb4 zdM zfi setAll zdm zfu zcU zja zcL St.add za0 zbZ rowsOf zew zc6 zak zac zaa zbe zc4 zaY entry zbS zb9 valD zcn zcT zhO zdS zdT zcc zbU zaw za2 zbx delAll effD St.effS zdP zbk zbb zdQ zbl zbd zcD zbc za4 zcE zdH zbV zcz zbw zcx zcy zaP mkD zbO zbG zbT zaw zcR D.ids Op.operands Call.operands zbN makeIfD makeFuncD typeAssertD zji zei zej zjh zcZ IntKind.bits zdq List.take_of_length_le List.range_succ
attribute [local irreducible] V G H HD HD2 HD4 zns RetX zap Eff CallP CallV EndOK Fun Ret FinOK LoopI LoopW EndW
theorem zbL (l : List Tok) (p : Nat) (t : Tok) (hp : l[p]? = some t) (hl : l.length ≤ 1000000) : Fun Tryz.prog 43 [.u (zqu l p)] (· = .u (.agg [.int .i64 t.kind, .str t.text, .int .i64 t.n, .int .i64 t.pos])) := by
 have hlt := (lGE.1 hp).1
 unfold zqu znF
 (refine Fun.of_body Tryz.func43 rfl (by simp) fun Γ hn => ?_); simp only [entry, ziC, ziN, maC, maN, oA, Tryz.ntmps43]
 repeat' (first
  | ((first | refine zaf ?_ | refine zbo rfl ?_ | refine zb8 rfl ?_ | refine zaj ?_ | refine zah ?_ | fail); simp [hp])
  | (refine zbH (hC _ (by kernel_rfl)) (hk _ ?_); clear hC hk C k; simp only [zap])
  | (refine zb0 rfl (by kernel_rfl) (by first | (simp [hn]; done) | (simp [hn]; omega) | fail) fun C k hC hk => ?_; simp [hp])
  | (refine zas ?_; simp only [zap])
  | fail)
 (refine EndOK.val (.inr rfl) ?_; simp [zaM, zag, zau, Tryz.results43])
theorem zdY (l : List Tok) (p : Nat) (w : List UInt8) (hp : p < l.length) (hl : l.length ≤ 1000000) : Fun Tryz.prog 79 [.u (zqu l p), .u (.str w)] (· = .u (.bool (isB l p w))) := by
 obtain ⟨t, ht⟩ : ∃ t, l[p]? = some t := ⟨_, List.getElem?_eq_getElem hp⟩
 have hnx := zbL l p t ht hl
 unfold isB
 rw [ht]
 unfold zqu znF at *
 by_cases h1 : t.kind = 0
 ·(refine Fun.of_body Tryz.func79 rfl (by simp) fun Γ hn => ?_); simp only [entry, ziC, ziN, maC, maN, oA, Tryz.ntmps79]
  repeat' (first
  | ((first | refine zaf ?_ | refine zaj ?_ | refine zah ?_ | fail); simp [h1])
  | (refine zas ?_; simp only [zap])
  | (refine CallP.fE (hnx) (by first | rfl | fail) (by first | simp [h1] <;> rfl | fail) ?_; (try simp [h1]))
  | fail)
  all_goals
    (refine EndOK.val (.inr rfl) ?_; simp [zaM, zag, zau, Tryz.results79])
  all_goals simp [h1]
 ·(refine Fun.of_body Tryz.func79 rfl (by simp) fun Γ hn => ?_); simp only [entry, ziC, ziN, maC, maN, oA, Tryz.ntmps79]
  repeat' (first
  | ((first | refine zaf ?_ | refine zaj ?_ | refine zah ?_ | fail); simp [h1])
  | (refine zas ?_; simp only [zap])
  | (refine CallP.fE (hnx) (by first | rfl | fail) (by first | simp [h1] <;> rfl | fail) ?_; (try simp [h1]))
  | fail)
  all_goals
    (refine EndOK.val (.inr rfl) ?_; simp [zaM, zag, zau, Tryz.results79])
  all_goals simp [h1]
theorem za9 (l : List Tok) (p : Nat) (w : List UInt8) (i nx : Nat) (hi : i < nx) (hp : p < l.length) (hl : l.length ≤ 1000000) :
  RetX Tryz.prog 127 [.ptr i 0, .u (.str w)] [(i, pOb l p)] nx (fun r o n => r = .val (.u (.bool (isB l p w))) ∧ o = [(i, pOb l (if isB l p w = true then p + 1 else p))] ∧ n = nx) := by
 have h1 := zdY l p w hp hl
 unfold pOb zqu znF at *
 cases hb : isB l p w with
 | false =>
  rw [hb] at h1
  (refine RetX.of_bodyW Tryz.func127 rfl (by simp) fun Γ hn hpan => ?_); simp only [entry, ziC, ziN, maC, maN, oA, Tryz.ntmps127]
  repeat' (first
  | ((first | refine zaf ?_ | refine zaj ?_ | refine zah ?_ | refine zai ?_ | fail); simp)
  | (refine zas ?_; simp only [zap])
  | (refine CallP.fE (h1) (by first | rfl | fail) (by first | (simp; done) | (simp; rfl) | fail) ?_; (try simp))
  | fail)
  (refine EndW.here ?_; (first | (refine EndOK.fin (.inr rfl) ?_) | (refine EndOK.fin (.inl rfl) ?_)); simp [zaM, zag, Tryz.results127]; refine FinOK.here (by simp) ?_; try simp)
 | true =>
  rw [hb] at h1
  (refine RetX.of_bodyW Tryz.func127 rfl (by simp) fun Γ hn hpan => ?_); simp only [entry, ziC, ziN, maC, maN, oA, Tryz.ntmps127]
  repeat' (first
  | ((first | refine zaf ?_ | refine zaj ?_ | fail); simp)
  | (refine ⟨by omega, ?_⟩)
  | ((first | refine zah ?_ | refine zai ?_ | fail); simp)
  | ((first | refine zas ?_ | refine zaq ?_ | fail); simp only [zap])
  | (refine CallP.fE (h1) (by first | rfl | fail) (by first | (simp; done) | (simp; rfl) | fail) ?_; (try simp))
  | fail)
  (refine EndW.here ?_; (first | (refine EndOK.fin (.inr rfl) ?_) | (refine EndOK.fin (.inl rfl) ?_)); simp [zaM, zag, Tryz.results127]; refine FinOK.here (by simp) ?_; try simp)
/-- The panic of a stop. -/
def chP (pos e : Int) : List PanicEntry := [{ v := .iface 105 (.agg #[.int .i64 pos, .int .i64 e]), recovered := false }]
def isP (l : List Tok) (ob : Ob) : Prop := ∃ q : Nat, ob = pOb l q
theorem zd3 (l : List Tok) (p : Nat) (e : Int) (i nx : Nat) (hi : i < nx) :
  RetX Tryz.prog 42 [.ptr i 0, .u (.bool true), .u (.int .i64 e)] [(i, pOb l p)] nx (fun r o n => r = .val (.tup []) ∧ o = [(i, pOb l p)] ∧ n = nx) := by
 (refine RetX.of_bodyW Tryz.func42 rfl (by simp) fun Γ hn hpan => ?_); simp only [entry, ziC, ziN, maC, maN, oA, Tryz.ntmps42]
 repeat' (first
  | ((first | refine zaf ?_ | refine zaj ?_ | refine zah ?_ | refine zai ?_ | fail); simp)
  | (refine zaq ?_; simp only [zap])
  | fail)
 (refine EndW.here ?_; (first | (refine EndOK.fin (.inr rfl) ?_) | (refine EndOK.fin (.inl rfl) ?_)); simp [zaM, zag, Tryz.results42]; refine FinOK.here (by simp) ?_; try simp)
theorem zcS (l : List Tok) (p : Nat) (t : Tok) (e : Int) (i nx : Nat) (hi : i < nx) (hp : l[p]? = some t) (hl : l.length ≤ 1000000) :
  RetX Tryz.prog 42 [.ptr i 0, .u (.bool false), .u (.int .i64 e)] [(i, pOb l p)] nx (fun r o n => r = .pan (chP t.pos e) ∧ (∃ ob', isP l ob' ∧ o = [(i, ob')]) ∧ n = nx) := by
 have h1 := zbL l p t hp hl
 (refine RetX.of_bodyW Tryz.func42 rfl (by simp) fun Γ hn hpan => ?_); simp only [entry, ziC, ziN, maC, maN, oA, Tryz.ntmps42]
 repeat' (first
  | ((first | refine zaf ?_ | refine zaj ?_ | refine zah ?_ | refine zai ?_ | refine zaG ?_ | fail); simp)
  | (refine CallP.fE (h1) (by first | rfl | fail) (by first | (simp; done) | (simp; rfl) | fail) ?_; (try simp))
  | fail)
 all_goals
  (refine hpan _ _ ⟨{ n := _, env := [], obs := [(i, pOb l p)], next := nx }, (Wk.cut rfl (by simp [hn]) (by simp [wkO, zaa, getK, zab, zac, Ob.under, D.under, zad, zae, hi]) (by simp [wkU, zan, zaa, getK, D.under, hi]) (by simp [wkE, zan, zaa, getK, hi])), by simp [hn], ?_⟩; try simp)
  all_goals exact ⟨rfl, p, rfl⟩
inductive PR (α : Type) where
 | ok (a : α) (p : Nat)
 | stop (pos e : Int)
def zco (l : List Tok) (p : Nat) : Int := match l[p]? with | some t => t.pos | none => 0
def zbj (l : List Tok) : Nat → List (List UInt8) → PR Unit
 | p, [] => .ok () p
 | p, w :: ws => if isB l p w = true then zbj l (p + 1) ws else .stop (zco l p) 12
def PPost {α : Type} (l : List Tok) (i nx : Nat) (val : α → D) : PR α → Out → List (Nat × Ob) → Nat → Prop
 | .ok a q, o, obs, n => o = .val (val a) ∧ obs = [(i, pOb l q)] ∧ n = nx
 | .stop pos e, o, obs, n => o = .pan (chP pos e) ∧ (∃ ob', isP l ob' ∧ obs = [(i, ob')]) ∧ n = nx
theorem zir (l : List Tok) (p : Nat) (ws : List (List UInt8)) (i nx : Nat) (hi : i < nx) (hp : p < l.length) (hl : TokOK l) (hw : ws.length ≤ 100) :
  RetX Tryz.prog 83 [.ptr i 0, .u (.sl (ws.map fun w => [.str w]))] [(i, pOb l p)] nx (PPost l i nx (fun _ => .tup []) (zbj l p ws)) := by
 (refine RetX.of_bodyW Tryz.func83 rfl (by simp) fun Γ hn hpan => ?_); simp only [entry, ziC, ziN, maC, maN, oA, Tryz.ntmps83]
 repeat' (first
  | ((first | refine zaf ?_ | refine zaj ?_ | refine zah ?_ | refine zaD ?_ | fail); simp)
  | fail)
 refine zd8 (α := { x : Nat × Nat // x.1 ≤ ws.length ∧ x.2 < l.length ∧ zbj l p ws = zbj l x.2 (ws.drop x.1) }) [0, 6, 7] (fun x => [(8, .u (.int .i64 x.1.1))]) (fun x => [(i, pOb l x.1.2)]) nx (fun x => ws.length - x.1.1) ⟨(0, p), by simp, hp, by simp⟩ ?_ ?_
 ·exact (Wk.cut rfl (by simp [hn, St.lp]) (by simp [wkO, St.lp, zaa, getK, Ob.under, D.under, zad, zae, hi]) (by simp [wkU, St.lp, zan, zaa, getK, D.under, hi]) (by simp [wkE, St.lp, zan, zaa, getK, hi] <;> (try (intros; simp_all; done)) <;> (try (intros; omega)) <;> (try grind)))
 rintro ⟨⟨k, q⟩, h1, h2, h3⟩
 simp only at h1 h2 h3
 simp [St.lp, St.only, zan, zaa, getK]
 rcases hx : ws[k]? with _ | w
 ·have hge : ws.length ≤ k := by simpa using hx
  obtain rfl : k = ws.length := by omega
  rw [List.drop_length, zbj] at h3
  repeat' (first
  | ((first | refine zaf ?_ | refine zaj ?_ | refine zah ?_ | fail); simp [hx])
  | (refine zce ?_; simp [zap])
  | fail)
  rw [h3]
  (refine EndW.here ?_; (first | (refine EndOK.fin (.inr rfl) ?_) | (refine EndOK.fin (.inl rfl) ?_)); simp [zaM, zag, Tryz.results83]; refine FinOK.here (by simp) ?_; try simp)
  simp [PPost]
 ·have hlt : k < ws.length := (lGE.1 hx).1
  have hd : ws.drop k = w :: ws.drop (k + 1) := by
   obtain ⟨h5, h6⟩ := lGE.1 hx
   rw [← h6, List.getElem_cons_drop]
  rw [hd, zbj] at h3
  have hh := za9 l q w i nx hi h2 hl.len
  by_cases hb : isB l q w = true
  ·rw [if_pos hb] at h3
   rw [hb, if_pos rfl] at hh
   have hq := za1 hl hb
   have hck := zd3 l (q + 1) 12 i nx hi
   repeat' (first
  | ((first | refine zaf ?_ | refine zaj ?_ | fail); simp [hx])
  | (refine ⟨by omega, ?_⟩)
  | ((first | refine zah ?_ | refine zaG ?_ | fail); simp [hx])
  | (refine zaq ?_; simp only [zap])
  | (refine ⟨?_, by omega⟩)
  | (intro hc <;> (try (exfalso; omega)))
  | (refine CallP.ok1 (hh) (by first | (simp [hx, zaa, getK, zab, zac]; done) | fail) (by rfl) (by rfl) ?_; (try simp [hx]))
  | (refine CallP.ok1 (hck) (by first | (simp [hx, zaa, getK, zab, zac]; done) | fail) (by rfl) (by rfl) ?_; (try simp [hx]))
  | fail)
   refine LoopW.next ⟨(k + 1, q + 1), by omega, hq, h3⟩ (by simp; omega) ?_
   exact (Wk.cut rfl (by simp [hn, St.lp]) (by simp [wkO, St.lp, zaa, getK, Ob.under, D.under, zad, zae, hi, zab, zac, zaa, getK]) (by simp [wkU, St.lp, zan, zaa, getK, D.under, hi, zab, zac, zaa, getK]) (by simp [wkE, St.lp, zan, zaa, getK, hi, zab, zac, zaa, getK] <;> (try (intros; simp_all; done)) <;> (try (intros; omega)) <;> (try grind)))
  ·have hb2 : isB l q w = false := by simpa using hb
   rw [if_neg hb] at h3
   rw [hb2, if_neg (by simp)] at hh
   obtain ⟨t, ht⟩ : ∃ t, l[q]? = some t := ⟨_, List.getElem?_eq_getElem h2⟩
   have hck := zcS l q t 12 i nx hi ht hl.len
   repeat' (first
  | ((first | refine zaf ?_ | refine zaj ?_ | refine zah ?_ | refine zaG ?_ | fail); simp [hx])
  | (refine zaq ?_; simp only [zap])
  | (refine ⟨?_, by omega⟩)
  | (intro hc <;> (try (exfalso; omega)))
  | (refine CallP.ok1 (hh) (by first | (simp [hx, zaa, getK, zab, zac]; done) | fail) (by rfl) (by rfl) ?_; (try simp [hx]))
  | (refine CallP.zem (hck) (by first | (simp [hx, zaa, getK, zab, zac]; done) | fail) (by rfl) (by first | assumption | (simp; done) | fail) (by rfl) (by simp) ?_; rintro ob' ⟨q', rfl⟩; refine ⟨_, Wk.refl _, ?_⟩)
  | fail)
   rw [h3] at hpan
   (refine hpan _ _ ⟨{ n := _, env := [], obs := [(i, pOb l q')], next := nx }, (Wk.cut rfl (by simp [hn]) (by simp [wkO, zaa, getK, zab, zac, Ob.under, D.under, zad, zae, hi, zab, zac, zaa, getK]) (by simp [wkU, zan, zaa, getK, D.under, hi, zab, zac, zaa, getK]) (by simp [wkE, zan, zaa, getK, hi, zab, zac, zaa, getK])), by simp [hn], ?_⟩; try simp)
   all_goals exact ⟨by simp [zco, ht], ⟨_, ⟨q', rfl⟩, rfl⟩, rfl⟩
end Go.Proofs.YthnemhfamhnfjaaGreatDoor
namespace Go.Proofs.YthnemhfamhnfjaaGreatDoor
open Go Go.VL
def PR.bind {α β : Type} : PR α → (α → Nat → PR β) → PR β
 | .ok a p, f => f a p
 | .stop pos e, _ => .stop pos e
theorem PR.zav {α β : Type} {a : α} {p : Nat} {f : α → Nat → PR β} : (PR.ok a p).bind f = f a p := rfl
theorem PR.zaQ {α β : Type} {pos e : Int} {f : α → Nat → PR β} : (PR.stop pos e : PR α).bind f = .stop pos e := rfl
theorem PR.zao {α β : Type} {r : PR α} {f : α → Nat → PR β} {b : β} {q : Nat} (h : r.bind f = .ok b q) : ∃ a p, r = .ok a p ∧ f a p = .ok b q := by
 cases r with
 | ok a p => exact ⟨a, p, rfl, h⟩
 | stop => cases h
theorem PPost.zcr {α : Type} {l i nx} {val : α → D} {r : PR α} {a : α} {q : Nat} (h : r = .ok a q) {d : D} (hd : d = val a) {o : List (Nat × Ob)} (ho : o = [(i, pOb l q)]) : PPost l i nx val r (.val d) o nx := by
 subst h; subst hd; subst ho; exact ⟨rfl, rfl, rfl⟩
theorem PPost.zax {α : Type} {l i nx} {val : α → D} {r : PR α} {pos e : Int} {q : Nat} (h : r = .stop pos e) : PPost l i nx val r (.pan (chP pos e)) [(i, pOb l q)] nx := by
 subst h; exact ⟨rfl, ⟨_, ⟨q, rfl⟩, rfl⟩, rfl⟩
structure Opr where
 text : List UInt8
 op : Int
 form : Int
def oprs : List Opr := [⟨[111, 114], 11, 1⟩, ⟨[97, 110, 100], 10, 2⟩, ⟨[61, 61], 9, 4⟩, ⟨[60], 8, 4⟩, ⟨[43], 2, 5⟩, ⟨[45], 3, 5⟩, ⟨[42], 4, 6⟩, ⟨[47], 5, 6⟩]
def zfa (l : List Tok) (p : Nat) : Option Opr := oprs.find? fun o => isB l p o.text
def zfg (l : List Tok) (p : Nat) : PR Int :=
 if isB l p [99, 111, 105, 110, 115] = true then .ok 3 (p + 1)
 else if isB l p [100, 97, 121, 115] = true then .ok 2 (p + 1)
 else if isB l p [112, 101, 114] = true then (zbj l (p + 1) [[109, 105, 108, 108, 101]]).bind fun _ q => .ok 4 q
 else .ok 1 p
mutual
def zcC (l : List Tok) : Nat → Nat → Int → PR Exp
 | 0, _, _ => .stop 0 0
 | f + 1, p, form => (zaV l f p form).bind fun e q => zcK l f form e.1 e.2 q
def zcK (l : List Tok) : Nat → Int → Exp → Int → Nat → PR Exp
 | 0, _, _, _, _ => .stop 0 0
 | f + 1, form, e, own, q => match zfa l q with
  | none => .ok e q
  | some x => if x.form < form ∨ own < x.form ∨ (own = 4 ∧ x.form = 4) then .ok e q
   else (zcC l f (q + 1) (x.form + 1)).bind fun e2 r => zcK l f form (.mk x.op 0 0 [] [e, e2]) x.form r
def zaV (l : List Tok) : Nat → Nat → Int → PR (Exp × Int)
 | 0, _, _ => .stop 0 0
 | f + 1, p, form =>
  if form = 0 ∧ isB l p [105, 102] = true then
   (zcC l f (p + 1) 0).bind fun a q1 => (zbj l q1 [[116, 104, 101, 110]]).bind fun _ q2 => (zcC l f q2 0).bind fun b q3 =>
   (zbj l q3 [[101, 108, 115, 101]]).bind fun _ q4 => (zcC l f q4 0).bind fun c q5 => .ok (.mk 13 0 0 [] [a, b, c], 0) q5
  else if form ≤ 3 ∧ isB l p [110, 111, 116] = true then (zcC l f (p + 1) 3).bind fun a q => .ok (.mk 12 0 0 [] [a], 3) q
  else (zaJ l f p).bind fun e q => .ok (e, 7) q
def zaJ (l : List Tok) : Nat → Nat → PR Exp
 | 0, _ => .stop 0 0
 | f + 1, p => match l[p]? with
  | none => .stop 0 0
  | some t =>
   if t.kind = 2 then (zfg l (p + 1)).bind fun u q => .ok (.mk 0 t.n u [] []) q
   else if isB l p [116, 114, 117, 101] = true then .ok (.mk 0 1 0 [] []) (p + 1)
   else if isB l p [102, 97, 108, 115, 101] = true then .ok (.mk 0 0 0 [] []) (p + 1)
   else if isB l p [109, 105, 110] = true ∨ isB l p [109, 97, 120] = true then
    (zbj l (p + 1) [[40]]).bind fun _ q1 => (zcC l f q1 0).bind fun a q2 => (zbj l q2 [[44]]).bind fun _ q3 => (zcC l f q3 0).bind fun b q4 =>
    (zbj l q4 [[41]]).bind fun _ q5 => .ok (.mk (if isB l p [109, 97, 120] = true then 7 else 6) 0 0 [] [a, b]) q5
   else if isB l p [40] = true then (zcC l f (p + 1) 0).bind fun e q1 => (zbj l q1 [[41]]).bind fun _ q2 => .ok e q2
   else if t.kind = 1 ∧ zbr t.text = true then .ok (.mk 1 0 0 t.text []) (p + 1)
   else .stop t.pos 12
end
theorem zaO {l : List Tok} (hl : TokOK l) : ∀ (ws : List (List UInt8)) {p q : Nat}, zbj l p ws = .ok () q → p < l.length → p ≤ q ∧ q < l.length
 | [], p, q, h, hp => by rw [zbj] at h; cases h; exact ⟨Nat.le_refl _, hp⟩
 | w :: ws, p, q, h, hp => by
  rw [zbj] at h
  split at h
  ·rename_i hb
   have := zaO hl ws h (za1 hl hb)
   exact ⟨by omega, this.2⟩
  ·cases h
theorem zpf {l : List Tok} (hl : TokOK l) {p q : Nat} {u : Int} (h : zfg l p = .ok u q) (hp : p < l.length) : p ≤ q ∧ q < l.length := by
 unfold zfg at h
 split at h
 ·rename_i hb; cases h; exact ⟨by omega, za1 hl hb⟩
 ·split at h
  ·rename_i hb; cases h; exact ⟨by omega, za1 hl hb⟩
  ·split at h
   ·rename_i hb
    obtain ⟨a, r, h1, h2⟩ := PR.zao h
    cases h2
    have := zaO hl _ h1 (za1 hl hb)
    exact ⟨by omega, this.2⟩
   ·cases h; exact ⟨by omega, hp⟩
theorem zbJ {l : List Tok} (hl : TokOK l) : ∀ (f : Nat),
  (∀ p form e q, zcC l f p form = .ok e q → p < l.length → p ≤ q ∧ q < l.length) ∧
  (∀ form e own p e' q, zcK l f form e own p = .ok e' q → p < l.length → p ≤ q ∧ q < l.length) ∧
  (∀ p form e q, zaV l f p form = .ok e q → p < l.length → p ≤ q ∧ q < l.length) ∧
  (∀ p e q, zaJ l f p = .ok e q → p < l.length → p ≤ q ∧ q < l.length)
 | 0 => ⟨fun _ _ _ _ h => by simp [zcC] at h, fun _ _ _ _ _ _ h => by simp [zcK] at h, fun _ _ _ _ h => by simp [zaV] at h, fun _ _ _ h => by simp [zaJ] at h⟩
 | f + 1 => by
  obtain ⟨he, hlo, hpr, hpm⟩ := zbJ hl f
  refine ⟨fun p form e q h hp => ?_, fun form e own p e' q h hp => ?_, fun p form e q h hp => ?_, fun p e q h hp => ?_⟩
  ·rw [zcC] at h
   obtain ⟨a, r, h1, h2⟩ := PR.zao h
   have g1 := hpr _ _ _ _ h1 hp
   have g2 := hlo _ _ _ _ _ _ h2 g1.2
   exact ⟨by omega, g2.2⟩
  ·rw [zcK] at h
   split at h
   ·cases h; exact ⟨by omega, hp⟩
   ·rename_i x hx
    have hb := List.find?_some hx
    have hp2 := za1 hl hb
    split at h
    ·cases h; exact ⟨by omega, hp⟩
    ·obtain ⟨a, r, h1, h2⟩ := PR.zao h
     have g1 := he _ _ _ _ h1 hp2
     have g2 := hlo _ _ _ _ _ _ h2 g1.2
     exact ⟨by omega, g2.2⟩
  ·rw [zaV] at h
   split at h
   ·rename_i hb
    have hp2 := za1 hl hb.2
    obtain ⟨a, r, h1, h⟩ := PR.zao h
    have g1 := he _ _ _ _ h1 hp2
    obtain ⟨_, r2, h2, h⟩ := PR.zao h
    have g2 := zaO hl _ h2 g1.2
    obtain ⟨a, r3, h3, h⟩ := PR.zao h
    have g3 := he _ _ _ _ h3 g2.2
    obtain ⟨_, r4, h4, h⟩ := PR.zao h
    have g4 := zaO hl _ h4 g3.2
    obtain ⟨a, r5, h5, h⟩ := PR.zao h
    have g5 := he _ _ _ _ h5 g4.2
    cases h
    exact ⟨by omega, g5.2⟩
   ·split at h
    ·rename_i hb
     have hp2 := za1 hl hb.2
     obtain ⟨a, r, h1, h⟩ := PR.zao h
     have g1 := he _ _ _ _ h1 hp2
     cases h
     exact ⟨by omega, g1.2⟩
    ·obtain ⟨a, r, h1, h⟩ := PR.zao h
     have g1 := hpm _ _ _ h1 hp
     cases h
     exact g1
  ·rw [zaJ] at h
   split at h
   ·cases h
   ·rename_i t ht
    split at h
    ·rename_i hk
     have hp2 := hl.fin p t ht (by omega)
     obtain ⟨a, r, h1, h⟩ := PR.zao h
     have g1 := zpf hl h1 hp2
     cases h
     exact ⟨by omega, g1.2⟩
    split at h
    ·rename_i hb; cases h; exact ⟨by omega, za1 hl hb⟩
    split at h
    ·rename_i hb; cases h; exact ⟨by omega, za1 hl hb⟩
    split at h
    ·rename_i hb
     have hp2 : p + 1 < l.length := hb.elim (za1 hl) (za1 hl)
     obtain ⟨_, r2, h2, h⟩ := PR.zao h
     have g2 := zaO hl _ h2 hp2
     obtain ⟨a, r3, h3, h⟩ := PR.zao h
     have g3 := he _ _ _ _ h3 g2.2
     obtain ⟨_, r4, h4, h⟩ := PR.zao h
     have g4 := zaO hl _ h4 g3.2
     obtain ⟨a, r5, h5, h⟩ := PR.zao h
     have g5 := he _ _ _ _ h5 g4.2
     obtain ⟨_, r6, h6, h⟩ := PR.zao h
     have g6 := zaO hl _ h6 g5.2
     cases h
     exact ⟨by omega, g6.2⟩
    split at h
    ·rename_i hb
     have hp2 := za1 hl hb
     obtain ⟨a, r3, h3, h⟩ := PR.zao h
     have g3 := he _ _ _ _ h3 hp2
     obtain ⟨_, r4, h4, h⟩ := PR.zao h
     have g4 := zaO hl _ h4 g3.2
     cases h
     exact ⟨by omega, g4.2⟩
    split at h
    ·rename_i hk
     cases h
     exact ⟨by omega, hl.fin p t ht (by omega)⟩
    ·cases h
end Go.Proofs.YthnemhfamhnfjaaGreatDoor
namespace Go.Proofs.YthnemhfamhnfjaaGreatDoor
open Go Go.VL
abbrev W8 := List UInt8
def zfK : W8 → Int
 | [] => 0
 | c :: _ => if zbm c = true then 1 else if zaN c = true then 2 else 3
theorem zpM {w : W8} (h : w ≠ []) : zfK w ≠ 0 := by
 cases w with
 | nil => exact absurd rfl h
 | cons c w => rw [zfK]; split <;> (try split) <;> decide
def zqx (w : W8) : Int := if zfK w = 2 then (zd6 w).getD 0 else 0
def Reads (l : List Tok) (p : Nat) (ws : List W8) : Prop := ∀ i w, ws[i]? = some w → w ≠ [] ∧ ∃ t, l[p + i]? = some t ∧ t.text = w ∧ t.kind = zfK w ∧ t.n = zqx w
theorem Reads.left {l p} {a b : List W8} (h : Reads l p (a ++ b)) : Reads l p a := fun i w hi => h i w (by rw [List.getElem?_append_left (lGE.1 hi).1]; exact hi)
theorem Reads.right {l p} {a b : List W8} (h : Reads l p (a ++ b)) : Reads l (p + a.length) b := fun i w hi => by
 have := h (a.length + i) w (by rw [List.getElem?_append_right (by omega), Nat.add_sub_cancel_left]; exact hi)
 rwa [← nAA] at this
theorem Reads.head {l p} {w : W8} {b : List W8} (h : Reads l p (w :: b)) : w ≠ [] ∧ ∃ t, l[p]? = some t ∧ t.text = w ∧ t.kind = zfK w ∧ t.n = zqx w := h 0 w rfl
theorem Reads.tail {l p} {w : W8} {b : List W8} (h : Reads l p (w :: b)) : Reads l (p + 1) b := Reads.right (a := [w]) h
theorem Reads.isB {l p} {w : W8} {b : List W8} (h : Reads l p (w :: b)) (v : W8) : isB l p v = decide (w = v) := by
 obtain ⟨hw, t, ht, h1, h2, h3⟩ := h.head
 have := zpM hw
 simp [Go.Proofs.YthnemhfamhnfjaaGreatDoor.isB, ht, h1, h2, this]
theorem Reads.want {l p} {w : W8} {b : List W8} (h : Reads l p (w :: b)) : zbj l p [w] = .ok () (p + 1) := by
 rw [zbj, if_pos (by rw [h.isB]; simp), zbj]
theorem Reads.opr {l p} {w : W8} {b : List W8} (h : Reads l p (w :: b)) : zfa l p = oprs.find? fun o => decide (w = o.text) := by
 unfold zfa
 congr 1
 exact funext fun o => h.isB o.text
def Ev {α : Type} (g : Nat → PR α) (r : PR α) : Prop := ∃ f0, ∀ f, f0 ≤ f → g f = r
theorem Ev.succ {α : Type} {g : Nat → PR α} {r : PR α} (h : Ev (fun f => g (f + 1)) r) : Ev g r := by
 obtain ⟨f0, h⟩ := h
 refine ⟨f0 + 1, fun f hf => ?_⟩
 obtain ⟨f, rfl⟩ : ∃ k, f = k + 1 := ⟨f - 1, by omega⟩
 exact h f (by omega)
theorem Ev.const {α : Type} {r : PR α} : Ev (fun _ => r) r := ⟨0, fun _ _ => rfl⟩
theorem Ev.of {α : Type} {g : Nat → PR α} {r : PR α} (h : ∀ f, g f = r) : Ev g r := ⟨0, fun f _ => h f⟩
theorem Ev.bind {α β : Type} {g : Nat → PR α} {a : α} {q : Nat} {F : Nat → α → Nat → PR β} {r : PR β} (h : Ev g (.ok a q)) (h2 : Ev (fun f => F f a q) r) : Ev (fun f => (g f).bind (F f)) r := by
 obtain ⟨f0, h⟩ := h
 obtain ⟨f1, h2⟩ := h2
 refine ⟨max f0 f1, fun f hf => ?_⟩
 show (g f).bind (F f) = r
 rw [h f (by omega), PR.zav]
 exact h2 f (by omega)
theorem Ev.exp {l p form} {e : Exp} {own : Int} {q : Nat} {r} (h : Ev (fun f => zaV l f p form) (.ok (e, own) q)) (h2 : Ev (fun f => zcK l f form e own q) r) : Ev (fun f => zcC l f p form) r := by
 refine Ev.succ ?_
 simp only [zcC]
 exact Ev.bind h h2
def zb7 (op : Int) : Int := if op = 13 then 0 else if op = 12 then 3 else match oprs.find? (fun o => decide (o.op = op)) with | some o => o.form | none => 7
def zdv (n u : Int) : List W8 :=
 if u = 0 then [if n = 1 then [116, 114, 117, 101] else [102, 97, 108, 115, 101]]
 else Lib.itoa n :: (if u = 3 then [[99, 111, 105, 110, 115]] else if u = 2 then [[100, 97, 121, 115]] else if u = 4 then [[112, 101, 114], [109, 105, 108, 108, 101]] else [])
def zpa (x : Int × List W8) (least : Int) : List W8 := if x.1 < least then [40] :: x.2 ++ [[41]] else x.2
def znt (ws : List (Int × List W8)) (i : Nat) (least : Int) : List W8 := match ws[i]? with | some x => zpa x least | none => []
def zcW (op n u : Int) (s : W8) (ws : List (Int × List W8)) : List W8 :=
 if op = 0 then zdv n u else if op = 1 then [s]
 else if op = 13 then [105, 102] :: znt ws 0 0 ++ [116, 104, 101, 110] :: znt ws 1 0 ++ [101, 108, 115, 101] :: znt ws 2 0
 else if op = 12 then [110, 111, 116] :: znt ws 0 3
 else if op = 6 then [109, 105, 110] :: [40] :: znt ws 0 0 ++ [44] :: znt ws 1 0 ++ [[41]]
 else if op = 7 then [109, 97, 120] :: [40] :: znt ws 0 0 ++ [44] :: znt ws 1 0 ++ [[41]]
 else match oprs.find? (fun o => decide (o.op = op)) with
  | some o => znt ws 0 (if o.form = 4 then 5 else o.form) ++ o.text :: znt ws 1 (o.form + 1)
  | none => []
mutual
def zaZ : Exp → List W8
 | .mk op n u s args => zcW op n u s (zlp args)
def zlp : List Exp → List (Int × List W8)
 | [] => []
 | .mk op n u s args :: l => (zb7 op, zcW op n u s (zlp args)) :: zlp l
end
theorem zkx : ∀ l : List Exp, zlp l = l.map fun e => (zb7 e.op, zaZ e)
 | [] => by simp [zlp]
 | .mk op n u s args :: l => by rw [zlp, List.map_cons, zkx l]; simp [zaZ, Exp.op]
def zaK (e : Exp) (least : Int) : List W8 := zpa (zb7 e.op, zaZ e) least
def zpq (e : Exp) (least : Int) : Int := if zb7 e.op < least then 7 else zb7 e.op
theorem zbM {args : List Exp} {i : Nat} {a : Exp} (h : args[i]? = some a) (least : Int) : znt (zlp args) i least = zaK a least := by
 rw [znt, zkx, List.getElem?_map, h]; rfl
end Go.Proofs.YthnemhfamhnfjaaGreatDoor
namespace Go.Proofs.YthnemhfamhnfjaaGreatDoor
open Go Go.VL
theorem zfD {o : Opr} (h : o ∈ oprs) : 1 ≤ o.form ∧ o.form ≤ 6 ∧ o.form ≠ 3 := by
 simp only [oprs, List.mem_cons, List.mem_nil_iff, or_false] at h
 rcases h with rfl | rfl | rfl | rfl | rfl | rfl | rfl | rfl <;> decide
theorem zmM {op : Int} {o : Opr} (h : oprs.find? (fun o => decide (o.op = op)) = some o) : o.op = op ∧ o ∈ oprs := by
 have h1 := List.find?_some h
 exact ⟨by simpa using h1, List.mem_of_find?_eq_some h⟩
theorem zpr {o : Opr} (h : o ∈ oprs) : oprs.find? (fun x => decide (o.text = x.text)) = some o := by
 simp only [oprs, List.mem_cons, List.mem_nil_iff, or_false] at h
 rcases h with rfl | rfl | rfl | rfl | rfl | rfl | rfl | rfl <;> rfl
theorem znW {o : Opr} (h : o ∈ oprs) : o.text ≠ [99, 111, 105, 110, 115] ∧ o.text ≠ [100, 97, 121, 115] ∧ o.text ≠ [112, 101, 114] := by
 simp only [oprs, List.mem_cons, List.mem_nil_iff, or_false] at h
 rcases h with rfl | rfl | rfl | rfl | rfl | rfl | rfl | rfl <;> decide
theorem zho (op : Int) : 0 ≤ zb7 op ∧ zb7 op ≤ 7 := by
 unfold zb7
 split
 ·decide
 ·split
  ·decide
  ·split
   ·rename_i o h
    have := zfD (zmM h).2
    omega
   ·decide
/-- What stands behind an expression: no unit. -/
def zkH (l : List Tok) (q : Nat) : Prop := isB l q [99, 111, 105, 110, 115] = false ∧ isB l q [100, 97, 121, 115] = false ∧ isB l q [112, 101, 114] = false
theorem Reads.noUnit {l p} {w : W8} {b : List W8} (h : Reads l p (w :: b)) (h1 : w ≠ [99, 111, 105, 110, 115]) (h2 : w ≠ [100, 97, 121, 115]) (h3 : w ≠ [112, 101, 114]) : zkH l p := by
 refine ⟨?_, ?_, ?_⟩ <;> rw [h.isB] <;> simp [*]
def znr (l : List Tok) (e : Exp) : Prop := ∀ least form p r, 0 ≤ form → form ≤ least → least ≤ 7 → Reads l p (zaK e least) → zkH l (p + (zaK e least).length) →
 (∀ x, zfa l (p + (zaK e least).length) = some x → x.form ≤ zpq e least) → Ev (fun f => zcK l f form e (zpq e least) (p + (zaK e least).length)) r → Ev (fun f => zcC l f p form) r
def zrs (l : List Tok) (e : Exp) : Prop := ∀ form p r, 0 ≤ form → form ≤ zb7 e.op → Reads l p (zaZ e) → zkH l (p + (zaZ e).length) →
 (∀ x, zfa l (p + (zaZ e).length) = some x → x.form ≤ zb7 e.op) → Ev (fun f => zcK l f form e (zb7 e.op) (p + (zaZ e).length)) r → Ev (fun f => zcC l f p form) r
theorem zlL {l : List Tok} {q : Nat} {form own : Int} {e : Exp} (h : ∀ x, zfa l q = some x → x.form < form) : Ev (fun f => zcK l f form e own q) (.ok e q) := by
 refine Ev.succ (Ev.of fun f => ?_)
 rw [zcK]
 rcases hx : zfa l q with _ | x
 ·rfl
 ·have := h x hx
  simp only
  rw [if_pos (.inl this)]
theorem zj1 {l : List Tok} {e : Exp} (hb : zrs l e) : znr l e := by
 intro least form p r h0 h1 h7 hr hu hf hk
 by_cases hlt : zb7 e.op < least
 ·have hs : zaK e least = [40] :: zaZ e ++ [[41]] := by rw [zaK, zpa, if_pos hlt]
  have ho : zpq e least = 7 := by rw [zpq, if_pos hlt]
  rw [hs] at hr hu hf hk
  rw [ho] at hk
  have hr2 : Reads l (p + 1) (zaZ e ++ [[41]]) := Reads.tail hr
  have hr3 : Reads l (p + 1 + (zaZ e).length) [[41]] := hr2.right
  have hlen : p + ([40] :: zaZ e ++ [[41]]).length = p + 1 + (zaZ e).length + 1 := by simp; omega
  rw [hlen] at hk
  obtain ⟨_, t, ht, t1, t2, t3⟩ := Reads.head (b := zaZ e ++ [[41]]) hr
  have hi : ∀ v, isB l p v = decide ([40] = v) := fun v => Reads.isB (b := zaZ e ++ [[41]]) hr v
  have hopn : zfa l (p + 1 + (zaZ e).length) = none := by rw [hr3.opr]; rfl
  refine Ev.exp (e := e) (own := 7) (q := p + 1 + (zaZ e).length + 1) ?_ hk
  refine Ev.succ ?_
  have e1 : ∀ f, zaV l (f + 1) p form = (zaJ l f p).bind fun e q => .ok (e, 7) q := fun f => by
   rw [zaV, hi, hi]; simp
  simp only [e1]
  refine Ev.bind (a := e) (q := p + 1 + (zaZ e).length + 1) ?_ Ev.const
  refine Ev.succ ?_
  have hkd : t.kind = 3 := by rw [t2]; decide
  have e2 : ∀ f, zaJ l (f + 1) p = (zcC l f (p + 1) 0).bind fun e q1 => (zbj l q1 [[41]]).bind fun _ q2 => .ok e q2 := fun f => by
   rw [zaJ, ht]; simp [hi, hkd]
  simp only [e2]
  refine Ev.bind (a := e) (q := p + 1 + (zaZ e).length) ?_ ?_
  ·refine hb 0 (p + 1) _ (Int.le_refl _) (zho _).1 hr2.left (hr3.noUnit (by decide) (by decide) (by decide)) (fun x hx => ?_) (zlL fun x hx => ?_)
   all_goals rw [hopn] at hx; cases hx
  ·rw [hr3.want]
   exact Ev.of fun _ => rfl
 ·have hs : zaK e least = zaZ e := by rw [zaK, zpa, if_neg hlt]
  have ho : zpq e least = zb7 e.op := by rw [zpq, if_neg hlt]
  rw [hs] at hr hu hf hk
  rw [ho] at hf hk
  exact hb form p r h0 (by omega) hr hu hf hk
theorem zqv {e : Exp} {least : Int} (h : least ≤ 7) : least ≤ zpq e least := by
 unfold zpq; split <;> omega
theorem zkA {l : List Tok} {a : Exp} (h : znr l a) {least : Int} {p : Nat} (h0 : 0 ≤ least) (h7 : least ≤ 7) (hr : Reads l p (zaK a least)) (hu : zkH l (p + (zaK a least).length))
  (hs : ∀ x, zfa l (p + (zaK a least).length) = some x → x.form < least) : Ev (fun f => zcC l f p least) (.ok a (p + (zaK a least).length)) :=
 h least least p _ h0 (Int.le_refl _) h7 hr hu (fun x hx => by have := hs x hx; have := zqv (e := a) h7; omega) (zlL hs)
/-- An argument ahead of a word that is no operator. -/
theorem zgQ {l : List Tok} {a : Exp} (h : znr l a) {least : Int} {p : Nat} {w : W8} {b : List W8} (h0 : 0 ≤ least) (h7 : least ≤ 7) (hr : Reads l p (zaK a least ++ w :: b))
  (h1 : w ≠ [99, 111, 105, 110, 115]) (h2 : w ≠ [100, 97, 121, 115]) (h3 : w ≠ [112, 101, 114]) (ho : oprs.find? (fun o => decide (w = o.text)) = none) :
  Ev (fun f => zcC l f p least) (.ok a (p + (zaK a least).length)) :=
 zkA h h0 h7 hr.left (hr.right.noUnit h1 h2 h3) fun x hx => by rw [hr.right.opr, ho] at hx; cases hx
end Go.Proofs.YthnemhfamhnfjaaGreatDoor
namespace Go.Proofs.YthnemhfamhnfjaaGreatDoor
open Go Go.VL
theorem zgv : ∀ n, Lib.decDigits n ≠ [] := fun n => by
 rw [Lib.decDigits]; split <;> simp
theorem zeV (n : Nat) : ∀ c ∈ Lib.decDigits n, zaN c = true := by
 induction n using Nat.strongRecOn with
 | _ n ih =>
  intro c hc
  have hd : ∀ k, k < 10 → zaN (UInt8.ofNat (48 + k)) = true := by decide
  rw [Lib.decDigits] at hc
  split at hc
  ·rename_i h
   simp only [List.mem_singleton] at hc
   subst hc
   exact hd n h
  ·rename_i h
   rw [List.mem_append, List.mem_singleton] at hc
   rcases hc with hc | rfl
   ·exact ih _ (by omega) c hc
   ·exact hd _ (by omega)
theorem zi3 (n : Nat) : za8 (Lib.decDigits n) = n := by
 induction n using Nat.strongRecOn with
 | _ n ih =>
  have hd : ∀ k, k < 10 → ((UInt8.ofNat (48 + k)).toNat : Int) - 48 = k := by decide
  rw [Lib.decDigits]
  split
  ·rename_i h
   simpa [za8] using hd n h
  ·rename_i h
   rw [zd1, ih _ (by omega), hd _ (by omega)]
   omega
theorem zhN (n : Nat) : (Lib.decDigits n).head? = some 48 → n = 0 := by
 induction n using Nat.strongRecOn with
 | _ n ih =>
  have hd : ∀ k, k < 10 → UInt8.ofNat (48 + k) = 48 → k = 0 := by decide
  rw [Lib.decDigits]
  split
  ·rename_i h
   intro he
   exact hd n h (by simpa using he)
  ·rename_i h
   intro he
   have he2 : (Lib.decDigits (n / 10)).head? = some 48 := by
    have hne := zgv (n / 10)
    revert he hne
    cases Lib.decDigits (n / 10) with
    | nil => intro _ h; exact absurd rfl h
    | cons a r => intro he _; simpa using he
   have := ih _ (by omega) he2
   omega
theorem zfT (n : Nat) : ∀ k, n < 10 ^ (k + 1) → (Lib.decDigits n).length ≤ k + 1 := by
 induction n using Nat.strongRecOn with
 | _ n ih =>
  intro k hk
  rw [Lib.decDigits]
  split
  ·simp
  ·rename_i h
   obtain ⟨k, rfl⟩ : ∃ j, k = j + 1 := ⟨k - 1, by cases k with | zero => simp at hk; omega | succ k => rfl⟩
   have := ih (n / 10) (by omega) k (by rw [Nat.pow_succ] at hk; omega)
   simp
   omega
theorem zix {p : UInt8 → Bool} {l : List UInt8} (h : ∀ c ∈ l, p c = true) : l.takeWhile p = l := by
 induction l with
 | nil => rfl
 | cons a l ih => rw [List.takeWhile_cons, if_pos (h a (by simp)), ih fun c hc => h c (by simp [hc])]
theorem zgL {n : Int} (h0 : 0 ≤ n) (h1 : n ≤ 1099511627776) : zfK (Lib.itoa n) = 2 ∧ zd6 (Lib.itoa n) = some n ∧ Lib.itoa n ≠ [] := by
 have hi : Lib.itoa n = Lib.decDigits n.toNat := by rw [Lib.itoa, if_neg (by omega)]
 rw [hi]
 have hne := zgv n.toNat
 have hd := zeV n.toNat
 have hlt : n.toNat < 10 ^ (12 + 1) := by
  have : (10 : Nat) ^ 13 = 10000000000000 := by decide
  omega
 have hlen := zfT n.toNat 12 hlt
 have hv := zi3 n.toNat
 have hh := zhN n.toNat
 refine ⟨?_, ?_, hne⟩
 ·have h3 : ∀ c, zaN c = true → zbm c = false := fun c h => by
   simp only [zaN, zbm, Bool.and_eq_true, decide_eq_true_eq, Bool.and_eq_false_iff, decide_eq_false_iff_not] at h ⊢
   omega
  cases hc : Lib.decDigits n.toNat with
  | nil => exact absurd hc hne
  | cons c r =>
   have h4 := hd c (by rw [hc]; simp)
   rw [zfK, h3 c h4, h4]; rfl
 ·unfold zd6
  have hsp : zbn zaN (Lib.decDigits n.toNat) = (Lib.decDigits n.toNat).length := by rw [zbn, zix hd]
  rw [if_neg, hv, if_neg (by omega)]
  ·rw [Int.toNat_of_nonneg h0]
  ·simp only [not_or]
   refine ⟨hne, fun h => h hsp, fun h => ?_, by omega⟩
   have := hh h.1
   rw [this] at h
   exact h.2 (by rw [Lib.decDigits]; rfl)
end Go.Proofs.YthnemhfamhnfjaaGreatDoor
namespace Go.Proofs.YthnemhfamhnfjaaGreatDoor
open Go Go.VL
theorem Ev.zsd {l : List Tok} {p : Nat} {form : Int} {e : Exp} {q : Nat} (h : Ev (fun f => zaJ l (f + 1) p) (.ok e q)) (hif : ∀ f, zaV l (f + 1) p form = (zaJ l f p).bind fun e q => .ok (e, 7) q) :
  Ev (fun f => zaV l f p form) (.ok (e, 7) q) := by
 refine Ev.succ ?_
 simp only [hif]
 exact Ev.bind (Ev.succ h) Ev.const
theorem zhb {n u : Int} (h : zlE (.mk 0 n u [] []) = true) : 0 ≤ u ∧ u < 5 ∧ 0 ≤ n ∧ n ≤ 1099511627776 ∧ (u = 0 → n ≤ 1) := by
 have h2 : (decide (([] : List UInt8) = []) && decide (0 ≤ u) && decide (u < 5) && decide (0 ≤ n) && decide (n ≤ if u = 0 then 1 else 1099511627776)) = true := h
 simp only [Bool.and_eq_true, decide_eq_true_eq] at h2
 obtain ⟨⟨⟨⟨_, a⟩, b⟩, c⟩, d⟩ := h2
 split at d
 ·exact ⟨a, b, c, by omega, fun _ => d⟩
 ·rename_i hz
  exact ⟨a, b, c, d, fun h => absurd h hz⟩
theorem zqd {l : List Tok} {n u : Int} (hn : zlE (.mk 0 n u [] []) = true) : zrs l (.mk 0 n u [] []) := by
 intro form p r h0 h1 hr hu hf hk
 have hF : zb7 (Exp.mk 0 n u [] []).op = 7 := rfl
 rw [hF] at hk
 obtain ⟨hu0, hu1, hn0, hn2, hn1⟩ := zhb hn
 have hb : zaZ (.mk 0 n u [] []) = zdv n u := by rw [zaZ, zcW, if_pos rfl]
 rw [hb] at hr hk hu
 refine Ev.exp (e := .mk 0 n u [] []) (own := 7) (q := p + (zdv n u).length) ?_ hk
 by_cases hz : u = 0
 ·subst hz
  have hn1 := hn1 rfl
  have hw : zdv n 0 = [if n = 1 then [116, 114, 117, 101] else [102, 97, 108, 115, 101]] := by rw [zdv, if_pos rfl]
  rw [hw] at hr ⊢
  obtain ⟨_, t, ht, t1, t2, t3⟩ := hr.head
  have hi := fun v => hr.isB v
  refine Ev.zsd ?_ fun f => ?_
  ·refine Ev.of fun f => ?_
   have hkd : t.kind = 1 := by rw [t2]; split <;> decide
   rw [zaJ, ht]
   simp only [hi, hkd]
   by_cases h1 : n = 1
   ·subst h1; simp
   ·have : n = 0 := by omega
    subst this; simp
  ·rw [zaV, hi, hi]
   by_cases h1 : n = 1 <;> simp [h1]
 ·obtain ⟨k1, k2, k3⟩ := zgL hn0 hn2
  have hw : zdv n u = Lib.itoa n :: (if u = 3 then [[99, 111, 105, 110, 115]] else if u = 2 then [[100, 97, 121, 115]] else if u = 4 then [[112, 101, 114], [109, 105, 108, 108, 101]] else []) := by rw [zdv, if_neg hz]
  rw [hw] at hr hu ⊢
  obtain ⟨_, t, ht, t1, t2, t3⟩ := hr.head
  rw [k1] at t2
  rw [zqx, if_pos k1, k2] at t3
  simp only [Option.getD_some] at t3
  have hi : ∀ v, zfK v ≠ 2 → isB l p v = false := fun v hv => by
   rw [hr.isB]
   exact decide_eq_false fun h => hv (h ▸ k1)
  have hunit : zfg l (p + 1) = .ok u (p + (Lib.itoa n :: (if u = 3 then [[99, 111, 105, 110, 115]] else if u = 2 then [[100, 97, 121, 115]] else if u = 4 then [[112, 101, 114], [109, 105, 108, 108, 101]] else [])).length) := by
   have hr2 := hr.tail
   have hcases : u = 1 ∨ u = 2 ∨ u = 3 ∨ u = 4 := by omega
   rcases hcases with rfl | rfl | rfl | rfl
   ·simp only [List.length_singleton, show ((1 : Int) = 3) = False by simp, show ((1 : Int) = 2) = False by simp, show ((1 : Int) = 4) = False by simp, if_false] at hu ⊢
    rw [zfg, hu.1, hu.2.1, hu.2.2]; rfl
   ·simp only [show ((2 : Int) = 3) = False by simp, if_false, if_true] at hr2 ⊢
    rw [zfg, hr2.isB, hr2.isB]; rfl
   ·simp only [if_true] at hr2 ⊢
    rw [zfg, hr2.isB]; rfl
   ·simp only [show ((4 : Int) = 3) = False by simp, show ((4 : Int) = 2) = False by simp, if_false, if_true] at hr2 ⊢
    rw [zfg, hr2.isB, hr2.isB, hr2.isB, hr2.tail.want]; rfl
  refine Ev.zsd ?_ fun f => ?_
  ·refine Ev.of fun f => ?_
   rw [zaJ, ht]
   simp only [t2, t3, if_true, hunit]
   rfl
  ·rw [zaV, hi _ (by decide), hi _ (by decide)]; simp
theorem zoZ {l : List Tok} {s : W8} (hn : zbr s = true) : zrs l (.mk 1 0 0 s []) := by
 intro form p r h0 h1 hr hu hf hk
 have hF : zb7 (Exp.mk 1 0 0 s []).op = 7 := rfl
 rw [hF] at hk
 have hb : zaZ (.mk 1 0 0 s []) = [s] := by rw [zaZ, zcW, if_neg (by decide), if_pos rfl]
 rw [hb] at hr hk
 refine Ev.exp (e := .mk 1 0 0 s []) (own := 7) (q := p + 1) ?_ hk
 obtain ⟨_, t, ht, t1, t2, t3⟩ := hr.head
 have hi : ∀ v, zbr v = false → isB l p v = false := fun v hv => by
  rw [hr.isB]
  exact decide_eq_false fun h => by rw [← h, hn] at hv; cases hv
 have hkd : t.kind = 1 := by
  rw [t2]
  cases s with
  | nil => simp [zbr, ze9] at hn
  | cons c r =>
   simp only [zbr, ze9, Bool.and_eq_true] at hn
   rw [zfK, if_pos hn.1.1.1]
 refine Ev.zsd ?_ fun f => ?_
 ·refine Ev.of fun f => ?_
  rw [zaJ, ht]
  simp only [hi _ (show zbr [116, 114, 117, 101] = false by decide), hi _ (show zbr [102, 97, 108, 115, 101] = false by decide), hi _ (show zbr [109, 105, 110] = false by decide), hi _ (show zbr [109, 97, 120] = false by decide), hi _ (show zbr [40] = false by decide), hkd, t1, hn]
  simp
 ·rw [zaV, hi _ (show zbr [105, 102] = false by decide), hi _ (show zbr [110, 111, 116] = false by decide)]; simp
end Go.Proofs.YthnemhfamhnfjaaGreatDoor
namespace Go.Proofs.YthnemhfamhnfjaaGreatDoor
open Go Go.VL
theorem zq9 {l : List Tok} {a b c : Exp} (ha : znr l a) (hb : znr l b) (hc : znr l c) : zrs l (.mk 13 0 0 [] [a, b, c]) := by
 intro form p r h0 h1 hr hu hf hk
 have hF : zb7 (Exp.mk 13 0 0 [] [a, b, c]).op = 0 := rfl
 rw [hF] at hk h1 hf
 obtain rfl : form = 0 := by omega
 have hw : zaZ (.mk 13 0 0 [] [a, b, c]) = [105, 102] :: (zaK a 0 ++ [116, 104, 101, 110] :: (zaK b 0 ++ [101, 108, 115, 101] :: zaK c 0)) := by
  rw [zaZ, zcW, if_neg (by decide), if_neg (by decide), if_pos rfl, zbM (a := a) rfl, zbM (a := b) rfl, zbM (a := c) rfl]
  simp
 rw [hw] at hr hk hu hf
 have r0 := hr.tail
 have r1 := r0.right
 have r2 := r1.tail
 have r3 := r2.right
 have r4 := r3.tail
 have hlen : p + ([105, 102] :: (zaK a 0 ++ [116, 104, 101, 110] :: (zaK b 0 ++ [101, 108, 115, 101] :: zaK c 0))).length = p + 1 + (zaK a 0).length + 1 + (zaK b 0).length + 1 + (zaK c 0).length := by simp; omega
 rw [hlen] at hk hu hf
 have hno : ∀ x, zfa l (p + 1 + (zaK a 0).length + 1 + (zaK b 0).length + 1 + (zaK c 0).length) = some x → x.form < 0 := fun x hx => by
  have h1 := hf x hx
  have h2 := zfD (List.mem_of_find?_eq_some hx)
  omega
 refine Ev.exp (e := .mk 13 0 0 [] [a, b, c]) (own := 0) ?_ hk
 refine Ev.succ ?_
 have e1 : ∀ f, zaV l (f + 1) p 0 = (zcC l f (p + 1) 0).bind fun a q1 => (zbj l q1 [[116, 104, 101, 110]]).bind fun _ q2 => (zcC l f q2 0).bind fun b q3 =>
   (zbj l q3 [[101, 108, 115, 101]]).bind fun _ q4 => (zcC l f q4 0).bind fun c q5 => .ok (.mk 13 0 0 [] [a, b, c], 0) q5 := fun f => by
  rw [zaV, hr.isB]; simp
 simp only [e1]
 refine Ev.bind (zgQ ha (by decide) (by decide) r0 (by decide) (by decide) (by decide) rfl) ?_
 rw [r1.want]
 simp only [PR.zav]
 refine Ev.bind (zgQ hb (by decide) (by decide) r2 (by decide) (by decide) (by decide) rfl) ?_
 rw [r3.want]
 simp only [PR.zav]
 exact Ev.bind (zkA hc (by decide) (by decide) r4 hu hno) Ev.const
theorem zqe {l : List Tok} {a : Exp} (ha : znr l a) : zrs l (.mk 12 0 0 [] [a]) := by
 intro form p r h0 h1 hr hu hf hk
 have hF : zb7 (Exp.mk 12 0 0 [] [a]).op = 3 := rfl
 rw [hF] at hk h1 hf
 have hw : zaZ (.mk 12 0 0 [] [a]) = [110, 111, 116] :: zaK a 3 := by
  rw [zaZ, zcW, if_neg (by decide), if_neg (by decide), if_neg (by decide), if_pos rfl, zbM (a := a) rfl]
 rw [hw] at hr hk hu hf
 have r0 := hr.tail
 have hlen : p + ([110, 111, 116] :: zaK a 3).length = p + 1 + (zaK a 3).length := by simp; omega
 rw [hlen] at hk hu hf
 have hno : ∀ x, zfa l (p + 1 + (zaK a 3).length) = some x → x.form < 3 := fun x hx => by
  have h1 := hf x hx
  have h2 := zfD (List.mem_of_find?_eq_some hx)
  omega
 refine Ev.exp (e := .mk 12 0 0 [] [a]) (own := 3) ?_ hk
 refine Ev.succ ?_
 have e1 : ∀ f, zaV l (f + 1) p form = (zcC l f (p + 1) 3).bind fun a q => .ok (.mk 12 0 0 [] [a], 3) q := fun f => by
  rw [zaV, hr.isB, hr.isB]; simp [h1]
 simp only [e1]
 exact Ev.bind (zkA ha (by decide) (by decide) r0 hu hno) Ev.const
theorem zmo {l : List Tok} {a b : Exp} {op : Int} {w : W8} (hop : op = 6 ∧ w = [109, 105, 110] ∨ op = 7 ∧ w = [109, 97, 120]) (ha : znr l a) (hb : znr l b) : zrs l (.mk op 0 0 [] [a, b]) := by
 intro form p r h0 h1 hr hu hf hk
 have hF : zb7 (Exp.mk op 0 0 [] [a, b]).op = 7 := by rcases hop with ⟨rfl, rfl⟩ | ⟨rfl, rfl⟩ <;> rfl
 rw [hF] at hk h1 hf
 have hw : zaZ (.mk op 0 0 [] [a, b]) = w :: [40] :: (zaK a 0 ++ [44] :: (zaK b 0 ++ [[41]])) := by
  rcases hop with ⟨rfl, rfl⟩ | ⟨rfl, rfl⟩
  ·rw [zaZ, zcW, if_neg (by decide), if_neg (by decide), if_neg (by decide), if_neg (by decide), if_pos rfl, zbM (a := a) rfl, zbM (a := b) rfl]; simp
  ·rw [zaZ, zcW, if_neg (by decide), if_neg (by decide), if_neg (by decide), if_neg (by decide), if_neg (by decide), if_pos rfl, zbM (a := a) rfl, zbM (a := b) rfl]; simp
 rw [hw] at hr hk hu hf
 have rp := hr.tail
 have r0 := rp.tail
 have r1 := r0.right
 have r2 := r1.tail
 have r3 := r2.right
 have hlen : p + (w :: [40] :: (zaK a 0 ++ [44] :: (zaK b 0 ++ [[41]]))).length = p + 1 + 1 + (zaK a 0).length + 1 + (zaK b 0).length + 1 := by simp; omega
 rw [hlen] at hk
 obtain ⟨_, t, ht, t1, t2, t3⟩ := hr.head
 refine Ev.exp (e := .mk op 0 0 [] [a, b]) (own := 7) ?_ hk
 refine Ev.zsd ?_ fun f => ?_
 ·have e1 : ∀ f, zaJ l (f + 1) p = (zbj l (p + 1) [[40]]).bind fun _ q1 => (zcC l f q1 0).bind fun a q2 => (zbj l q2 [[44]]).bind fun _ q3 => (zcC l f q3 0).bind fun b q4 =>
    (zbj l q4 [[41]]).bind fun _ q5 => .ok (.mk op 0 0 [] [a, b]) q5 := fun f => by
   rw [zaJ, ht]
   rcases hop with ⟨rfl, rfl⟩ | ⟨rfl, rfl⟩
   ·have : t.kind = 1 := by rw [t2]; decide
    simp [this, hr.isB]
   ·have : t.kind = 1 := by rw [t2]; decide
    simp [this, hr.isB]
  simp only [e1]
  rw [rp.want]
  simp only [PR.zav]
  refine Ev.bind (zgQ ha (by decide) (by decide) r0 (by decide) (by decide) (by decide) rfl) ?_
  rw [r1.want]
  simp only [PR.zav]
  refine Ev.bind (zgQ hb (by decide) (by decide) r2 (by decide) (by decide) (by decide) rfl) ?_
  rw [r3.want]
  simp only [PR.zav]
  exact Ev.const
 ·rw [zaV, hr.isB, hr.isB]
  rcases hop with ⟨rfl, rfl⟩ | ⟨rfl, rfl⟩ <;> simp
theorem zqc {l : List Tok} {a b : Exp} {o : Opr} (ho : o ∈ oprs) (ha : znr l a) (hb : znr l b) : zrs l (.mk o.op 0 0 [] [a, b]) := by
 intro form p r h0 h1 hr hu hf hk
 obtain ⟨g1, g2, g3⟩ := zfD ho
 have hfind : oprs.find? (fun x => decide (x.op = o.op)) = some o := by
  simp only [oprs, List.mem_cons, List.mem_nil_iff, or_false] at ho
  rcases ho with rfl | rfl | rfl | rfl | rfl | rfl | rfl | rfl <;> rfl
 have hne : o.op ≠ 0 ∧ o.op ≠ 1 ∧ o.op ≠ 13 ∧ o.op ≠ 12 ∧ o.op ≠ 6 ∧ o.op ≠ 7 := by
  have ho := ho
  simp only [oprs, List.mem_cons, List.mem_nil_iff, or_false] at ho
  rcases ho with rfl | rfl | rfl | rfl | rfl | rfl | rfl | rfl <;> decide
 obtain ⟨n0, n1, n13, n12, n6, n7⟩ := hne
 have hF : zb7 (Exp.mk o.op 0 0 [] [a, b]).op = o.form := by
  show zb7 o.op = o.form
  rw [zb7, if_neg n13, if_neg n12, hfind]
 rw [hF] at hk h1 hf
 have hw : zaZ (.mk o.op 0 0 [] [a, b]) = zaK a (if o.form = 4 then 5 else o.form) ++ o.text :: zaK b (o.form + 1) := by
  rw [zaZ, zcW, if_neg n0, if_neg n1, if_neg n13, if_neg n12, if_neg n6, if_neg n7, hfind]
  simp only
  rw [zbM (a := a) rfl, zbM (a := b) rfl]
 rw [hw] at hr hk hu hf
 generalize hle : (if o.form = 4 then 5 else o.form) = lf at hr hk hu hf
 have hlf : o.form ≤ lf ∧ lf ≤ 6 ∧ (o.form = 4 → lf = 5) := by
  rw [← hle]; split <;> omega
 have r1 := hr.right
 have r2 := r1.tail
 have hlen : p + (zaK a lf ++ o.text :: zaK b (o.form + 1)).length = p + (zaK a lf).length + 1 + (zaK b (o.form + 1)).length := by simp; omega
 rw [hlen] at hk hu hf
 have hop : zfa l (p + (zaK a lf).length) = some o := by rw [r1.opr, zpr ho]
 have hown := zqv (e := a) (least := lf) (by omega)
 obtain ⟨p1, p2, p3⟩ := znW ho
 refine ha lf form p r h0 (by omega) (by omega) hr.left (r1.noUnit p1 p2 p3) (fun x hx => ?_) ?_
 ·rw [hop] at hx
  cases hx
  omega
 ·refine Ev.succ ?_
  have e1 : ∀ f, zcK l (f + 1) form a (zpq a lf) (p + (zaK a lf).length) = (zcC l f (p + (zaK a lf).length + 1) (o.form + 1)).bind fun e2 r => zcK l f form (.mk o.op 0 0 [] [a, e2]) o.form r := fun f => by
   rw [zcK, hop]
   simp only
   rw [if_neg]
   simp only [not_or, not_and]
   exact ⟨by omega, by omega, fun h4 h5 => by have := hlf.2.2 h5; omega⟩
  simp only [e1]
  exact Ev.bind (F := fun f e2 r => zcK l f form (.mk o.op 0 0 [] [a, e2]) o.form r) (zkA hb (by omega) (by omega) r2 hu fun x hx => by have := hf x hx; omega) hk
end Go.Proofs.YthnemhfamhnfjaaGreatDoor
namespace Go.Proofs.YthnemhfamhnfjaaGreatDoor
open Go Go.VL
theorem zlb {α} {l : List α} (h : l.length = 1) : ∃ a, l = [a] := by
 match l, h with | [a], _ => exact ⟨a, rfl⟩
theorem zla {α} {l : List α} (h : l.length = 2) : ∃ a b, l = [a, b] := by
 match l, h with | [a, b], _ => exact ⟨a, b, rfl⟩
theorem zk9 {α} {l : List α} (h : l.length = 3) : ∃ a b c, l = [a, b, c] := by
 match l, h with | [a, b, c], _ => exact ⟨a, b, c, rfl⟩
/-- The shapes of a right expression. -/
theorem zch {d : Nat} {op n u : Int} {s : W8} {args : List Exp} (h : zaA (d + 1) (.mk op n u s args) = true) :
  (op = 0 ∧ s = [] ∧ args = [] ∧ zlE (.mk 0 n u [] []) = true) ∨ (op = 1 ∧ n = 0 ∧ u = 0 ∧ args = [] ∧ zbr s = true) ∨
  (n = 0 ∧ u = 0 ∧ s = [] ∧ (∀ x ∈ args, zaA d x = true) ∧ ((op = 12 ∧ args.length = 1) ∨ (op = 13 ∧ args.length = 3) ∨ (op ≠ 0 ∧ op ≠ 1 ∧ op ≠ 12 ∧ op ≠ 13 ∧ 0 ≤ op ∧ op < 14 ∧ args.length = 2))) := by
 have h2 : (decide ((args.length : Int) = zb2 op) && (if op = 0 then zlE (.mk op n u s args) else if n ≠ 0 ∨ u ≠ 0 then false else if op = 1 then zbr s else decide (s = []) && !args.any (fun x => !zaA d x))) = true := h
 rw [Bool.and_eq_true, decide_eq_true_eq] at h2
 obtain ⟨h1, h2⟩ := h2
 by_cases h0 : op = 0
 ·subst h0
  rw [if_pos rfl] at h2
  have hs : s = [] := by
   have h3 : (decide (s = []) && decide (0 ≤ u) && decide (u < 5) && decide (0 ≤ n) && decide (n ≤ if u = 0 then 1 else 1099511627776)) = true := h2
   simp only [Bool.and_eq_true, decide_eq_true_eq] at h3
   exact h3.1.1.1.1
  have ha : args = [] := by
   have : zb2 0 = 0 := by decide
   rw [this] at h1
   exact List.eq_nil_of_length_eq_zero (by omega)
  subst hs; subst ha
  exact .inl ⟨rfl, rfl, rfl, h2⟩
 ·rw [if_neg h0] at h2
  by_cases hnu : n ≠ 0 ∨ u ≠ 0
  ·rw [if_pos hnu] at h2; cases h2
  ·rw [if_neg hnu] at h2
   have hn : n = 0 := by omega
   have hu : u = 0 := by omega
   by_cases h1' : op = 1
   ·rw [if_pos h1'] at h2
    subst h1'
    have : zb2 1 = 0 := by decide
    rw [this] at h1
    exact .inr (.inl ⟨rfl, hn, hu, List.eq_nil_of_length_eq_zero (by omega), h2⟩)
   ·rw [if_neg h1', Bool.and_eq_true, decide_eq_true_eq] at h2
    refine .inr (.inr ⟨hn, hu, h2.1, fun x hx => ?_, ?_⟩)
    ·have h3 := h2.2
     rw [Bool.not_eq_true', List.any_eq_false] at h3
     simpa using h3 x hx
    ·unfold zb2 at h1
     rw [if_neg (by omega)] at h1
     by_cases h12 : op = 12
     ·rw [if_pos h12] at h1; exact .inl ⟨h12, by omega⟩
     ·rw [if_neg h12] at h1
      by_cases h13 : op = 13
      ·rw [if_pos h13] at h1; exact .inr (.inl ⟨h13, by omega⟩)
      ·rw [if_neg h13] at h1
       by_cases hr : op < 0 ∨ 14 ≤ op
       ·rw [if_pos hr] at h1; omega
       ·rw [if_neg hr] at h1
        exact .inr (.inr ⟨h0, h1', h12, h13, by omega, by omega, by omega⟩)
theorem zg9 {op : Int} (h0 : 2 ≤ op) (h1 : op < 12) (h6 : op ≠ 6) (h7 : op ≠ 7) : ∃ o ∈ oprs, o.op = op := by
 have : op = 2 ∨ op = 3 ∨ op = 4 ∨ op = 5 ∨ op = 8 ∨ op = 9 ∨ op = 10 ∨ op = 11 := by omega
 rcases this with rfl | rfl | rfl | rfl | rfl | rfl | rfl | rfl <;> simp [oprs]
theorem zlK (l : List Tok) : ∀ (d : Nat) (e : Exp), zaA d e = true → znr l e
 | 0, e, h => by rw [zaA] at h; cases h
 | d + 1, .mk op n u s args, h => by
  refine zj1 ?_
  rcases zch h with ⟨rfl, rfl, rfl, hn⟩ | ⟨rfl, rfl, rfl, rfl, hn⟩ | ⟨rfl, rfl, rfl, ha, h3⟩
  ·exact zqd hn
  ·exact zoZ hn
  ·have hm : ∀ x ∈ args, znr l x := fun x hx => zlK l d x (ha x hx)
   rcases h3 with ⟨rfl, hl⟩ | ⟨rfl, hl⟩ | ⟨g0, g1, g12, g13, g2, g3, hl⟩
   ·obtain ⟨a, rfl⟩ := zlb hl
    exact zqe (hm a (by simp))
   ·obtain ⟨a, b, c, rfl⟩ := zk9 hl
    exact zq9 (hm a (by simp)) (hm b (by simp)) (hm c (by simp))
   ·obtain ⟨a, b, rfl⟩ := zla hl
    by_cases h6 : op = 6
    ·exact zmo (.inl ⟨h6, rfl⟩) (hm a (by simp)) (hm b (by simp))
    ·by_cases h7 : op = 7
     ·exact zmo (.inr ⟨h7, rfl⟩) (hm a (by simp)) (hm b (by simp))
     ·obtain ⟨o, ho, rfl⟩ := zg9 (op := op) (by omega) (by omega) h6 h7
      exact zqc ho (hm a (by simp)) (hm b (by simp))
/-- A right expression's words, with a word behind them that ends it, are parsed to it. -/
theorem zmc {l : List Tok} {d : Nat} {e : Exp} (h : zaA d e = true) {p : Nat} (hr : Reads l p (zaK e 0)) (hu : zkH l (p + (zaK e 0).length)) (ho : zfa l (p + (zaK e 0).length) = none) :
  Ev (fun f => zcC l f p 0) (.ok e (p + (zaK e 0).length)) :=
 zkA (zlK l d e h) (by decide) (by decide) hr hu fun x hx => by rw [ho] at hx; cases hx
end Go.Proofs.YthnemhfamhnfjaaGreatDoor
namespace Go.Proofs.YthnemhfamhnfjaaGreatDoor
open Go Go.VL
/-- What stands behind a word: nothing, or a blank. -/
def zr4 (r : W8) : Prop := ∀ c t, r = c :: t → zaT c = true
structure GoodW (w : W8) : Prop where
 next : ∀ r, zr4 r → zeu (w ++ r) = .ok ⟨zfK w, w, zqx w, 0⟩
 ne : w ≠ []
 head : ∀ c t, w = c :: t → zaT c = false
theorem zdc {p : UInt8 → Bool} {a r : W8} (ha : ∀ c ∈ a, p c = true) (hr : ∀ c t, r = c :: t → p c = false) : (a ++ r).takeWhile p = a := by
 induction a with
 | nil =>
  cases r with
  | nil => rfl
  | cons c t => rw [List.nil_append, List.takeWhile_cons, hr c t rfl]; rfl
 | cons c a ih => rw [List.cons_append, List.takeWhile_cons, ha c (by simp), if_pos rfl, ih fun x hx => ha x (by simp [hx])]
theorem zmn {c : UInt8} (h : zaT c = true) : zbm c = false ∧ zaN c = false := by
 simp only [zaT, zbm, zaN, Bool.or_eq_true, Bool.and_eq_false_iff, decide_eq_true_eq, decide_eq_false_iff_not] at h ⊢
 omega
theorem zj6 {c : UInt8} (h : zbm c = true) : zaT c = false ∧ zaN c = false := by
 simp only [zaT, zbm, zaN, Bool.and_eq_true, Bool.or_eq_false_iff, Bool.and_eq_false_iff, decide_eq_true_eq, decide_eq_false_iff_not] at h ⊢
 omega
theorem zgP {c : UInt8} (h : zaN c = true) : zaT c = false ∧ zbm c = false := by
 simp only [zaT, zbm, zaN, Bool.and_eq_true, Bool.or_eq_false_iff, Bool.and_eq_false_iff, decide_eq_true_eq, decide_eq_false_iff_not] at h ⊢
 omega
theorem zaF {w : W8} (h : ze9 w = true) : GoodW w := by
 cases w with
 | nil => simp [ze9] at h
 | cons c s =>
  have h0 := h
  simp only [ze9, Bool.and_eq_true, decide_eq_true_eq] at h
  obtain ⟨⟨hc, hlen⟩, hsp⟩ := h
  have hall : ∀ x ∈ c :: s, zb6 x = true := by
   have h3 : (c :: s).takeWhile (fun c => zbm c || zaN c) = c :: s := (List.takeWhile_sublist _).eq_of_length hsp
   intro x hx
   rw [← h3] at hx
   exact List.all_eq_true.1 (List.all_takeWhile (l := c :: s) (p := fun c => zbm c || zaN c)) x hx
  refine ⟨fun r hr => ?_, by simp, fun x t he => by cases he; exact (zj6 hc).1⟩
  have htw : ((c :: s) ++ r).takeWhile zb6 = c :: s := zdc hall fun x t he => by
   have := zmn (hr x t he)
   simp [zb6, this]
  have htk : ((c :: s) ++ r).take (zbn zb6 ((c :: s) ++ r)) = c :: s := by rw [zbn, htw]; simp
  have hkn : zfK (c :: s) = 1 := by rw [zfK, if_pos hc]
  rw [List.cons_append] at htk ⊢
  rw [zeu, if_pos hc, htk, h0, if_pos rfl, hkn, zqx, hkn]
  rfl
theorem zl5 {n : Int} (h0 : 0 ≤ n) (h1 : n ≤ 1099511627776) : GoodW (Lib.itoa n) := by
 obtain ⟨k1, k2, k3⟩ := zgL h0 h1
 have hall : ∀ x ∈ Lib.itoa n, zaN x = true := by
  have hi : Lib.itoa n = Lib.decDigits n.toNat := by rw [Lib.itoa, if_neg (by omega)]
  rw [hi]; exact zeV _
 generalize Lib.itoa n = w at k1 k2 k3 hall
 cases w with
 | nil => exact absurd rfl k3
 | cons c s =>
  have hc := hall c (by simp)
  refine ⟨fun r hr => ?_, by simp, fun x t he => by cases he; exact (zgP hc).1⟩
  have htw : ((c :: s) ++ r).takeWhile zaN = c :: s := zdc hall fun x t he => (zmn (hr x t he)).2
  have htk : ((c :: s) ++ r).take (zbn zaN ((c :: s) ++ r)) = c :: s := by rw [zbn, htw]; simp
  rw [List.cons_append] at htk ⊢
  rw [zeu, (zgP hc).2, if_neg (by simp), if_pos hc, htk, k2, k1, zqx, k1, k2]
  rfl
theorem zeg {w : W8} (h : w ∈ signsL) : GoodW w := by
 simp only [signsL, List.mem_cons, List.mem_nil_iff, or_false] at h
 refine ⟨fun r hr => ?_, by rcases h with rfl | rfl | rfl | rfl | rfl | rfl | rfl | rfl | rfl | rfl | rfl <;> simp, fun c t he => by
  rcases h with rfl | rfl | rfl | rfl | rfl | rfl | rfl | rfl | rfl | rfl | rfl <;> cases he <;> decide⟩
 cases r with
 | nil => rcases h with rfl | rfl | rfl | rfl | rfl | rfl | rfl | rfl | rfl | rfl | rfl <;> rfl
 | cons c t =>
  have hb := hr c t rfl
  have hne : ¬ (61 : UInt8) = c := fun e => by subst e; simp [zaT] at hb
  rcases h with rfl | rfl | rfl | rfl | rfl | rfl | rfl | rfl | rfl | rfl | rfl <;>
   simp [zeu, zbm, zaN, signsL, List.find?, List.isPrefixOf, zfK, zqx, hne]
def zbi : List (W8 × W8) → W8
 | [] => []
 | x :: l => x.1 ++ (x.2 ++ zbi l)
/-- Words, each with what stands behind it: blanks; behind the last one maybe nothing. -/
def Spaced : List (W8 × W8) → Prop
 | [] => True
 | [x] => GoodW x.1 ∧ ∀ c ∈ x.2, zaT c = true
 | x :: y :: l => GoodW x.1 ∧ (∀ c ∈ x.2, zaT c = true) ∧ x.2 ≠ [] ∧ Spaced (y :: l)
theorem Spaced.good {x : W8 × W8} {l : List (W8 × W8)} (h : Spaced (x :: l)) : GoodW x.1 ∧ (∀ c ∈ x.2, zaT c = true) ∧ (l ≠ [] → x.2 ≠ []) ∧ Spaced l := by
 cases l with
 | nil => exact ⟨h.1, h.2, fun h => absurd rfl h, trivial⟩
 | cons y l => exact ⟨h.1, h.2.1, fun _ => h.2.2.1, h.2.2.2⟩
theorem zoI {l : List (W8 × W8)} (h : Spaced l) : ∀ c t, zbi l = c :: t → zaT c = false := by
 cases l with
 | nil => intro c t he; cases he
 | cons x l =>
  intro c t he
  have hg := h.good.1
  rw [zbi] at he
  cases hx : x.1 with
  | nil => exact absurd hx hg.ne
  | cons a r =>
   rw [hx] at he
   cases he
   exact hg.head _ _ hx
theorem zh7 : ∀ (l : List (W8 × W8)) (f : Nat) (s : W8) (p : Nat) (lead : W8), Spaced l → (∀ c ∈ lead, zaT c = true) → s.drop p = lead ++ zbi l → l.length < f →
  ∃ ts, zhG f s p = .ok ts ∧ ts.length = l.length + 1 ∧ Reads ts 0 (l.map (·.1)) ∧ ∃ t, ts[l.length]? = some t ∧ t.kind = 0
 | l, 0, _, _, _, _, _, _, hf => by omega
 | [], f + 1, s, p, lead, hs, hl, hd, hf => by
  have hsp : zbn zaT (s.drop p) = lead.length := by rw [hd, zbn, zbi, zdc hl fun c t he => by cases he]
  have hdr : s.drop (p + zbn zaT (s.drop p)) = [] := by rw [hsp, ← List.drop_drop, hd, zbi]; simp
  rw [zhG, hdr]
  refine ⟨_, rfl, rfl, fun i w hi => by simp at hi, _, rfl, rfl⟩
 | x :: l, f + 1, s, p, lead, hs, hl, hd, hf => by
  obtain ⟨hg, hb, hne, hs2⟩ := hs.good
  have hsp : zbn zaT (s.drop p) = lead.length := by rw [hd, zbn, zdc hl (zoI hs)]
  have hdr : s.drop (p + lead.length) = x.1 ++ (x.2 ++ zbi l) := by rw [← List.drop_drop, hd, zbi]; simp
  have hend : zr4 (x.2 ++ zbi l) := fun c t he => by
   cases hx : x.2 with
   | nil =>
    have : l = [] := by
     cases l with
     | nil => rfl
     | cons y l => exact absurd hx (hne (by simp))
    subst this
    rw [hx] at he
    cases he
   | cons a r =>
    rw [hx] at he
    cases he
    exact hb _ (by rw [hx]; simp)
  have hn := hg.next _ hend
  have hd2 : s.drop (p + lead.length + x.1.length) = x.2 ++ zbi l := by rw [← List.drop_drop, hdr]; simp
  obtain ⟨ts, h1, h2, h3, t, h4, h5⟩ := zh7 l f s (p + lead.length + x.1.length) x.2 hs2 hb hd2 (by simp at hf; omega)
  rw [zhG, hsp]
  cases hw : x.1 ++ (x.2 ++ zbi l) with
  | nil =>
   have := hg.ne
   simp at hw
   exact absurd hw.1 this
  | cons c r =>
   rw [hdr, hw]
   rw [hw] at hn
   simp only [hn, h1]
   refine ⟨_, rfl, by simp [h2], fun i w hi => ?_, t, by simpa using h4, h5⟩
   cases i with
   | zero =>
    simp only [List.map_cons, List.getElem?_cons_zero, Option.some.injEq] at hi
    subst hi
    exact ⟨hg.ne, _, rfl, rfl, rfl, rfl⟩
   | succ i =>
    simp only [List.map_cons, List.getElem?_cons_succ] at hi
    obtain ⟨q1, t', q2, q3⟩ := h3 i w hi
    rw [Nat.zero_add] at q2 ⊢
    exact ⟨q1, t', by simpa using q2, q3⟩
theorem zgN : ∀ l : List (W8 × W8), Spaced l → l.length ≤ (zbi l).length
 | [], _ => Nat.le_refl _
 | x :: l, h => by
  obtain ⟨hg, hb, hne, hs2⟩ := h.good
  have := zgN l hs2
  have h1 := List.length_pos_iff.2 hg.ne
  simp [zbi]
  omega
/-- THE TOKENS OF A TEXT of words with blanks between them. -/
theorem zh6 {l : List (W8 × W8)} (h : Spaced l) (hlen : (zbi l).length ≤ 2000) : ∃ ts, zgs (zbi l) = .ok ts ∧ ts.length = l.length + 1 ∧ Reads ts 0 (l.map (·.1)) ∧ ∃ t, ts[l.length]? = some t ∧ t.kind = 0 := by
 rw [zgs, if_neg (by omega)]
 have := zgN l h
 exact zh7 l _ (zbi l) 0 [] h (by simp) (by simp) (by omega)
end Go.Proofs.YthnemhfamhnfjaaGreatDoor
namespace Go.Proofs.YthnemhfamhnfjaaGreatDoor
open Go Go.VL
theorem PR.zcq {α β : Type} {r : PR α} {F G : α → Nat → PR β} (h : ∀ a q, r = .ok a q → F a q = G a q) : r.bind F = r.bind G := by
 cases r with
 | ok a q => exact h a q rfl
 | stop => rfl
theorem zl7 {l : List Tok} (hl : TokOK l) : ∀ (f : Nat),
  (∀ p form, p < l.length → 4 * (l.length - p) + 3 ≤ f → zcC l (f + 1) p form = zcC l f p form) ∧
  (∀ p form e own, p < l.length → 4 * (l.length - p) + 2 ≤ f → zcK l (f + 1) form e own p = zcK l f form e own p) ∧
  (∀ p form, p < l.length → 4 * (l.length - p) + 2 ≤ f → zaV l (f + 1) p form = zaV l f p form) ∧
  (∀ p, p < l.length → 4 * (l.length - p) + 1 ≤ f → zaJ l (f + 1) p = zaJ l f p)
 | 0 => ⟨fun _ _ _ h => by omega, fun _ _ _ _ _ h => by omega, fun _ _ _ h => by omega, fun _ _ h => by omega⟩
 | f + 1 => by
  obtain ⟨he, hlo, hpr, hpm⟩ := zl7 hl f
  obtain ⟨le, llo, lpr, lpm⟩ := zbJ hl f
  refine ⟨fun p form hp hf => ?_, fun p form e own hp hf => ?_, fun p form hp hf => ?_, fun p hp hf => ?_⟩
  ·simp only [zcC]
   rw [hpr p form hp (by omega)]
   refine PR.zcq fun a q hq => ?_
   have g := lpr _ _ _ _ hq hp
   exact hlo _ _ _ _ g.2 (by omega)
  ·rw [zcK, zcK]
   split
   ·rfl
   ·rename_i x hx
    have hb := List.find?_some hx
    have hp2 := za1 hl hb
    split
    ·rfl
    ·rw [he (p + 1) _ hp2 (by omega)]
     refine PR.zcq fun a q hq => ?_
     have g := le _ _ _ _ hq hp2
     exact hlo _ _ _ _ g.2 (by omega)
  ·simp only [zaV]
   split
   ·rename_i hb
    have hp2 := za1 hl hb.2
    rw [he (p + 1) _ hp2 (by omega)]
    refine PR.zcq fun a q1 hq1 => ?_
    have g1 := le _ _ _ _ hq1 hp2
    refine PR.zcq fun _ q2 hq2 => ?_
    have g2 := zaO hl _ hq2 g1.2
    rw [he q2 _ g2.2 (by omega)]
    refine PR.zcq fun b q3 hq3 => ?_
    have g3 := le _ _ _ _ hq3 g2.2
    refine PR.zcq fun _ q4 hq4 => ?_
    have g4 := zaO hl _ hq4 g3.2
    rw [he q4 _ g4.2 (by omega)]
   ·split
    ·rename_i hb
     rw [he (p + 1) _ (za1 hl hb.2) (by omega)]
    ·rw [hpm p hp (by omega)]
  ·simp only [zaJ]
   split
   ·rfl
   ·split
    ·rfl
    ·split
     ·rfl
     ·split
      ·rfl
      ·split
       ·rename_i hb
        have hp2 : p + 1 < l.length := hb.elim (za1 hl) (za1 hl)
        refine PR.zcq fun _ q1 hq1 => ?_
        have g1 := zaO hl _ hq1 hp2
        rw [he q1 _ g1.2 (by omega)]
        refine PR.zcq fun a q2 hq2 => ?_
        have g2 := le _ _ _ _ hq2 g1.2
        refine PR.zcq fun _ q3 hq3 => ?_
        have g3 := zaO hl _ hq3 g2.2
        rw [he q3 _ g3.2 (by omega)]
       ·split
        ·rename_i hb
         rw [he (p + 1) _ (za1 hl hb) (by omega)]
        ·rfl
theorem zkj {l : List Tok} (hl : TokOK l) {p f : Nat} {form : Int} (hp : p < l.length) (hf : 4 * (l.length - p) + 3 ≤ f) : ∀ g, zcC l (f + g) p form = zcC l f p form
 | 0 => rfl
 | g + 1 => by rw [← nAA, (zl7 hl (f + g)).1 p form hp (by omega), zkj hl hp hf g]
theorem Ev.fuel {l : List Tok} (hl : TokOK l) {p f : Nat} {form : Int} {r : PR Exp} (h : Ev (fun f => zcC l f p form) r) (hp : p < l.length) (hf : 4 * (l.length - p) + 3 ≤ f) : zcC l f p form = r := by
 obtain ⟨f0, h⟩ := h
 rw [← zkj hl hp hf f0]
 exact h (f + f0) (by omega)
end Go.Proofs.YthnemhfamhnfjaaGreatDoor
namespace Go.Proofs.YthnemhfamhnfjaaGreatDoor
open Go Go.VL
theorem zhx {a b c : Exp} : zaZ (.mk 13 0 0 [] [a, b, c]) = [105, 102] :: (zaK a 0 ++ [116, 104, 101, 110] :: (zaK b 0 ++ [101, 108, 115, 101] :: zaK c 0)) := by
 rw [zaZ, zcW, if_neg (by decide), if_neg (by decide), if_pos rfl, zbM (a := a) rfl, zbM (a := b) rfl, zbM (a := c) rfl]
 simp
theorem zfX {a : Exp} : zaZ (.mk 12 0 0 [] [a]) = [110, 111, 116] :: zaK a 3 := by
 rw [zaZ, zcW, if_neg (by decide), if_neg (by decide), if_neg (by decide), if_pos rfl, zbM (a := a) rfl]
theorem zfY {a b : Exp} : zaZ (.mk 6 0 0 [] [a, b]) = [109, 105, 110] :: [40] :: (zaK a 0 ++ [44] :: (zaK b 0 ++ [[41]])) := by
 rw [zaZ, zcW, if_neg (by decide), if_neg (by decide), if_neg (by decide), if_neg (by decide), if_pos rfl, zbM (a := a) rfl, zbM (a := b) rfl]; simp
theorem zfZ {a b : Exp} : zaZ (.mk 7 0 0 [] [a, b]) = [109, 97, 120] :: [40] :: (zaK a 0 ++ [44] :: (zaK b 0 ++ [[41]])) := by
 rw [zaZ, zcW, if_neg (by decide), if_neg (by decide), if_neg (by decide), if_neg (by decide), if_neg (by decide), if_pos rfl, zbM (a := a) rfl, zbM (a := b) rfl]; simp
theorem zfW {a b : Exp} {o : Opr} (ho : o ∈ oprs) : zaZ (.mk o.op 0 0 [] [a, b]) = zaK a (if o.form = 4 then 5 else o.form) ++ o.text :: zaK b (o.form + 1) := by
 have hfind : oprs.find? (fun x => decide (x.op = o.op)) = some o := by
  simp only [oprs, List.mem_cons, List.mem_nil_iff, or_false] at ho
  rcases ho with rfl | rfl | rfl | rfl | rfl | rfl | rfl | rfl <;> rfl
 have hne : o.op ≠ 0 ∧ o.op ≠ 1 ∧ o.op ≠ 13 ∧ o.op ≠ 12 ∧ o.op ≠ 6 ∧ o.op ≠ 7 := by
  simp only [oprs, List.mem_cons, List.mem_nil_iff, or_false] at ho
  rcases ho with rfl | rfl | rfl | rfl | rfl | rfl | rfl | rfl <;> decide
 obtain ⟨n0, n1, n13, n12, n6, n7⟩ := hne
 rw [zaZ, zcW, if_neg n0, if_neg n1, if_neg n13, if_neg n12, if_neg n6, if_neg n7, hfind]
 simp only
 rw [zbM (a := a) rfl, zbM (a := b) rfl]
theorem zpt {o : Opr} (ho : o ∈ oprs) : GoodW o.text := by
 simp only [oprs, List.mem_cons, List.mem_nil_iff, or_false] at ho
 rcases ho with rfl | rfl | rfl | rfl | rfl | rfl | rfl | rfl
 ·exact zaF (by decide)
 ·exact zaF (by decide)
 all_goals exact zeg (by decide)
def AllGood (ws : List W8) : Prop := ∀ w ∈ ws, GoodW w
theorem AllGood.nil : AllGood [] := fun _ h => by cases h
theorem AllGood.cons {w : W8} {ws : List W8} (h : GoodW w) (h2 : AllGood ws) : AllGood (w :: ws) := fun x hx => by
 rcases List.mem_cons.1 hx with rfl | hx
 ·exact h
 ·exact h2 x hx
theorem AllGood.app {a b : List W8} (h : AllGood a) (h2 : AllGood b) : AllGood (a ++ b) := fun x hx => by
 rcases List.mem_append.1 hx with hx | hx
 ·exact h x hx
 ·exact h2 x hx
theorem zbA : GoodW [40] ∧ GoodW [41] ∧ GoodW [44] ∧ GoodW [59] ∧ GoodW [61] := ⟨zeg (by decide), zeg (by decide), zeg (by decide), zeg (by decide), zeg (by decide)⟩
theorem znZ {e : Exp} (h : AllGood (zaZ e)) (least : Int) : AllGood (zaK e least) := by
 rw [zaK, zpa]
 split
 ·exact (h.app (AllGood.cons zbA.2.1 AllGood.nil)).cons zbA.1
 ·exact h
theorem zmQ {n u : Int} (h : zlE (.mk 0 n u [] []) = true) : AllGood (zdv n u) := by
 obtain ⟨hu0, hu1, hn0, hn2, hn1⟩ := zhb h
 rw [zdv]
 split
 ·refine AllGood.cons ?_ AllGood.nil
  split <;> exact zaF (by decide)
 ·refine AllGood.cons (zl5 hn0 hn2) ?_
  split
  ·exact AllGood.cons (zaF (by decide)) AllGood.nil
  ·split
   ·exact AllGood.cons (zaF (by decide)) AllGood.nil
   ·split
    ·exact AllGood.cons (zaF (by decide)) (AllGood.cons (zaF (by decide)) AllGood.nil)
    ·exact AllGood.nil
theorem zfy : ∀ (d : Nat) (e : Exp), zaA d e = true → ∀ least, AllGood (zaK e least)
 | 0, e, h => by rw [zaA] at h; cases h
 | d + 1, .mk op n u s args, h => by
  intro least
  refine znZ ?_ least
  rcases zch h with ⟨rfl, rfl, rfl, hn⟩ | ⟨rfl, rfl, rfl, rfl, hn⟩ | ⟨rfl, rfl, rfl, ha, h3⟩
  ·have hb : zaZ (.mk 0 n u [] []) = zdv n u := by rw [zaZ, zcW, if_pos rfl]
   rw [hb]; exact zmQ hn
  ·have hb : zaZ (.mk 1 0 0 s []) = [s] := by rw [zaZ, zcW, if_neg (by decide), if_pos rfl]
   rw [hb]
   refine AllGood.cons (zaF ?_) AllGood.nil
   rw [zbr, Bool.and_eq_true] at hn
   exact hn.1
  ·have hm : ∀ x ∈ args, ∀ least, AllGood (zaK x least) := fun x hx => zfy d x (ha x hx)
   rcases h3 with ⟨rfl, hl⟩ | ⟨rfl, hl⟩ | ⟨g0, g1, g12, g13, g2, g3, hl⟩
   ·obtain ⟨a, rfl⟩ := zlb hl
    rw [zfX]
    exact (hm a (by simp) 3).cons (zaF (by decide))
   ·obtain ⟨a, b, c, rfl⟩ := zk9 hl
    rw [zhx]
    exact ((hm a (by simp) 0).app (((hm b (by simp) 0).app ((hm c (by simp) 0).cons (zaF (by decide)))).cons (zaF (by decide)))).cons (zaF (by decide))
   ·obtain ⟨a, b, rfl⟩ := zla hl
    have hab := ((hm a (by simp) 0).app (((hm b (by simp) 0).app (AllGood.cons zbA.2.1 AllGood.nil)).cons zbA.2.2.1)).cons zbA.1
    by_cases h6 : op = 6
    ·subst h6
     rw [zfY]
     exact hab.cons (zaF (by decide))
    ·by_cases h7 : op = 7
     ·subst h7
      rw [zfZ]
      exact hab.cons (zaF (by decide))
     ·obtain ⟨o, ho, rfl⟩ := zg9 (op := op) (by omega) (by omega) h6 h7
      rw [zfW ho]
      exact (hm a (by simp) _).app ((hm b (by simp) _).cons (zpt ho))
end Go.Proofs.YthnemhfamhnfjaaGreatDoor
namespace Go.Proofs.YthnemhfamhnfjaaGreatDoor
open Go Go.VL
theorem zly {l : List (W8 × W8)} {ts : List Tok} (h1 : ts.length = l.length + 1) (h2 : ∃ t, ts[l.length]? = some t ∧ t.kind = 0) (h3 : l.length ≤ 2000) : TokOK ts := by
 obtain ⟨t, ht, hk⟩ := h2
 refine ⟨fun i x hx hne => ?_, by omega⟩
 have hi := (lGE.1 hx).1
 by_cases he : i = l.length
 ·subst he
  rw [ht] at hx
  cases hx
  exact absurd hk hne
 ·omega
theorem zmf {ts : List Tok} {q : Nat} {t : Tok} (h : ts[q]? = some t) (hk : t.kind = 0) : (∀ v, isB ts q v = false) ∧ zfa ts q = none := by
 have h1 : ∀ v, isB ts q v = false := fun v => by simp [isB, h, hk]
 exact ⟨h1, by simp [zfa, h1]⟩
/-- THE TEXT OF A RIGHT EXPRESSION, with any blanks between its words, is parsed to it. -/
theorem zpS {d : Nat} {e : Exp} (h : zaA d e = true) {l : List (W8 × W8)} (hs : Spaced l) (hw : l.map (·.1) = zaK e 0) (hlen : (zbi l).length ≤ 2000) :
  ∃ ts, zgs (zbi l) = .ok ts ∧ TokOK ts ∧ zcC ts (4 * ts.length + 3) 0 0 = .ok e (zaK e 0).length ∧ ∃ t, ts[(zaK e 0).length]? = some t ∧ t.kind = 0 := by
 obtain ⟨ts, h1, h2, h3, t, h4, h5⟩ := zh6 hs hlen
 have hll := zgN l hs
 have hok := zly h2 ⟨t, h4, h5⟩ (by omega)
 have hsl : (zaK e 0).length = l.length := by rw [← hw, List.length_map]
 rw [hw] at h3
 obtain ⟨g1, g2⟩ := zmf h4 h5
 have hev := zmc h (p := 0) h3 (by rw [Nat.zero_add, hsl]; exact ⟨g1 _, g1 _, g1 _⟩) (by rw [Nat.zero_add, hsl]; exact g2)
 refine ⟨ts, h1, hok, ?_, t, by rw [hsl]; exact h4, h5⟩
 rw [Nat.zero_add] at hev
 exact hev.fuel hok (by omega) (by omega)
/-- Words with one blank between them. -/
def spW : List W8 → List (W8 × W8)
 | [] => []
 | [w] => [(w, [])]
 | w :: v :: l => (w, [32]) :: spW (v :: l)
theorem zkQ : ∀ ws : List W8, (spW ws).map (·.1) = ws
 | [] => rfl
 | [w] => rfl
 | w :: v :: l => by rw [spW, List.map_cons, zkQ (v :: l)]
/-- The text of words: with one blank between them. -/
def zbu (ws : List W8) : W8 := zbi (spW ws)
theorem zaU (w v : W8) (l : List W8) : zbu (w :: v :: l) = w ++ [32] ++ zbu (v :: l) := by simp [zbu, spW, zbi]
theorem zcP : ∀ (a b : List W8), a ≠ [] → b ≠ [] → zbu (a ++ b) = zbu a ++ [32] ++ zbu b
 | [], b, h, _ => absurd rfl h
 | [w], b, _, hb => by
  cases b with
  | nil => exact absurd rfl hb
  | cons v l => rw [List.singleton_append, zaU]; simp [zbu, spW, zbi]
 | w :: v :: l, b, _, hb => by
  have := zcP (v :: l) b (by simp) hb
  rw [List.cons_append, List.cons_append, zaU, zaU, ← List.cons_append, this]
  simp
end Go.Proofs.YthnemhfamhnfjaaGreatDoor
namespace Go.Proofs.YthnemhfamhnfjaaGreatDoor
open Go Go.VL Go.Shelf Go.RowKit
theorem zph {k : Kr} {d e : D} {vs : Array Value} (h : RepL k [d, e] vs) : ∃ v u, vs = #[v, u] ∧ Rep k d v ∧ Rep k e u := by
 obtain ⟨h1, h2⟩ := h
 have hs : vs.size = 2 := by simpa using h1
 refine ⟨vs.getD 0 undef, vs.getD 1 undef, ?_, h2 0 d rfl, h2 1 e rfl⟩
 apply Array.ext_getElem?
 intro i
 match i with
 | 0 => simp [show 0 < vs.size by omega]
 | 1 => simp [show 1 < vs.size by omega]
 | i + 2 => rw [Array.getElem?_eq_none (by omega), Array.getElem?_eq_none (by simp)]
theorem zmE {k : Kr} {rows : List (List U)} {v : Value} (h : Rep k (.u (.sl rows)) v) : (rows = [] ∧ ∃ a c, v = .slice a 0 c) ∨ ∃ (b o sz c : Nat) (f : Nat → Nat → Value), v = .slice (some ⟨b, o, none⟩) rows.length c ∧ rows.length ≤ c ∧ (∀ r ∈ rows, r.length = sz) ∧
  (∀ i, i < rows.length → ∀ j, j < sz → k.mem b (o + i * sz + j) = some (.val (f i j))) ∧ ∀ i r, rows[i]? = some r → ∀ j u, r[j]? = some u → RepU k.mem u (f i j) := by
 cases h with
 | u _ _ h => cases h with
  | slE a c _ => exact .inl ⟨rfl, a, c, rfl⟩
  | sl _ b o sz c f hc hx hsz hm hr => exact .inr ⟨b, o, sz, c, f, rfl, hc, hsz, hm, hr⟩
theorem zpO (ws : List W8) : zbu ws = Lib.join ws [32] := by
 induction ws with
 | nil => rfl
 | cons w l ih =>
  cases l with
  | nil => simp [zbu, spW, zbi, Lib.join_one]
  | cons v l => rw [zaU, ih, Lib.join_cons, Lib.join_cons]; simp [Lib.joinTail]
theorem zl1 (ws : List W8) (hlen : (zbu ws).length ≤ 140737488355328) (hN : ws.length ≤ 140737488355328) : Fun Tryz.prog 54 [.u (.sl (ws.map fun w => [.str w])), .u (.str [32])] (· = .u (.str (zbu ws))) :=
 Fun.zlu fun k own w vs hsat hrep => by
  obtain ⟨v, u, rfl, hv, hu⟩ := zph hrep
  have hu := zer hu
  subst hu
  have hsep : ([32] : List UInt8) = (⟨([32] : List UInt8).toArray⟩ : ByteArray).data.toList := rfl
  have none : ∀ a c, ws = [] → v = .slice a 0 c → ∃ v', RepU k.mem (.str (zbu ws)) v' ∧ Calls Tryz.prog 54 #[v, .string ⟨([32] : List UInt8).toArray⟩] w fun e w' => e = .returned v' ∧ Below w.heap.size w w' := fun a c hw hv => by
   subst hv; subst hw
   exact ⟨.string ⟨#[]⟩, .str [], (Tryz.strings_Join_none a c _ w).mono fun e w' ⟨h1, h2⟩ => ⟨h1, h2 ▸ Below.refl _ _⟩⟩
  rcases zmE hv with ⟨he, a, c, rfl⟩ | ⟨b, o, sz, c, f, rfl, hc, hsz, hm, hrr⟩
  ·exact none a c (by simpa using he) rfl
  rw [List.length_map] at hc hm hv none ⊢
  by_cases hw : ws = []
  ·have h0 : ws.length = 0 := by rw [hw]; rfl
   rw [h0] at none ⊢
   exact none _ c hw rfl
  obtain ⟨w0, r0, e0⟩ : ∃ w0 r0, ws = w0 :: r0 := by cases ws with | nil => exact absurd rfl hw | cons a l => exact ⟨a, l, rfl⟩
  have hs1 : sz = 1 := by
   have := hsz [U.str w0] (by rw [e0]; simp)
   simpa using this.symm
  subst hs1
  have hcell : ∀ (j : Nat) x, (ws.map fun w => (⟨w.toArray⟩ : ByteArray))[j]? = some x → w.cell? ⟨b, o + j, Option.none⟩ = some (.string x) := fun j x hj => by
   rw [List.getElem?_map] at hj
   cases hwj : ws[j]? with
   | none => rw [hwj] at hj; cases hj
   | some y =>
    rw [hwj] at hj
    cases hj
    have hjl := (lGE.1 hwj).1
    have h1 := hm j hjl 0 Nat.one_pos
    have h2 := hrr j [U.str y] (by simp [hwj]) 0 _ rfl
    have h3 : f j 0 = .string ⟨y.toArray⟩ := (fun z (hz : RepU k.mem (U.str y) z) => by cases hz; rfl : ∀ z, RepU k.mem (U.str y) z → z = .string ⟨y.toArray⟩) _ h2
    have h4 := hsat.cell h1
    rw [h3] at h4
    simpa using h4
  have hlt : b < w.heap.size := hsat.memLt (hm 0 (by rw [e0]; simp) 0 Nat.one_pos)
  have hj := Tryz.strings_Join b o c (ws.map fun w => (⟨w.toArray⟩ : ByteArray)) ⟨([32] : List UInt8).toArray⟩ w hcell hlt (by rw [List.length_map]; exact hN) (by rw [List.length_map]; exact hc)
  have hmm : (ws.map fun w => (⟨w.toArray⟩ : ByteArray)).map (·.data.toList) = ws := by simp [Function.comp_def]
  rw [hmm, List.length_map] at hj
  rw [zpO] at hlen ⊢
  exact ⟨_, .str _, hj hlen⟩
theorem zpj {k : Kr} {own obs} {w : World} (h : Sat k own obs w) : Lib.TabIs Tryz.prog w "internal/strconv.uint64pow10" .u64 Lib.pow10Tab := by
 have he : globs.head! = (globs.head!.1, Lib.pow10Tab.map fun z => Value.int .u64 z) := rfl
 have hm : globs.head! ∈ globs := by unfold globs; exact List.mem_cons_self
 obtain ⟨h1, h2⟩ := k.glob _ hm
 rw [he] at h1 h2
 simp only [List.length_map, Lib.pow10Tab_length] at h1 h2
 obtain ⟨cs, t, fr, h3, h4⟩ := zpB (h.mem _ _ _ h2)
 have h5 : Tryz.prog.globalNamed "internal/strconv.uint64pow10" = some globs.head!.1 := by kernel_rfl
 unfold Lib.TabIs World.var?
 rw [h5, Option.bind_some, h3]
 simp only [Option.some.injEq]
 apply Array.ext_getElem?
 intro j
 by_cases hj : j < 20
 ·have h6 := h.cell (h1 j hj)
  have h7 : cs[j]? = some ((Lib.pow10Tab.map fun z => Value.int .u64 z).getD j undef) := by simpa [World.cell?, h3] using h6
  rw [h7]
  simp [List.getD, Lib.pow10Tab_length, hj]
 ·rw [Array.getElem?_eq_none (by omega), Array.getElem?_eq_none (by simp [Lib.pow10Tab_length]; omega)]
theorem zl2 (n : Int) (h0 : -9223372036854775808 ≤ n) (h1 : n ≤ 9223372036854775807) : Fun Tryz.prog 56 [.u (.int .i64 n)] (· = .u (.str (Lib.itoa n))) :=
 Fun.zlu fun k own w vs hsat hrep => by
  obtain ⟨v, rfl, hv⟩ := zha hrep
  have hv := zbs hv
  subst hv
  refine ⟨_, .str _, (Tryz.strconv_Itoa n h0 h1 w (zpj hsat)).mono ?_⟩
  rintro e w' ⟨h1, q, os, rfl⟩
  refine ⟨h1, rfl, rfl, rfl, ?_, fun x hx => ?_⟩
  ·show w.heap.size ≤ (w.heap ++ os).size
   simp
  ·show (w.heap ++ os)[x]? = w.heap[x]?
   rw [Array.getElem?_append_left hx]
end Go.Proofs.YthnemhfamhnfjaaGreatDoor
namespace Go.Proofs.YthnemhfamhnfjaaGreatDoor
open Go Go.VL
attribute [local simp] HS zdy zck evPure opd uOf zaI St.put St.at getK binD binI binS binB nilD aggD zii zjj lookD lookR zcY Go.VL.nextD zc1 zkb zjm zhD zcO mkV zdU zbt zbE mapEff zeJ zgV Key.kk shiftI arith unD convD zeH loadD cellsAt fieldAddrD fieldD indexAddrD indexD sliceD cutD lenD minmaxD nilCheckD buildD fillD zb4 zdM zfi setAll zdm zfu zcU zja zcL St.add za0 zbZ rowsOf zew zc6 zak zac zaa zbe zc4 zaY entry zbS zb9 valD zcn zcT zhO zdS zdT zcc zbU zaw za2 zbx delAll effD St.effS zdP zbk zbb zdQ zbl zbd zcD zbc za4 zcE zdH zbV zcz zbw zcx zcy zaP mkD zbO zbG zbT zaw zcR D.ids Op.operands Call.operands zbN makeIfD makeFuncD typeAssertD zji zei zej zjh zcZ IntKind.bits zdq List.take_of_length_le List.range_succ
attribute [local irreducible] V G H HD HD2 HD4 zns RetX zap Eff CallP CallV EndOK Fun Ret FinOK LoopI LoopW EndW
abbrev zeI (e : Exp) : D := .u (.agg e.row)
abbrev ziU (n : Int) : D := .u (.int .i64 n)
theorem zaB {i nx : Nat} (h : i < nx) : ¬ i = nx ∧ ¬ nx = i ∧ (∀ k, ¬ i = nx + k) ∧ ∀ k, ¬ nx + k = i := ⟨by omega, by omega, fun k => by omega, fun k => by omega⟩
theorem zpe (l : List Tok) (p : Nat) (i nx : Nat) (hi : i < nx) (hp : p < l.length) (hl : TokOK l) :
  RetX Tryz.prog 143 [.ptr i 0] [(i, pOb l p)] nx (PPost l i nx ziU (zfg l p)) := by
 have hne := zaB hi
 have hh1 := fun nx' (h : nx ≤ nx') => za9 l p [99, 111, 105, 110, 115] i nx' (by omega) hp hl.len
 have hh2 := fun nx' (h : nx ≤ nx') => za9 l p [100, 97, 121, 115] i nx' (by omega) hp hl.len
 have hh3 := fun nx' (h : nx ≤ nx') => za9 l p [112, 101, 114] i nx' (by omega) hp hl.len
 unfold zfg
 by_cases h1 : isB l p [99, 111, 105, 110, 115] = true
 ·simp only [h1, if_true] at hh1 ⊢
  (refine RetX.of_bodyW Tryz.func143 rfl (by simp) fun Γ hn hpan => ?_); simp only [entry, ziC, ziN, maC, maN, oA, Tryz.ntmps143]
  repeat' (first
  | ((first | refine zaf ?_ | refine zaj ?_ | refine zah ?_ | refine zai ?_ | fail); simp [hne])
  | (refine zas ?_; simp only [zap])
  | (refine CallP.ok1 (hh1 _ (by first | omega | simp <;> omega | fail)) (by first | (simp [hne, zaa, getK, zab, zac]; done) | fail) (by rfl) (by rfl) ?_; (try simp [hne]))
  | fail)
  (refine EndW.here ?_; (first | (refine EndOK.fin (.inr rfl) ?_) | (refine EndOK.fin (.inl rfl) ?_)); simp [zaM, zag, Tryz.results143]; refine FinOK.here (by simp) ?_; try simp)
  exact PPost.zcr rfl rfl (by first | rfl | simp [del])
 ·simp only [h1, Bool.false_eq_true, if_false] at hh1 ⊢
  by_cases h2 : isB l p [100, 97, 121, 115] = true
  ·simp only [h2, if_true] at hh2 ⊢
   (refine RetX.of_bodyW Tryz.func143 rfl (by simp) fun Γ hn hpan => ?_); simp only [entry, ziC, ziN, maC, maN, oA, Tryz.ntmps143]
   repeat' (first
  | ((first | refine zaf ?_ | refine zaj ?_ | refine zah ?_ | refine zai ?_ | fail); simp [hne])
  | (refine zas ?_; simp only [zap])
  | (refine CallP.ok1 (hh1 _ (by first | omega | simp <;> omega | fail)) (by first | (simp [hne, zaa, getK, zab, zac]; done) | fail) (by rfl) (by rfl) ?_; (try simp [hne]))
  | (refine CallP.ok1 (hh2 _ (by first | omega | simp <;> omega | fail)) (by first | (simp [hne, zaa, getK, zab, zac]; done) | fail) (by rfl) (by rfl) ?_; (try simp [hne]))
  | fail)
   (refine EndW.here ?_; (first | (refine EndOK.fin (.inr rfl) ?_) | (refine EndOK.fin (.inl rfl) ?_)); simp [zaM, zag, Tryz.results143]; refine FinOK.here (by simp) ?_; try simp)
   exact PPost.zcr rfl rfl (by first | rfl | simp [del])
  ·simp only [h2, Bool.false_eq_true, if_false] at hh2 ⊢
   by_cases h3 : isB l p [112, 101, 114] = true
   ·simp only [h3, if_true] at hh3 ⊢
    have hw := fun nx' (h : nx ≤ nx') => zir l (p + 1) [[109, 105, 108, 108, 101]] i nx' (by omega) (za1 hl h3) hl (by simp)
    cases hr : zbj l (p + 1) [[109, 105, 108, 108, 101]] with
    | ok a q =>
     simp only [hr, List.map_cons, List.map_nil] at hw
     (refine RetX.of_bodyW Tryz.func143 rfl (by simp) fun Γ hn hpan => ?_); simp only [entry, ziC, ziN, maC, maN, oA, Tryz.ntmps143]
     repeat' (first
  | ((first | refine zaf ?_ | refine zaj ?_ | refine zah ?_ | refine zai ?_ | fail); simp [hne])
  | (refine zas ?_; simp only [zap])
  | (refine CallP.ok1 (hh1 _ (by first | omega | simp <;> omega | fail)) (by first | (simp [hne, zaa, getK, zab, zac]; done) | fail) (by rfl) (by rfl) ?_; (try simp [hne]))
  | (refine CallP.ok1 (hh2 _ (by first | omega | simp <;> omega | fail)) (by first | (simp [hne, zaa, getK, zab, zac]; done) | fail) (by rfl) (by rfl) ?_; (try simp [hne]))
  | (refine CallP.ok1 (hh3 _ (by first | omega | simp <;> omega | fail)) (by first | (simp [hne, zaa, getK, zab, zac]; done) | fail) (by rfl) (by rfl) ?_; (try simp [hne]))
  | (refine CallP.ok1 (hw _ (by first | omega | simp <;> omega | fail)) (by first | (simp [hne, zaa, getK, zab, zac]; done) | fail) (by rfl) (by rfl) ?_; (try simp [hne]))
  | (refine zar (by first | rfl | fail) ?_; simp [hne, frzN, frz1, zaz, zay, St.frz, St.frzS, frzS, fv, zaH, za3, za5, zaE, zat, zal, del, frz, za6])
  | fail)
     (refine EndW.wk { n := _, env := [(2, ziU 4)], obs := [(i, pOb l q)], next := nx } (Wk.cut rfl (by simp [hn]) (by simp [wkO, zaa, getK, zab, zac, Ob.under, D.under, zad, zae, hne, hi]) (by simp [wkU, zan, zaa, getK, D.under, hne, hi]) (by simp [wkE, zan, zaa, getK, hne, hi])) (EndW.here ?_); (first | (refine EndOK.fin (.inr rfl) ?_) | (refine EndOK.fin (.inl rfl) ?_)); simp [zaM, zag, Tryz.results143]; refine FinOK.here (by simp) ?_; try simp)
     exact PPost.zcr rfl rfl (by first | rfl | simp [del])
    | stop pos e =>
     simp only [hr, List.map_cons, List.map_nil] at hw
     (refine RetX.of_bodyW Tryz.func143 rfl (by simp) fun Γ hn hpan => ?_); simp only [entry, ziC, ziN, maC, maN, oA, Tryz.ntmps143]
     repeat' (first
  | ((first | refine zaf ?_ | refine zaj ?_ | refine zah ?_ | refine zai ?_ | fail); simp [hne])
  | (refine CallP.ok1 (hh1 _ (by first | omega | simp <;> omega | fail)) (by first | (simp [hne, zaa, getK, zab, zac]; done) | fail) (by rfl) (by rfl) ?_; (try simp [hne]))
  | (refine CallP.ok1 (hh2 _ (by first | omega | simp <;> omega | fail)) (by first | (simp [hne, zaa, getK, zab, zac]; done) | fail) (by rfl) (by rfl) ?_; (try simp [hne]))
  | (refine CallP.ok1 (hh3 _ (by first | omega | simp <;> omega | fail)) (by first | (simp [hne, zaa, getK, zab, zac]; done) | fail) (by rfl) (by rfl) ?_; (try simp [hne]))
  | (refine CallP.zem (hw _ (by first | omega | simp <;> omega | fail)) (by first | (simp [hne, zaa, getK, zab, zac]; done) | fail) (by rfl) (by first | assumption | (simp; done) | fail) (by rfl) (by simp) ?_; rintro ob' ⟨q', rfl⟩; refine ⟨_, Wk.refl _, ?_⟩)
  | (refine zar (by first | rfl | fail) ?_; simp [hne, frzN, frz1, zaz, zay, St.frz, St.frzS, frzS, fv, zaH, za3, za5, zaE, zat, zal, del, frz, za6])
  | fail)
     (refine hpan _ _ ⟨{ n := _, env := [], obs := [(i, pOb l q')], next := nx }, (Wk.cut rfl (by simp [hn]) (by simp [wkO, zaa, getK, zab, zac, Ob.under, D.under, zad, zae, hi, zab, zac, zaa, getK]) (by simp [wkU, zan, zaa, getK, D.under, hi, zab, zac, zaa, getK]) (by simp [wkE, zan, zaa, getK, hi, zab, zac, zaa, getK])), by simp [hn], ?_⟩; try simp)
     exact PPost.zax rfl
   ·simp only [h3, Bool.false_eq_true, if_false] at hh3 ⊢
    (refine RetX.of_bodyW Tryz.func143 rfl (by simp) fun Γ hn hpan => ?_); simp only [entry, ziC, ziN, maC, maN, oA, Tryz.ntmps143]
    repeat' (first
  | ((first | refine zaf ?_ | refine zaj ?_ | refine zah ?_ | refine zai ?_ | fail); simp [hne])
  | ((first | refine zas ?_ | refine zaq ?_ | fail); simp only [zap])
  | (refine CallP.ok1 (hh1 _ (by first | omega | simp <;> omega | fail)) (by first | (simp [hne, zaa, getK, zab, zac]; done) | fail) (by rfl) (by rfl) ?_; (try simp [hne]))
  | (refine CallP.ok1 (hh2 _ (by first | omega | simp <;> omega | fail)) (by first | (simp [hne, zaa, getK, zab, zac]; done) | fail) (by rfl) (by rfl) ?_; (try simp [hne]))
  | (refine CallP.ok1 (hh3 _ (by first | omega | simp <;> omega | fail)) (by first | (simp [hne, zaa, getK, zab, zac]; done) | fail) (by rfl) (by rfl) ?_; (try simp [hne]))
  | fail)
    (refine EndW.here ?_; (first | (refine EndOK.fin (.inr rfl) ?_) | (refine EndOK.fin (.inl rfl) ?_)); simp [zaM, zag, Tryz.results143]; refine FinOK.here (by simp) ?_; try simp)
    exact PPost.zcr rfl rfl (by first | rfl | simp [del])
end Go.Proofs.YthnemhfamhnfjaaGreatDoor
namespace Go.Proofs.YthnemhfamhnfjaaGreatDoor
open Go Go.VL Go.Shelf Go.RowKit
attribute [local simp] HS zdy zck evPure opd uOf zaI St.put St.at getK binD binI binS binB nilD aggD zii zjj lookD lookR zcY Go.VL.nextD zc1 zkb zjm zhD zcO mkV zdU zbt zbE mapEff zeJ zgV Key.kk shiftI arith unD convD zeH loadD cellsAt fieldAddrD fieldD indexAddrD indexD sliceD cutD lenD minmaxD nilCheckD buildD fillD zb4 zdM zfi setAll zdm zfu zcU zja zcL St.add za0 zbZ rowsOf zew zc6 zak zac zaa zbe zc4 zaY entry zbS zb9 valD zcn zcT zhO zdS zdT zcc zbU zaw za2 zbx delAll effD St.effS zdP zbk zbb zdQ zbl zbd zcD zbc za4 zcE zdH zbV zcz zbw zcx zcy zaP mkD zbO zbG zbT zaw zcR D.ids Op.operands Call.operands zbN makeIfD makeFuncD typeAssertD zji zei zej zjh zcZ IntKind.bits zdq List.take_of_length_le List.range_succ
attribute [local irreducible] V G H HD HD2 HD4 zns RetX zap Eff CallP CallV EndOK Fun Ret FinOK LoopI LoopW EndW
theorem zml : zlo Tryz.prog 74 9 = some u8T := by kernel_rfl
theorem zmu (l s : W8) (i j nx : Nat) (hi : i < nx) (hj : j < nx) (hij : i ≠ j) (hlen : l.length + s.length ≤ 140737488355328) :
  RetX Tryz.prog 53 [.ptr i 0, .u (.str s)] [(i, .box [.ptr i 0, .vec j l.length]), (j, .vec u8T 1 (zcu l))] nx
   (fun r o n => r = .val (.tup [.u (.int .i64 s.length), .u (.oth .nilIface)]) ∧ o = [(i, .box [.ptr i 0, .vec nx (l.length + s.length)]), (nx, .vec u8T 1 (zcu (l ++ s)))] ∧ n = nx + 1) := by
 have hne := zaB hi
 have hne2 := zaB hj
 have hcp := fun nx' (h : nx ≤ nx') => zoP i nx' (by omega) (.vec j l.length)
 have hbi := zml
 have hca : zam Tryz.prog 108 = true := by kernel_rfl
 have hbl := znm l
 rw [show zcu (l ++ s) = rowsD (zek l ++ zek s) by rw [zcu, znn]]
 (refine RetX.of_bodyW Tryz.func53 rfl (by simp) fun Γ hn hpan => ?_); simp only [entry, ziC, ziN, maC, maN, oA, Tryz.ntmps53]
 repeat' (first
  | (refine zkI ?_; simp [zf1, hne, hne2, hij, Ne.symm hij, del, hbi, hbl, hlen])
  | ((first | refine zaf ?_ | refine zaj ?_ | refine zah ?_ | fail); simp [hne, hne2, hij, Ne.symm hij, del, hbi, hbl, hlen])
  | (refine zas ?_; simp only [zap])
  | (refine CallP.ok1 (hcp _ (by first | omega | simp <;> omega | fail)) (by first | (simp [hne, hne2, hij, Ne.symm hij, del, hbi, hbl, hlen, zaa, getK, zab, zac]; done) | fail) (by rfl) (by rfl) ⟨by first | assumption | (simp; done) | fail, by simp, ?_⟩; (try simp [hne, hne2, hij, Ne.symm hij, del, hbi, hbl, hlen]))
  | fail)
 (refine EndW.here ?_; (first | (refine EndOK.fin (.inr rfl) ?_) | (refine EndOK.fin (.inl rfl) ?_)); simp [zaM, zag, Tryz.results53, hne, hne2, hi, hj, hij, Ne.symm hij]; refine FinOK.cut [(i, .box [.ptr i 0, .vec nx (l.length + s.length)]), (nx, .vec u8T 1 (rowsD (zek l) ++ rowsD (zek s)))] (nx + 1) (by simp [zaa, getK, zab, zac, Ob.under, D.under, zad, zae, hne, hne2, hi, hj, hij, Ne.symm hij] <;> omega) (by simp [D.under]) (by simp [hn]) ?_; try simp)
theorem znw (s : W8) (i nx : Nat) (hi : i < nx) (hlen : s.length ≤ 140737488355328) :
  RetX Tryz.prog 53 [.ptr i 0, .u (.str s)] [(i, .nw bT)] nx
   (fun r o n => r = .val (.tup [.u (.int .i64 s.length), .u (.oth .nilIface)]) ∧ o = [(i, .box [.ptr i 0, .vec (nx + 1) s.length]), (nx + 1, .vec u8T 1 (zcu s))] ∧ n = nx + 2) := by
 have hne := zaB hi
 have hcp := fun nx' (h : nx ≤ nx') => zpX i nx' (by omega)
 have hbi := zml
 have hca : zam Tryz.prog 108 = true := by kernel_rfl
 (refine RetX.of_bodyW Tryz.func53 rfl (by simp) fun Γ hn hpan => ?_); simp only [entry, ziC, ziN, maC, maN, oA, Tryz.ntmps53]
 repeat' (first
  | (refine zkI ?_; simp [zf1, hne, del, hbi, hlen])
  | ((first | refine zaf ?_ | refine zaj ?_ | refine zah ?_ | fail); simp [hne, del, hbi, hlen])
  | (refine zas ?_; simp only [zap])
  | (refine CallP.okL (hcp _ (by first | omega | simp <;> omega | fail)) (by first | (simp [hne, del, hbi, hlen, zaa, getK, zab, zac, zak, zaP, del]; done) | fail) (by rfl) (by rfl) ⟨by first | assumption | (simp; done) | fail, by simp, ?_⟩; (try simp [hne, del, hbi, hlen, zdf, del]))
  | fail)
 (refine EndW.here ?_; (first | (refine EndOK.fin (.inr rfl) ?_) | (refine EndOK.fin (.inl rfl) ?_)); simp [zaM, zag, Tryz.results53, hne, hi]; refine FinOK.cut [(i, .box [.ptr i 0, .vec (nx + 1) s.length]), (nx + 1, .vec u8T 1 (zcu s))] (nx + 2) (by simp [zaa, getK, zab, zac, Ob.under, D.under, zad, zae, hne, hi] <;> omega) (by simp [D.under]) (by simp [hn]) ?_; try simp)
def zbF (ws : List W8) : W8 := zbu ws ++ [32, 59, 10]
theorem zof (l : W8) (ws : List W8) (i j nx : Nat) (hi : i < nx) (hj : j < nx) (hij : i ≠ j) (hlen : l.length + (zbF ws).length ≤ 140737488355328) (hN : ws.length ≤ 140737488355328) :
  RetX Tryz.prog 52 [.u (.sl (ws.map fun w => [.str w])), .ptr i 0] [(i, .box [.ptr i 0, .vec j l.length]), (j, .vec u8T 1 (zcu l))] nx
   (fun r o n => r = .val (.tup []) ∧ o = [(i, .box [.ptr i 0, .vec nx (l ++ zbF ws).length]), (nx, .vec u8T 1 (zcu (l ++ zbF ws)))] ∧ n = nx + 1) := by
 have hne := zaB hi
 have hne2 := zaB hj
 have hjl : (zbu ws).length ≤ 140737488355328 := by simp only [zbF, List.length_append] at hlen; omega
 have hjn := zl1 ws hjl hN
 have hwr := fun nx' (h : nx ≤ nx') => zmu l (zbF ws) i j nx' (by omega) (by omega) hij hlen
 have hca : zam Tryz.prog 53 = true := by kernel_rfl
 rw [List.length_append]
 have hlt : zbu ws ++ [32, 59, 10] = zbF ws := rfl
 generalize zbF ws = T at *
 clear hlen
 (refine RetX.of_bodyW Tryz.func52 rfl (by simp) fun Γ hn hpan => ?_); simp only [entry, ziC, ziN, maC, maN, oA, Tryz.ntmps52]
 repeat' (first
  | ((first | refine zaf ?_ | refine zaj ?_ | fail); simp [hne, hne2, hij, Ne.symm hij, del, hlt])
  | (refine ⟨by omega, ?_⟩)
  | (refine zaG ?_; simp [hne, hne2, hij, Ne.symm hij, del, hlt])
  | (refine CallP.fE (hjn) (by first | rfl | fail) (by first | simp [hne, hne2, hij, Ne.symm hij, del, hlt] <;> rfl | fail) ⟨by first | assumption | (simp; done) | fail, by simp, ?_⟩; (try simp [hne, hne2, hij, Ne.symm hij, del, hlt]))
  | (refine CallP.okL (hwr _ (by first | omega | simp <;> omega | fail)) (by first | (simp [hne, hne2, hij, Ne.symm hij, del, hlt, zaa, getK, zab, zac, zak, zaP, del]; done) | fail) (by rfl) (by rfl) ⟨by first | assumption | (simp; done) | fail, by simp, ?_⟩; (try simp [hne, hne2, hij, Ne.symm hij, del, hlt, zdf, del]))
  | fail)
 (refine EndW.here ?_; (first | (refine EndOK.fin (.inr rfl) ?_) | (refine EndOK.fin (.inl rfl) ?_)); simp [zaM, zag, Tryz.results52, hne, hne2, hi, hj, hij, Ne.symm hij]; refine FinOK.cut [(i, .box [.ptr i 0, .vec nx (l.length + T.length)]), (nx, .vec u8T 1 (zcu (l ++ T)))] (nx + 1) (by simp [zaa, getK, zab, zac, Ob.under, D.under, zad, zae, hne, hne2, hi, hj, hij, Ne.symm hij] <;> omega) (by simp [D.under]) (by simp [hn]) ?_; try simp)
theorem zgK (ws : List W8) (i nx : Nat) (hi : i < nx) (hlen : (zbF ws).length ≤ 140737488355328) (hN : ws.length ≤ 140737488355328) :
  RetX Tryz.prog 52 [.u (.sl (ws.map fun w => [.str w])), .ptr i 0] [(i, .nw bT)] nx
   (fun r o n => r = .val (.tup []) ∧ o = [(i, .box [.ptr i 0, .vec (nx + 1) (zbF ws).length]), (nx + 1, .vec u8T 1 (zcu (zbF ws)))] ∧ n = nx + 2) := by
 have hne := zaB hi
 have hjl : (zbu ws).length ≤ 140737488355328 := by simp only [zbF, List.length_append] at hlen; omega
 have hjn := zl1 ws hjl hN
 have hwr := fun nx' (h : nx ≤ nx') => znw (zbF ws) i nx' (by omega) hlen
 have hca : zam Tryz.prog 53 = true := by kernel_rfl
 have hlt : zbu ws ++ [32, 59, 10] = zbF ws := rfl
 generalize zbF ws = T at *
 clear hlen
 (refine RetX.of_bodyW Tryz.func52 rfl (by simp) fun Γ hn hpan => ?_); simp only [entry, ziC, ziN, maC, maN, oA, Tryz.ntmps52]
 repeat' (first
  | ((first | refine zaf ?_ | refine zaj ?_ | fail); simp [hne, del, hlt])
  | (refine ⟨by omega, ?_⟩)
  | (refine zaG ?_; simp [hne, del, hlt])
  | (refine CallP.fE (hjn) (by first | rfl | fail) (by first | simp [hne, del, hlt] <;> rfl | fail) ⟨by first | assumption | (simp; done) | fail, by simp, ?_⟩; (try simp [hne, del, hlt]))
  | (refine CallP.okL (hwr _ (by first | omega | simp <;> omega | fail)) (by first | (simp [hne, del, hlt, zaa, getK, zab, zac, zak, zaP, del]; done) | fail) (by rfl) (by rfl) ⟨by first | assumption | (simp; done) | fail, by simp, ?_⟩; (try simp [hne, del, hlt, zdf, del]))
  | fail)
 (refine EndW.here ?_; (first | (refine EndOK.fin (.inr rfl) ?_) | (refine EndOK.fin (.inl rfl) ?_)); simp [zaM, zag, Tryz.results52, hne, hi]; refine FinOK.cut [(i, .box [.ptr i 0, .vec (nx + 1) T.length]), (nx + 1, .vec u8T 1 (zcu T))] (nx + 2) (by simp [zaa, getK, zab, zac, Ob.under, D.under, zad, zae, hne, hi] <;> omega) (by simp [D.under]) (by simp [hn]) ?_; try simp)
end Go.Proofs.YthnemhfamhnfjaaGreatDoor
namespace Go.Proofs.YthnemhfamhnfjaaGreatDoor
open Go Go.VL
attribute [local simp] HS zdy zck evPure opd uOf zaI St.put St.at getK binD binI binS binB nilD aggD zii zjj lookD lookR zcY Go.VL.nextD zc1 zkb zjm zhD zcO mkV zdU zbt zbE mapEff zeJ zgV Key.kk shiftI arith unD convD zeH loadD cellsAt fieldAddrD fieldD indexAddrD indexD sliceD cutD lenD minmaxD nilCheckD buildD fillD zb4 zdM zfi setAll zdm zfu zcU zja zcL St.add za0 zbZ rowsOf zew zc6 zak zac zaa zbe zc4 zaY entry zbS zb9 valD zcn zcT zhO zdS zdT zcc zbU zaw za2 zbx delAll effD St.effS zdP zbk zbb zdQ zbl zbd zcD zbc za4 zcE zdH zbV zcz zbw zcx zcy zaP mkD zbO zbG zbT zaw zcR D.ids Op.operands Call.operands zbN makeIfD makeFuncD typeAssertD zji zei zej zjh zcZ IntKind.bits zdq List.take_of_length_le List.range_succ
attribute [local irreducible] V G H HD HD2 HD4 zns RetX zap Eff CallP CallV EndOK Fun Ret FinOK LoopI LoopW EndW
abbrev zjU (e : Exp × Int) : D := .tup [.u (.agg e.1.row), .u (.int .i64 e.2)]
def zhC (l : List Tok) (f : Nat) : Prop := ∀ (p : Nat) (form : Int) (i nx : Nat), i < nx → p < l.length → 4 * (l.length - p) + 3 ≤ f → 0 ≤ form → form ≤ 7 →
 RetX Tryz.prog 41 [.ptr i 0, ziU form] [(i, pOb l p)] nx (PPost l i nx zeI (zcC l f p form))
def zri (l : List Tok) (f : Nat) : Prop := ∀ (p : Nat) (form : Int) (i nx : Nat), i < nx → p < l.length → 4 * (l.length - p) + 2 ≤ f → 0 ≤ form → form ≤ 7 →
 RetX Tryz.prog 95 [.ptr i 0, ziU form] [(i, pOb l p)] nx (PPost l i nx zjU (zaV l f p form))
def zip (l : List Tok) (f : Nat) : Prop := ∀ (p : Nat) (i nx : Nat), i < nx → p < l.length → 4 * (l.length - p) + 1 ≤ f →
 RetX Tryz.prog 133 [.ptr i 0] [(i, pOb l p)] nx (PPost l i nx zeI (zaJ l f p))
theorem zeG {l : List Tok} (hl : TokOK l) (w : List UInt8) {q i nx : Nat} (hi : i < nx) (hq : q < l.length) :
  RetX Tryz.prog 83 [.ptr i 0, .u (.sl [[.str w]])] [(i, pOb l q)] nx (PPost l i nx (fun _ => .tup []) (zbj l q [w])) := zir l q [w] i nx hi hq hl (by simp)
theorem zkV {l : List Tok} (hl : TokOK l) {f p : Nat} {t : Tok} (ht : l[p]? = some t) (hk : t.kind = 2) {i nx : Nat} (hi : i < nx) :
  RetX Tryz.prog 133 [.ptr i 0] [(i, pOb l p)] nx (PPost l i nx zeI (zaJ l (f + 1) p)) := by
 have hne := zaB hi
 have hp := (lGE.1 ht).1
 have hnx := zbL l p t ht hl.len
 have hp2 := hl.fin p t ht (by omega)
 have hll := hl.len
 rw [zaJ, ht]
 simp only [hk, if_true] at hnx ⊢
 have hu := fun nx' (h : nx ≤ nx') => zpe l (p + 1) i nx' (by omega) hp2 hl
 cases hr : zfg l (p + 1) with
 | ok a q =>
  simp only [hr] at hu
  (refine RetX.of_bodyW Tryz.func133 rfl (by simp) fun Γ hn hpan => ?_); simp only [entry, ziC, ziN, maC, maN, oA, Tryz.ntmps133]
  repeat' (first
  | (refine zhA (fun nx' h' => hu nx' (by simp at h'; omega)) (by first | (simp [hne, zaa, getK, zab, zac, zak, zaP]; done) | fail) (by rfl) (by first | assumption | simp) (by rfl) (by simp [D.under, Ob.under]) (by simp) ?_; (try simp [hne]))
  | ((first | refine zaf ?_ | refine zbo rfl ?_ | refine zb8 rfl ?_ | refine zaj ?_ | fail); simp [hne])
  | (refine ⟨by omega, ?_⟩)
  | ((first | refine zah ?_ | refine zai ?_ | fail); simp [hne])
  | (refine zbH (hC _ (zcp [i] nx (by simp <;> omega) (by simp <;> omega) (by apply Exists.intro; apply And.intro; (focus (repeat' (first | exact KF.nil | exact KL.nil | apply KF.cons | apply KL.cons 0 rfl | apply KL.cons 1 rfl | apply KL.cons 2 rfl | apply KL.cons 3 rfl | apply KL.cons 4 rfl | apply KL.cons 5 rfl | apply KL.cons 6 rfl | apply KL.cons 7 rfl | apply KL.cons 8 rfl | apply KL.cons 9 rfl))); kernel_rfl))) (hk _ ?_); clear hC hk C k; simp only [zap])
  | (refine zb0 rfl (by kernel_rfl) (by first | (simp [hn]; done) | (simp [hn]; omega) | fail) fun C k hC hk => ?_; simp [hne])
  | (refine zas ?_; simp only [zap])
  | (refine CallP.fE (hnx) (by first | rfl | fail) (by first | simp [hne] <;> rfl | fail) ?_; (try simp [hne]))
  | fail)
  refine EndW.norm ?_
  simp [St.norm, zbh, zb3, zcs, zct, hne]
  (refine EndW.here ?_; (first | (refine EndOK.fin (.inr rfl) ?_) | (refine EndOK.fin (.inl rfl) ?_)); simp [zaM, zag, Tryz.results133, hne, hi]; refine FinOK.cut [(i, pOb l q)] (nx) (by simp [zaa, getK, zab, zac, Ob.under, D.under, zad, zae, hne, hi] <;> omega) (by simp [D.under]) (by simp [hn]) ?_; try simp)
  exact PPost.zcr rfl (by simp [Exp.row]) rfl
 | stop pos e =>
  simp only [hr] at hu
  (refine RetX.of_bodyW Tryz.func133 rfl (by simp) fun Γ hn hpan => ?_); simp only [entry, ziC, ziN, maC, maN, oA, Tryz.ntmps133]
  repeat' (first
  | (refine zf3 (fun nx' h' => hu nx' (by simp at h'; omega)) (by first | (simp [hne, zaa, getK, zab, zac, zak, zaP]; done) | fail) (by rfl) (by first | assumption | simp) (by rfl) (by simp) ?_ ?_; rintro env' ob' n' hn' ⟨q', rfl⟩; refine ⟨_, Wk.refl _, ?_⟩)
  | (refine zeW rfl (by simp) ?_; simp)
  | ((first | refine zaf ?_ | refine zbo rfl ?_ | refine zaj ?_ | fail); simp [hne])
  | (refine ⟨by omega, ?_⟩)
  | ((first | refine zah ?_ | refine zai ?_ | fail); simp [hne])
  | (refine zf4 (hC _ (zcp [i] nx (by simp <;> omega) (by simp <;> omega) (by apply Exists.intro; apply And.intro; (focus (repeat' (first | exact KF.nil | exact KL.nil | apply KF.cons | apply KL.cons 0 rfl | apply KL.cons 1 rfl | apply KL.cons 2 rfl | apply KL.cons 3 rfl | apply KL.cons 4 rfl | apply KL.cons 5 rfl | apply KL.cons 6 rfl | apply KL.cons 7 rfl | apply KL.cons 8 rfl | apply KL.cons 9 rfl))); kernel_rfl))) rfl; done)
  | (refine zb0 rfl (by kernel_rfl) (by first | (simp [hn]; done) | (simp [hn]; omega) | fail) fun C k hC hk => ?_; simp [hne])
  | (refine CallP.fE (hnx) (by first | rfl | fail) (by first | simp [hne] <;> rfl | fail) ?_; (try simp [hne]))
  | fail)
  (refine hpan _ _ ⟨{ n := _, env := [], obs := [(i, pOb l q')], next := nx }, (Wk.cut rfl (by simp [hn]) (by simp [wkO, zaa, getK, zab, zac, Ob.under, D.under, zad, zae, hi, hne, zab, zac, zaa, getK]) (by simp [wkU, zan, zaa, getK, D.under, hi, hne, zab, zac, zaa, getK]) (by simp [wkE, zan, zaa, getK, hi, hne, zab, zac, zaa, getK])), by simp [hn], ?_⟩; try simp)
  exact PPost.zax (by simp [PR.bind])
theorem zjG {l : List Tok} (hl : TokOK l) {f p : Nat} {t : Tok} (ht : l[p]? = some t) (hk : ¬ t.kind = 2) (h1 : isB l p [116, 114, 117, 101] = true) {i nx : Nat} (hi : i < nx) :
  RetX Tryz.prog 133 [.ptr i 0] [(i, pOb l p)] nx (PPost l i nx zeI (zaJ l (f + 1) p)) := by
 have hne := zaB hi
 have hp := (lGE.1 ht).1
 have hnx := zbL l p t ht hl.len
 have hll := hl.len
 rw [zaJ, ht]
 have hh1 := fun nx' (h : nx ≤ nx') => za9 l p [116, 114, 117, 101] i nx' (by omega) hp hl.len
 simp only [hk, h1, if_false, if_true] at hh1 ⊢
 (refine RetX.of_bodyW Tryz.func133 rfl (by simp) fun Γ hn hpan => ?_); simp only [entry, ziC, ziN, maC, maN, oA, Tryz.ntmps133]
 repeat' (first
  | ((first | refine zaf ?_ | refine zaj ?_ | refine zah ?_ | refine zai ?_ | fail); simp [hne, hk, del])
  | (refine zas ?_; simp only [zap])
  | (refine CallP.fE (hnx) (by first | rfl | fail) (by first | simp [hne, hk, del] <;> rfl | fail) ?_; (try simp [hne, hk, del]))
  | (refine CallP.ok1 (hh1 _ (by first | omega | simp <;> omega | fail)) (by first | (simp [hne, hk, del, zaa, getK, zab, zac]; done) | fail) (by rfl) (by rfl) ?_; (try simp [hne, hk, del]))
  | fail)
 refine EndW.norm ?_
 simp [St.norm, zbh, zb3, zcs, zct, hne]
 (refine EndW.here ?_; (first | (refine EndOK.fin (.inr rfl) ?_) | (refine EndOK.fin (.inl rfl) ?_)); simp [zaM, zag, Tryz.results133, hne, hi]; refine FinOK.cut [(i, pOb l (p + 1))] (nx) (by simp [zaa, getK, zab, zac, Ob.under, D.under, zad, zae, hne, hi] <;> omega) (by simp [D.under]) (by simp [hn]) ?_; try simp)
 exact PPost.zcr rfl (by simp [Exp.row]) rfl
theorem ziE {l : List Tok} (hl : TokOK l) {f p : Nat} {t : Tok} (ht : l[p]? = some t) (hk : ¬ t.kind = 2) (h1 : isB l p [116, 114, 117, 101] = false) (h2 : isB l p [102, 97, 108, 115, 101] = true) {i nx : Nat} (hi : i < nx) :
  RetX Tryz.prog 133 [.ptr i 0] [(i, pOb l p)] nx (PPost l i nx zeI (zaJ l (f + 1) p)) := by
 have hne := zaB hi
 have hp := (lGE.1 ht).1
 have hnx := zbL l p t ht hl.len
 have hll := hl.len
 rw [zaJ, ht]
 have hh1 := fun nx' (h : nx ≤ nx') => za9 l p [116, 114, 117, 101] i nx' (by omega) hp hl.len
 have hh2 := fun nx' (h : nx ≤ nx') => za9 l p [102, 97, 108, 115, 101] i nx' (by omega) hp hl.len
 simp only [hk, h1, h2, if_false, if_true, Bool.false_eq_true] at hh1 hh2 ⊢
 (refine RetX.of_bodyW Tryz.func133 rfl (by simp) fun Γ hn hpan => ?_); simp only [entry, ziC, ziN, maC, maN, oA, Tryz.ntmps133]
 repeat' (first
  | ((first | refine zaf ?_ | refine zaj ?_ | refine zah ?_ | refine zai ?_ | fail); simp [hne, hk, del])
  | (refine zas ?_; simp only [zap])
  | (refine CallP.fE (hnx) (by first | rfl | fail) (by first | simp [hne, hk, del] <;> rfl | fail) ?_; (try simp [hne, hk, del]))
  | (refine CallP.ok1 (hh1 _ (by first | omega | simp <;> omega | fail)) (by first | (simp [hne, hk, del, zaa, getK, zab, zac]; done) | fail) (by rfl) (by rfl) ?_; (try simp [hne, hk, del]))
  | (refine CallP.ok1 (hh2 _ (by first | omega | simp <;> omega | fail)) (by first | (simp [hne, hk, del, zaa, getK, zab, zac]; done) | fail) (by rfl) (by rfl) ?_; (try simp [hne, hk, del]))
  | fail)
 refine EndW.norm ?_
 simp [St.norm, zbh, zb3, zcs, zct, hne]
 (refine EndW.here ?_; (first | (refine EndOK.fin (.inr rfl) ?_) | (refine EndOK.fin (.inl rfl) ?_)); simp [zaM, zag, Tryz.results133, hne, hi]; refine FinOK.cut [(i, pOb l (p + 1))] (nx) (by simp [zaa, getK, zab, zac, Ob.under, D.under, zad, zae, hne, hi] <;> omega) (by simp [D.under]) (by simp [hn]) ?_; try simp)
 exact PPost.zcr rfl (by simp [Exp.row]) rfl
theorem zc0 {l : List Tok} {F : FuncId} {r : PR Exp} {e : Exp} {q i nx : Nat} {ds : List D} {obs : List (Nat × Ob)} (h : RetX Tryz.prog F ds obs nx (PPost l i nx zeI r)) (hr : r = .ok e q) :
  RetX Tryz.prog F ds obs nx fun r o n => r = .val (.u (.agg [.int .i64 e.op, .int .i64 e.n, .int .i64 e.unit, .str e.s, .sl (e.args.map Exp.row)])) ∧ o = [(i, pOb l q)] ∧ n = nx := by
 subst hr
 rw [← Exp.row_eq]
 exact h
theorem ziD {l : List Tok} (hl : TokOK l) {f p : Nat} (hE : zhC l f) (hf : 4 * (l.length - p) ≤ f) {t : Tok} (ht : l[p]? = some t) (hk : ¬ t.kind = 2) (h1 : isB l p [116, 114, 117, 101] = false) (h2 : isB l p [102, 97, 108, 115, 101] = false)
  (h3 : isB l p [109, 105, 110] = false) (h4 : isB l p [109, 97, 120] = false) (h5 : isB l p [40] = true) {i nx : Nat} (hi : i < nx) :
  RetX Tryz.prog 133 [.ptr i 0] [(i, pOb l p)] nx (PPost l i nx zeI (zaJ l (f + 1) p)) := by
 have hne := zaB hi
 have hp := (lGE.1 ht).1
 have hnx := zbL l p t ht hl.len
 have hll := hl.len
 have hp2 := za1 hl h5
 rw [zaJ, ht]
 have hh1 := fun nx' (h : nx ≤ nx') => za9 l p [116, 114, 117, 101] i nx' (by omega) hp hl.len
 have hh2 := fun nx' (h : nx ≤ nx') => za9 l p [102, 97, 108, 115, 101] i nx' (by omega) hp hl.len
 have hm1 := zdY l p [109, 105, 110] hp hl.len
 have hm2 := zdY l p [109, 97, 120] hp hl.len
 have hh3 := fun nx' (h : nx ≤ nx') => za9 l p [40] i nx' (by omega) hp hl.len
 simp only [hk, h1, h2, h3, h4, h5, if_false, if_true, Bool.false_eq_true, or_self] at hh1 hh2 hm1 hm2 hh3 ⊢
 have he := fun nx' (h : nx ≤ nx') => hE (p + 1) 0 i nx' (by omega) hp2 (by omega) (by omega) (by omega)
 cases hr : zcC l f (p + 1) 0 with
 | stop pos e =>
  simp only [hr] at he
  (refine RetX.of_bodyW Tryz.func133 rfl (by simp) fun Γ hn hpan => ?_); simp only [entry, ziC, ziN, maC, maN, oA, Tryz.ntmps133]
  repeat' (first
  | ((first | refine zaf ?_ | refine zaj ?_ | refine zah ?_ | refine zai ?_ | fail); simp [hne, hk, del, nAA])
  | (refine CallP.fE (hnx) (by first | rfl | fail) (by first | simp [hne, hk, del, nAA] <;> rfl | fail) ?_; (try simp [hne, hk, del, nAA]))
  | (refine CallP.fE (hm1) (by first | rfl | fail) (by first | simp [hne, hk, del, nAA] <;> rfl | fail) ?_; (try simp [hne, hk, del, nAA]))
  | (refine CallP.fE (hm2) (by first | rfl | fail) (by first | simp [hne, hk, del, nAA] <;> rfl | fail) ?_; (try simp [hne, hk, del, nAA]))
  | (refine CallP.ok1 (hh1 _ (by first | omega | simp <;> omega | fail)) (by first | (simp [hne, hk, del, nAA, zaa, getK, zab, zac]; done) | fail) (by rfl) (by rfl) ?_; (try simp [hne, hk, del, nAA]))
  | (refine CallP.ok1 (hh2 _ (by first | omega | simp <;> omega | fail)) (by first | (simp [hne, hk, del, nAA, zaa, getK, zab, zac]; done) | fail) (by rfl) (by rfl) ?_; (try simp [hne, hk, del, nAA]))
  | (refine CallP.ok1 (hh3 _ (by first | omega | simp <;> omega | fail)) (by first | (simp [hne, hk, del, nAA, zaa, getK, zab, zac]; done) | fail) (by rfl) (by rfl) ?_; (try simp [hne, hk, del, nAA]))
  | (refine CallP.zem (he _ (by first | omega | simp <;> omega | fail)) (by first | (simp [hne, hk, del, nAA, zaa, getK, zab, zac]; done) | fail) (by rfl) (by first | assumption | (simp; done) | fail) (by rfl) (by simp) ?_; rintro ob' ⟨q', rfl⟩; refine ⟨_, Wk.refl _, ?_⟩)
  | fail)
  (refine hpan _ _ ⟨{ n := _, env := [], obs := [(i, pOb l q')], next := nx }, (Wk.cut rfl (by simp [hn]) (by simp [wkO, zaa, getK, zab, zac, Ob.under, D.under, zad, zae, hi, hne, zab, zac, zaa, getK]) (by simp [wkU, zan, zaa, getK, D.under, hi, hne, zab, zac, zaa, getK]) (by simp [wkE, zan, zaa, getK, hi, hne, zab, zac, zaa, getK])), by simp [hn], ?_⟩; try simp)
  exact PPost.zax (by simp [PR.bind, *])
 | ok e1 q1 =>
  have he := fun nx' h => zc0 (he nx' h) hr
  obtain ⟨g1, g2⟩ := (zbJ hl f).1 _ _ _ _ hr hp2
  have hw := fun nx' (h : nx ≤ nx') => zeG hl [41] (q := q1) (i := i) (nx := nx') (by omega) g2
  cases hr2 : zbj l q1 [[41]] with
  | stop pos e =>
   simp only [hr2] at hw
   (refine RetX.of_bodyW Tryz.func133 rfl (by simp) fun Γ hn hpan => ?_); simp only [entry, ziC, ziN, maC, maN, oA, Tryz.ntmps133]
   repeat' (first
  | ((first | refine zaf ?_ | refine zaj ?_ | refine zah ?_ | refine zai ?_ | fail); simp [hne, hk, del, nAA])
  | (refine CallP.fE (hnx) (by first | rfl | fail) (by first | simp [hne, hk, del, nAA] <;> rfl | fail) ?_; (try simp [hne, hk, del, nAA]))
  | (refine CallP.fE (hm1) (by first | rfl | fail) (by first | simp [hne, hk, del, nAA] <;> rfl | fail) ?_; (try simp [hne, hk, del, nAA]))
  | (refine CallP.fE (hm2) (by first | rfl | fail) (by first | simp [hne, hk, del, nAA] <;> rfl | fail) ?_; (try simp [hne, hk, del, nAA]))
  | (refine CallP.ok1 (hh1 _ (by first | omega | simp <;> omega | fail)) (by first | (simp [hne, hk, del, nAA, zaa, getK, zab, zac]; done) | fail) (by rfl) (by rfl) ?_; (try simp [hne, hk, del, nAA]))
  | (refine CallP.ok1 (hh2 _ (by first | omega | simp <;> omega | fail)) (by first | (simp [hne, hk, del, nAA, zaa, getK, zab, zac]; done) | fail) (by rfl) (by rfl) ?_; (try simp [hne, hk, del, nAA]))
  | (refine CallP.ok1 (hh3 _ (by first | omega | simp <;> omega | fail)) (by first | (simp [hne, hk, del, nAA, zaa, getK, zab, zac]; done) | fail) (by rfl) (by rfl) ?_; (try simp [hne, hk, del, nAA]))
  | (refine CallP.ok1 (he _ (by first | omega | simp <;> omega | fail)) (by first | (simp [hne, hk, del, nAA, zaa, getK, zab, zac]; done) | fail) (by rfl) (by rfl) ?_; (try simp [hne, hk, del, nAA]))
  | (refine CallP.zem (hw _ (by first | omega | simp <;> omega | fail)) (by first | (simp [hne, hk, del, nAA, zaa, getK, zab, zac]; done) | fail) (by rfl) (by first | assumption | (simp; done) | fail) (by rfl) (by simp) ?_; rintro ob' ⟨q', rfl⟩; refine ⟨_, Wk.refl _, ?_⟩)
  | (refine zar (by first | rfl | fail) ?_; simp [hne, hk, del, nAA, frzN, frz1, zaz, zay, St.frz, St.frzS, frzS, fv, zaH, za3, za5, zaE, zat, zal, del, frz, za6])
  | fail)
   (refine hpan _ _ ⟨{ n := _, env := [], obs := [(i, pOb l q')], next := nx }, (Wk.cut rfl (by simp [hn]) (by simp [wkO, zaa, getK, zab, zac, Ob.under, D.under, zad, zae, hi, hne, zab, zac, zaa, getK]) (by simp [wkU, zan, zaa, getK, D.under, hi, hne, zab, zac, zaa, getK]) (by simp [wkE, zan, zaa, getK, hi, hne, zab, zac, zaa, getK])), by simp [hn], ?_⟩; try simp)
   exact PPost.zax (by simp [PR.bind, *])
  | ok u2 q =>
   simp only [hr2] at hw
   (refine RetX.of_bodyW Tryz.func133 rfl (by simp) fun Γ hn hpan => ?_); simp only [entry, ziC, ziN, maC, maN, oA, Tryz.ntmps133]
   repeat' (first
  | ((first | refine zaf ?_ | refine zaj ?_ | refine zah ?_ | refine zai ?_ | fail); simp [hne, hk, del, nAA])
  | (refine zas ?_; simp only [zap])
  | (refine CallP.fE (hnx) (by first | rfl | fail) (by first | simp [hne, hk, del, nAA] <;> rfl | fail) ?_; (try simp [hne, hk, del, nAA]))
  | (refine CallP.fE (hm1) (by first | rfl | fail) (by first | simp [hne, hk, del, nAA] <;> rfl | fail) ?_; (try simp [hne, hk, del, nAA]))
  | (refine CallP.fE (hm2) (by first | rfl | fail) (by first | simp [hne, hk, del, nAA] <;> rfl | fail) ?_; (try simp [hne, hk, del, nAA]))
  | (refine CallP.ok1 (hh1 _ (by first | omega | simp <;> omega | fail)) (by first | (simp [hne, hk, del, nAA, zaa, getK, zab, zac]; done) | fail) (by rfl) (by rfl) ?_; (try simp [hne, hk, del, nAA]))
  | (refine CallP.ok1 (hh2 _ (by first | omega | simp <;> omega | fail)) (by first | (simp [hne, hk, del, nAA, zaa, getK, zab, zac]; done) | fail) (by rfl) (by rfl) ?_; (try simp [hne, hk, del, nAA]))
  | (refine CallP.ok1 (hh3 _ (by first | omega | simp <;> omega | fail)) (by first | (simp [hne, hk, del, nAA, zaa, getK, zab, zac]; done) | fail) (by rfl) (by rfl) ?_; (try simp [hne, hk, del, nAA]))
  | (refine CallP.ok1 (he _ (by first | omega | simp <;> omega | fail)) (by first | (simp [hne, hk, del, nAA, zaa, getK, zab, zac]; done) | fail) (by rfl) (by rfl) ?_; (try simp [hne, hk, del, nAA]))
  | (refine CallP.ok1 (hw _ (by first | omega | simp <;> omega | fail)) (by first | (simp [hne, hk, del, nAA, zaa, getK, zab, zac]; done) | fail) (by rfl) (by rfl) ?_; (try simp [hne, hk, del, nAA]))
  | (refine zar (by first | rfl | fail) ?_; simp [hne, hk, del, nAA, frzN, frz1, zaz, zay, St.frz, St.frzS, frzS, fv, zaH, za3, za5, zaE, zat, zal, del, frz, za6])
  | fail)
   refine EndW.norm ?_
   simp [St.norm, zbh, zb3, zcs, zct, hne]
   (refine EndW.here ?_; (first | (refine EndOK.fin (.inr rfl) ?_) | (refine EndOK.fin (.inl rfl) ?_)); simp [zaM, zag, Tryz.results133, hne, hi]; refine FinOK.cut [(i, pOb l q)] (nx) (by simp [zaa, getK, zab, zac, Ob.under, D.under, zad, zae, hne, hi] <;> omega) (by simp [D.under]) (by simp [hn]) ?_; try simp)
   exact PPost.zcr (by simp [PR.bind, *]; rfl) (by simp [Exp.row_eq]) rfl
end Go.Proofs.YthnemhfamhnfjaaGreatDoor
