import Derived.Test.YthnemhfamhnfjaaGreatDoorQ3
import Derived.Test.YthnemhfamhnfjaaGreatDoorTie
import Derived.Test.YthnemhfamhnfjaaGreatDoorCards
import Derived.Lib.LaidTab
import Derived.Lib.ItoaNum
set_option linter.all false
set_option maxRecDepth 100000
set_option maxHeartbeats 8000000
namespace Go.Proofs.YthnemhfamhnfjaaGreatDoor
open Go Go.VL
attribute [local simp] zc2 zb3 evPure opd uOf zaF St.put St.at getK binD binI binS binB nilD aggD zgQ zha lookD lookR zcu Go.VL.nextD zcx zhu zhc zf2 zcw mkV zdj zbk zbu mapEff zdY zfQ Key.kk shiftI arith unD convD zdH loadD cellsAt fieldAddrD fieldD indexAddrD indexD sliceD cutD lenD minmaxD nilCheckD buildD fillD zbP zdb zeC setAll zcK zeO zco zg0 zcm St.add zaO zbF rowsOf zdA zcH zam zac zaa za7 zcC zaQ entry zbE zbO valD zb4 zcy zgh zdh zdi zbT zbK zaw zaW zbo delAll effD St.effS zcU za8 zaY zcV za9 za0 zb9 zaZ zaT zca zcS zbD zb8 zbl zb6 zb7 zaL mkD zbL zbv zbJ zaw zcn D.ids Op.operands Call.operands zby makeIfD makeFuncD typeAssertD zg9 zdw zdx zg1 zcv IntKind.bits zcN List.take_of_length_le List.range_succ
attribute [local irreducible] V G H HD HD2 zao Eff CallP CallV EndOK Fun Ret FinOK LoopI LoopW EndW
inductive Exp where
 | mk (op n unit : Int) (s : List UInt8) (args : List Exp)
 deriving Inhabited
def Exp.row : Exp -> List U
 | .mk op n u s args => [.int .i64 op, .int .i64 n, .int .i64 u, .str s, .sl (args.map fun e => e.row)]
def Exp.op : Exp -> Int | .mk op _ _ _ _ => op
def Exp.n : Exp -> Int | .mk _ n _ _ _ => n
def Exp.unit : Exp -> Int | .mk _ _ u _ _ => u
def Exp.s : Exp -> List UInt8 | .mk _ _ _ s _ => s
def Exp.args : Exp -> List Exp | .mk _ _ _ _ args => args
theorem Exp.row_eq (e : Exp) : e.row = [.int .i64 e.op, .int .i64 e.n, .int .i64 e.unit, .str e.s, .sl (e.args.map Exp.row)] := by
 cases e with
 | mk op n u s args => rw [Exp.row]; rfl
structure Var where
 name : List UInt8
 unit : Int
 n : Int
 deriving DecidableEq, Inhabited
structure Let where
 name : List UInt8
 body : Exp
 deriving Inhabited
def Var.row (v : Var) : List U := [.str v.name, .int .i64 v.unit, .int .i64 v.n]
def Let.row (l : Let) : List U := .str l.name :: l.body.row
def vars (l : List Var) : U := .sl (l.map Var.row)
def lets (l : List Let) : U := .sl (l.map Let.row)
def zbH (c : UInt8) : Bool := decide (97 <= c.toNat) && decide (c.toNat <= 122)
def za4 (c : UInt8) : Bool := decide (48 <= c.toNat) && decide (c.toNat <= 57)
theorem zdS (c : UInt8) : Fun Tryz.prog 102 [.u (.int .u8 c.toNat)] (· = .u (.bool (zbH c))) := by
 unfold zbH
 (refine Fun.of_body Tryz.func102 rfl (by simp) fun Γ hn => ?_); simp only [entry, ziC, ziN, maC, maN, oA, Tryz.ntmps102]
 repeat' (first
  | ((first | refine zaf ?_ | refine zaj ?_ | refine zag ?_ | fail); simp)
  | (refine zap ?_; simp only [zao])
  | (refine ⟨fun hc => ?_, fun hc => ?_⟩ <;> (try (exfalso; omega)))
  | fail)
 all_goals
  (refine EndOK.val (.inr rfl) ?_; simp [zay, zae, zaq, Tryz.results102])
 all_goals first | omega | (simp; omega) | (rw [Bool.eq_iff_iff]; simp; omega)
theorem zew (c : UInt8) : Fun Tryz.prog 104 [.u (.int .u8 c.toNat)] (· = .u (.bool (za4 c))) := by
 unfold za4
 (refine Fun.of_body Tryz.func104 rfl (by simp) fun Γ hn => ?_); simp only [entry, ziC, ziN, maC, maN, oA, Tryz.ntmps104]
 repeat' (first
  | ((first | refine zaf ?_ | refine zaj ?_ | refine zag ?_ | fail); simp)
  | (refine zap ?_; simp only [zao])
  | (refine ⟨fun hc => ?_, fun hc => ?_⟩ <;> (try (exfalso; omega)))
  | fail)
 all_goals
  (refine EndOK.val (.inr rfl) ?_; simp [zay, zae, zaq, Tryz.results104])
 all_goals first | omega | (simp; omega) | (rw [Bool.eq_iff_iff]; simp; omega)
theorem zl4 (c : UInt8) : Fun Tryz.prog 103 [.u (.int .u8 c.toNat)] (· = .u (.bool (zbH c || za4 c))) := by
 (refine Fun.of_body Tryz.func103 rfl (by simp) fun Γ hn => ?_); simp only [entry, ziC, ziN, maC, maN, oA, Tryz.ntmps103]
 repeat' (first
  | ((first | refine zaf ?_ | refine zaj ?_ | refine zag ?_ | fail); simp)
  | (refine zap ?_; simp only [zao])
  | (refine ⟨fun hc => ?_, fun hc => ?_⟩ <;> (try (exfalso; omega)))
  | (refine CallP.fE (zdS c) (by first | rfl | fail) (by first | (simp; done) | (simp; rfl) | fail) ?_; (try simp))
  | (refine CallP.fE (zew c) (by first | rfl | fail) (by first | (simp; done) | (simp; rfl) | fail) ?_; (try simp))
  | fail)
 all_goals
  (refine EndOK.val (.inr rfl) ?_; simp [zay, zae, zaq, Tryz.results103])
 all_goals simp_all
def zcp (p : UInt8 -> Bool) (l : List UInt8) : Nat := (l.takeWhile p).length
theorem zf8 {p : UInt8 -> Bool} {l : List UInt8} {i : Nat} (h : ∀ c ∈ l.take i, p c = true) (hi : i <= l.length) (he : i = l.length \/ ∃ c, l[i]? = some c /\ p c = false) : zcp p l = i := by
 unfold zcp
 induction l generalizing i with
 | nil => simp at hi; simp [hi]
 | cons a l ih =>
  cases i with
  | zero =>
   rcases he with he | ⟨c, h1, h2⟩
   ·simp at he
   ·simp at h1; subst h1; simp [h2]
  | succ i =>
   have ha : p a = true := h a (by simp);rw [List.takeWhile_cons, if_pos ha, List.length_cons];rw [ih (i := i) (fun c hc => h c (by simp [hc])) (by simpa using hi) (by simpa using he)]
def zg5 {α : Type} (p : α -> Bool) : List α -> Int -> Int
 | [], _ => -1
 | x :: l, i => if p x = true then i else zg5 p l (i + 1)
theorem zie {α : Type} {p : α -> Bool} {l : List α} {i : Nat} {x : α} {k : Int} (h : ∀ c ∈ l.take i, p c = false) (hx : l[i]? = some x) (hp : p x = true) : zg5 p l k = k + i := by
 induction l generalizing i k with
 | nil => simp at hx
 | cons s l ih =>
  cases i with
  | zero => simp at hx; simp [zg5, hx, hp]
  | succ i =>
   rw [zg5, if_neg (by rw [h s (by simp)]; simp), ih (i := i) (fun c hc => h c (by simp [hc])) (by simpa using hx)];omega
theorem zff {α : Type} {p : α -> Bool} {l : List α} {k : Int} (h : ∀ c ∈ l, p c = false) : zg5 p l k = -1 := by
 induction l generalizing k with
 | nil => rfl
 | cons s l ih => rw [zg5, if_neg (by rw [h s (by simp)]; simp), ih fun c hc => h c (by simp [hc])]
theorem zif {α : Type} (p : α -> Bool) (l : List α) : ∀ k : Int, 0 <= k -> (0 <= zg5 p l k ↔ l.any p = true) := by
 induction l with
 | nil => intro k hk; simp [zg5]
 | cons s l ih =>
  intro k hk;by_cases h : p s = true
  ·simp [zg5, h, hk]
  ·rw [zg5, if_neg h, ih (k + 1) (by omega)];simp [h]
theorem za5 {α : Type} {p : α -> Prop} {l : List α} {i : Nat} {x : α} (hx : l[i]? = some x) (h : ∀ c ∈ l.take i, p c) (hp : p x) : ∀ c ∈ l.take (i + 1), p c := by
 obtain ⟨hi, rfl⟩ := lGE.1 hx;rw [List.take_succ_eq_append_getElem hi];intro c hc;rcases List.mem_append.1 hc with hc | hc
 ·exact h c hc
 ·simp at hc; subst hc; exact hp
theorem ze9 (l : List UInt8) (hl : l.length <= 1000000) (f : FuncId) (p : UInt8 -> Bool) (hf : ∀ c ∈ l, Fun Tryz.prog f [.u (.int .u8 c.toNat)] (· = .u (.bool (p c)))) (hcl : zal Tryz.prog f = true) :
  Fun Tryz.prog 75 [.u (.str l), .fnc (.func f) []] (· = .u (.int .i64 (zcp p l))) := by
 (refine Fun.of_body Tryz.func75 rfl (by simp) fun Γ hn => ?_); simp only [entry, ziC, ziN, maC, maN, oA, Tryz.ntmps75]
 repeat' (first
  | ((first | refine zaf ?_ | refine zaj ?_ | refine zag ?_ | fail); simp)
  | fail)
 refine zbU (α := { i : Nat // i <= l.length /\ ∀ c ∈ l.take i, p c = true }) [0, 1] (fun i => [(5, .u (.int .i64 i.1))]) (fun i => l.length - i.1) ⟨0, by omega, by simp⟩ ?_ ?_
 ·exact (Wk.env rfl rfl rfl (by simp [wkE, St.lp, zak, zaa, getK] <;> (try (intros; simp_all; done)) <;> (try (intros; omega)) <;> (try grind)))
 rintro ⟨i, hi, hb⟩;simp [St.lp, St.only, zak, zaa, getK];rcases hx : l[i]? with _ | c
 ·have hge : l.length <= i := by simpa using hx
  repeat' (first
  | ((first | refine zaf ?_ | refine zaj ?_ | fail); simp [hx])
  | (refine ⟨by omega, ?_⟩)
  | ((first | refine zag ?_ | refine zai ?_ | fail); simp [hx])
  | (refine zap ?_; simp only [zao])
  | (refine zbq ?_; simp [zao])
  | (intro hc <;> (try (exfalso; omega)))
  | fail)
  (refine EndOK.val (.inr rfl) ?_; simp [zay, zae, zaq, Tryz.results75])
  rw [zf8 hb hi (.inl (by omega))]
 ·have hlt := (lGE.1 hx).1;have h1 := hf c (List.mem_of_getElem? hx)
  repeat' (first
  | ((first | refine zaf ?_ | refine zaj ?_ | fail); simp [hx])
  | (refine ⟨by omega, ?_⟩)
  | ((first | refine zag ?_ | refine zai ?_ | refine zas ?_ | fail); simp [hx])
  | ((first | refine zap ?_ | refine zar ?_ | fail); simp only [zao])
  | (refine zbq ?_; simp [zao])
  | (refine ⟨?_, by omega⟩)
  | (refine ⟨fun hc => ?_, fun hc => ?_⟩ <;> (try (exfalso; omega)))
  | (intro hc <;> (try (exfalso; omega)))
  | (refine CallP.fE (h1) (by first | rfl | fail) (by first | simp [hx] <;> rfl | fail) ?_; (try simp [hcl, hx]))
  | fail)
  ·refine LoopW.next ⟨i + 1, by omega, za5 hx hb (by assumption)⟩ (by simp; omega) ?_
   exact (Wk.env rfl rfl rfl (by simp [wkE, St.lp, zak, zaa, getK] <;> (try (intros; simp_all; done)) <;> (try (intros; omega)) <;> (try grind)))
  ·(refine EndOK.val (.inr rfl) ?_; simp [zay, zae, zaq, Tryz.results75])
   rw [zf8 hb hi (.inr ⟨c, hx, by assumption⟩)]
def zeR (s : List UInt8) : Bool := match s with
 | [] => false
 | c :: _ => zbH c && decide (s.length <= 20) && decide (zcp (fun c => zbH c || za4 c) s = s.length)
theorem zkq (s : List UInt8) : Fun Tryz.prog 47 [.u (.str s)] (· = .u (.bool (zeR s))) := by
 cases s with
 | nil =>
  (refine Fun.of_body Tryz.func47 rfl (by simp) fun Γ hn => ?_); simp only [entry, ziC, ziN, maC, maN, oA, Tryz.ntmps47]
  repeat' (first
  | ((first | refine zaf ?_ | refine zaj ?_ | refine zag ?_ | refine zai ?_ | fail); simp)
  | (refine zap ?_; simp only [zao])
  | fail)
  all_goals
   (refine EndOK.val (.inr rfl) ?_; simp [zay, zae, zaq, Tryz.results47])
  all_goals simp [zeR]
 | cons c s =>
  by_cases hl : s.length + 1 <= 20
  ·have hs := ze9 (c :: s) (by simp; omega) 103 _ (fun c _ => zl4 c) (by simp)
   (refine Fun.of_body Tryz.func47 rfl (by simp) fun Γ hn => ?_); simp only [entry, ziC, ziN, maC, maN, oA, Tryz.ntmps47]
   repeat' (first
  | ((first | refine zaf ?_ | refine zaj ?_ | fail); simp)
  | (refine ⟨by omega, ?_⟩)
  | ((first | refine zag ?_ | refine zai ?_ | fail); simp)
  | ((first | refine zap ?_ | refine zar ?_ | fail); simp only [zao])
  | (refine ⟨fun hc => ?_, fun hc => ?_⟩ <;> (try (exfalso; omega)))
  | (intro hc <;> (try (exfalso; omega)))
  | (refine CallP.fE (zdS c) (by first | rfl | fail) (by first | (simp; done) | (simp; rfl) | fail) ?_; (try simp))
  | (refine CallP.fE (hs) (by first | rfl | fail) (by first | (simp; done) | (simp; rfl) | fail) ?_; (try simp))
  | fail)
   all_goals
    (refine EndOK.val (.inr rfl) ?_; simp [zay, zae, zaq, Tryz.results47])
   all_goals
    simp [zeR, *]
    try omega
  ·(refine Fun.of_body Tryz.func47 rfl (by simp) fun Γ hn => ?_); simp only [entry, ziC, ziN, maC, maN, oA, Tryz.ntmps47]
   repeat' (first
  | ((first | refine zaf ?_ | refine zaj ?_ | refine zag ?_ | refine zai ?_ | fail); simp)
  | (refine zap ?_; simp only [zao])
  | (refine ⟨?_, by omega⟩)
  | (refine ⟨fun hc => ?_, fun hc => ?_⟩ <;> (try (exfalso; omega)))
  | (intro hc <;> (try (exfalso; omega)))
  | (refine CallP.fE (zdS c) (by first | rfl | fail) (by first | (simp; done) | (simp; rfl) | fail) ?_; (try simp))
  | fail)
   all_goals
     (refine EndOK.val (.inr rfl) ?_; simp [zay, zae, zaq, Tryz.results47])
   all_goals
     simp [zeR, *]
     try omega
def znz (l : List (List UInt8)) : U := .sl (l.map fun s => [.str s])
def zm3 : List (List UInt8) -> List UInt8 -> Int -> Int
 | [], _, _ => -1
 | s :: l, x, i => if x = s then i else zm3 l x (i + 1)
theorem zo8 {l : List (List UInt8)} {x : List UInt8} {i : Nat} {k : Int} (h : ∀ c ∈ l.take i, ¬ x = c) (hx : l[i]? = some x) : zm3 l x k = k + i := by
 induction l generalizing i k with
 | nil => simp at hx
 | cons s l ih =>
  cases i with
  | zero => simp at hx; simp [zm3, hx]
  | succ i =>
   rw [zm3, if_neg (h s (by simp)), ih (i := i) (fun c hc => h c (by simp [hc])) (by simpa using hx)];omega
theorem zm2 {l : List (List UInt8)} {x : List UInt8} {k : Int} (h : ∀ c ∈ l, ¬ x = c) : zm3 l x k = -1 := by
 induction l generalizing k with
 | nil => rfl
 | cons s l ih => rw [zm3, if_neg (h s (by simp)), ih fun c hc => h c (by simp [hc])]
theorem zlG (l : List (List UInt8)) (x : List UInt8) : Fun Tryz.prog 105 [.u (znz l), .u (.str x)] (· = .u (.int .i64 (zm3 l x 0))) := by
 (refine Fun.of_body Tryz.func105 rfl (by simp) fun Γ hn => ?_); simp only [entry, ziC, ziN, maC, maN, oA, Tryz.ntmps105]
 simp only [znz];refine ziu (x := 0) rfl fun hl => ?_;simp at hl
 repeat' (first
  | ((first | refine zaf ?_ | refine zaj ?_ | refine zag ?_ | refine zas ?_ | fail); simp)
  | fail)
 refine zbU (α := { i : Nat // i <= l.length /\ ∀ c ∈ l.take i, ¬ x = c }) [0, 1, 7] (fun i => [(8, .u (.int .i64 i.1))]) (fun i => l.length - i.1) ⟨0, by omega, by simp⟩ ?_ ?_
 ·exact (Wk.env rfl rfl rfl (by simp [wkE, St.lp, zak, zaa, getK] <;> (try (intros; simp_all; done)) <;> (try (intros; omega)) <;> (try grind)))
 rintro ⟨i, hi, hb⟩;simp [St.lp, St.only, zak, zaa, getK];rcases hx : l[i]? with _ | c
 ·have hge : l.length <= i := by simpa using hx
  repeat' (first
  | ((first | refine zaf ?_ | refine zaj ?_ | fail); simp [hx])
  | (refine ⟨by omega, ?_⟩)
  | (refine zag ?_; simp [hx])
  | (refine zap ?_; simp only [zao])
  | (refine zbq ?_; simp [zao])
  | (intro hc <;> (try (exfalso; omega)))
  | fail)
  (refine EndOK.val (.inr rfl) ?_; simp [zay, zae, zaq, Tryz.results105])
  rw [List.take_of_length_le hge] at hb;exact (zm2 hb).symm
 ·have hlt := (lGE.1 hx).1;by_cases hxc : x = c
  ·subst hxc
   repeat' (first
  | ((first | refine zaf ?_ | refine zaj ?_ | refine zag ?_ | refine zai ?_ | fail); simp [hx])
  | ((first | refine zap ?_ | refine zar ?_ | fail); simp only [zao])
  | (refine ⟨?_, by omega⟩)
  | (intro hc <;> (try (exfalso; omega)))
  | fail)
   (refine EndOK.val (.inr rfl) ?_; simp [zay, zae, zaq, Tryz.results105])
   rw [zo8 hb hx];omega
  ·repeat' (first
  | ((first | refine zaf ?_ | refine zaj ?_ | fail); simp [hx, hxc])
  | (refine ⟨by omega, ?_⟩)
  | ((first | refine zag ?_ | refine zai ?_ | refine zat ?_ | fail); simp [hx, hxc])
  | (refine zar ?_; simp only [zao])
  | (refine ⟨?_, by omega⟩)
  | (intro hc <;> (try (exfalso; omega)))
  | fail)
   refine LoopW.next ⟨i + 1, by omega, za5 hx hb hxc⟩ (by simp; omega) ?_
   exact (Wk.env rfl rfl rfl (by simp [wkE, St.lp, zak, zaa, getK] <;> (try (intros; simp_all; done)) <;> (try (intros; omega)) <;> (try grind)))
theorem zoc (l : List (List UInt8)) (x : List UInt8) : ∀ k : Int, 0 <= k -> decide (0 <= zm3 l x k) = l.contains x := by
 induction l with
 | nil => intro k hk; simp [zm3]
 | cons s l ih =>
  intro k hk;by_cases h : x = s
  ·subst h; simp [zm3, hk]
  ·rw [zm3, if_neg h, ih (k + 1) (by omega)];simp [h]
theorem zin (l : List (List UInt8)) (x : List UInt8) : Fun Tryz.prog 48 [.u (znz l), .u (.str x)] (· = .u (.bool (l.contains x))) := by
 have h1 := zlG l x
 (refine Fun.of_body Tryz.func48 rfl (by simp) fun Γ hn => ?_); simp only [entry, ziC, ziN, maC, maN, oA, Tryz.ntmps48]
 simp only [znz] at h1 ⊢
 repeat' (first
  | ((first | refine zaf ?_ | refine zaj ?_ | refine zag ?_ | fail); simp)
  | (refine zap ?_; simp only [zao])
  | (refine CallP.fE (h1) (by first | rfl | fail) (by first | (simp; done) | (simp; rfl) | fail) ?_; (try simp))
  | fail)
 (refine EndOK.val (.inr rfl) ?_; simp [zay, zae, zaq, Tryz.results48])
 have h2 := zoc l x 0 (by omega);simpa using h2
def words : List (List UInt8) := [[97, 110, 100], [98, 97, 99, 107, 115], [98, 105, 100, 100, 105, 110, 103], [99, 105, 114, 99, 108, 101], [99, 111, 105, 110, 115], [99, 111, 118, 101, 114], [100, 97, 121, 115], [100, 114, 97, 119], [100, 117, 101], [101, 108, 115, 101], [102, 97, 108, 115, 101], [102, 105, 110, 101], [102, 117, 110, 100], [103, 114, 97, 99, 101], [104, 111, 108, 100], [105, 102], [106, 111, 105, 110], [106, 117, 114, 121], [108, 101, 116], [109, 97, 120], [109, 105, 108, 108, 101], [109, 105, 110], [110, 101, 101, 100], [110, 111, 116], [111, 114], [111, 114, 100, 101, 114], [112, 97, 121], [112, 101, 114], [114, 111, 116, 97, 116, 105, 110, 103], [115, 97, 118, 105, 110, 103], [115, 101, 97, 108, 101, 100], [116, 104, 101, 110], [116, 114, 117, 101], [118, 111, 105, 99, 101, 115], [119, 97, 105, 116]]
set_option maxHeartbeats 4000000 in
set_option maxRecDepth 100000 in
theorem ziT : Fun Tryz.prog 49 [] (· = .u (znz words)) := by
 (refine Fun.of_bodyW Tryz.func49 rfl (by simp) fun Γ hn => ?_); simp only [entry, ziC, ziN, maC, maN, oA, Tryz.ntmps49]
 simp only [znz, words, List.map_cons, List.map_nil]
 repeat' (first
  | ((first | refine zaf ?_ | refine zaj ?_ | refine zag ?_ | fail); simp [zbO, zbE])
  | (refine zap ?_; simp only [zao])
  | fail)
 (refine EndW.frzN 1 ?_; simp [frzN, frz1, zaC, zaB, St.frz, St.frzS, frzS, fv, zaJ, za6, zba, zaG, zav, zan, del, frz, zbb])
 refine EndW.here ?_
 (refine EndOK.val (.inr rfl) ?_; simp [zay, zae, zaq, Tryz.results49])
def zkG (l : Let) : List U := [.str l.name, .int .i64 l.body.op, .int .i64 l.body.n, .int .i64 l.body.unit, .str l.body.s, .sl (l.body.args.map Exp.row)]
def zmY (l : Let) : D := .u (.agg [.str l.name, .int .i64 l.body.op, .int .i64 l.body.n, .int .i64 l.body.unit, .str l.body.s, .sl (l.body.args.map Exp.row)])
def zeV (l : List Let) : U := .sl (l.map fun l => [.str l.name, .int .i64 l.body.op, .int .i64 l.body.n, .int .i64 l.body.unit, .str l.body.s, .sl (l.body.args.map Exp.row)])
theorem zlI (l : List (Let)) (f : FuncId) (caps : List U) (p : Let -> Bool) (hf : ∀ n ∈ l, Fun Tryz.prog f (zmY n :: caps.map .u) (· = .u (.bool (p n)))) (hcl : zal Tryz.prog f = true)
  (hca : ∀ o, zcy o (caps.map .u) = some (caps.map .u, [])) : Fun Tryz.prog 120 [.u (zeV l), .fnc (.func f) (caps.map .u)] (· = .u (.int .i64 (zg5 p l 0))) := by
 (refine Fun.of_body Tryz.func120 rfl (by simp) fun Γ hn => ?_); simp only [entry, ziC, ziN, maC, maN, oA, Tryz.ntmps120]
 simp only [zeV];refine ziu (x := 0) rfl fun hl => ?_;simp at hl
 repeat' (first
  | ((first | refine zaf ?_ | refine zaj ?_ | refine zag ?_ | refine zas ?_ | fail); simp)
  | fail)
 refine zbU (α := { i : Nat // i <= l.length /\ ∀ c ∈ l.take i, p c = false }) [0, 1, 7] (fun i => [(8, .u (.int .i64 i.1))]) (fun i => l.length - i.1) ⟨0, by omega, by simp⟩ ?_ ?_
 ·exact (Wk.env rfl rfl rfl (by simp [wkE, St.lp, zak, zaa, getK] <;> (try (intros; simp_all; done)) <;> (try (intros; omega)) <;> (try grind)))
 rintro ⟨i, hi, hb⟩;simp [St.lp, St.only, zak, zaa, getK];rcases hx : l[i]? with _ | n
 ·have hge : l.length <= i := by simpa using hx
  repeat' (first
  | ((first | refine zaf ?_ | refine zaj ?_ | fail); simp [hx])
  | (refine ⟨by omega, ?_⟩)
  | (refine zag ?_; simp [hx])
  | (refine zap ?_; simp only [zao])
  | (refine zbq ?_; simp [zao])
  | (intro hc <;> (try (exfalso; omega)))
  | fail)
  (refine EndOK.val (.inr rfl) ?_; simp [zay, zae, zaq, Tryz.results120])
  rw [List.take_of_length_le hge] at hb;exact (zff hb).symm
 ·have hlt : i < l.length := (lGE.1 hx).1;have h1 := hf n (List.mem_of_getElem? hx);simp only [zmY] at h1;cases hp : p n
  ·rw [hp] at h1
   repeat' (first
  | ((first | refine zaf ?_ | refine zaj ?_ | fail); simp [hx, hca])
  | (refine ⟨by omega, ?_⟩)
  | ((first | refine zag ?_ | refine zai ?_ | refine zat ?_ | fail); simp [hx, hca])
  | (refine zar ?_; simp only [zao])
  | (refine ⟨?_, by omega⟩)
  | (intro hc <;> (try (exfalso; omega)))
  | (refine CallP.fE (h1) (by first | rfl | fail) (by first | simp [hx, hca] <;> rfl | fail) ?_; (try simp [hcl, hx, hca]))
  | fail)
   refine LoopW.next ⟨i + 1, by omega, za5 hx hb hp⟩ (by simp; omega) ?_
   exact (Wk.env rfl rfl rfl (by simp [wkE, St.lp, zak, zaa, getK] <;> (try (intros; simp_all; done)) <;> (try (intros; omega)) <;> (try grind)))
  ·rw [hp] at h1
   repeat' (first
  | ((first | refine zaf ?_ | refine zaj ?_ | refine zag ?_ | refine zai ?_ | fail); simp [hx, hca])
  | ((first | refine zap ?_ | refine zar ?_ | fail); simp only [zao])
  | (refine ⟨?_, by omega⟩)
  | (intro hc <;> (try (exfalso; omega)))
  | (refine CallP.fE (h1) (by first | rfl | fail) (by first | simp [hx, hca] <;> rfl | fail) ?_; (try simp [hcl, hx, hca]))
  | fail)
   (refine EndOK.val (.inr rfl) ?_; simp [zay, zae, zaq, Tryz.results120])
   rw [zie hb hx hp];omega
theorem zfm (l : List (Let)) (f : FuncId) (caps : List U) (p : Let -> Bool) (hf : ∀ n ∈ l, Fun Tryz.prog f (zmY n :: caps.map .u) (· = .u (.bool (p n)))) (hcl : zal Tryz.prog f = true)
  (hca : ∀ o, zcy o (caps.map .u) = some (caps.map .u, [])) (hcb : ∀ o, zbK o (caps.map .u) = some (caps, [])) : Fun Tryz.prog 67 [.u (zeV l), .fnc (.func f) (caps.map .u)] (· = .u (.bool (l.any p))) := by
 have h1 := zlI l f caps p hf hcl hca
 (refine Fun.of_body Tryz.func67 rfl (by simp) fun Γ hn => ?_); simp only [entry, ziC, ziN, maC, maN, oA, Tryz.ntmps67]
 simp only [zeV] at h1 ⊢
 repeat' (first
  | ((first | refine zaf ?_ | refine zaj ?_ | refine zag ?_ | fail); simp [hcb])
  | (refine zap ?_; simp only [zao])
  | (refine CallP.fE (h1) (by first | rfl | fail) (by first | simp [hcb] <;> rfl | fail) ?_; (try simp [hcl, hcb]))
  | fail)
 (refine EndOK.val (.inr rfl) ?_; simp [zay, zae, zaq, Tryz.results67])
 have h2 := zif p l 0 (by omega);rw [Bool.eq_iff_iff];simpa using h2
def zpT (n : Int) : D := .u (.int .i64 n)
def zo5 (l : List Int) : U := .sl (l.map fun n => [.int .i64 n])
theorem zlJ (l : List (Int)) (f : FuncId) (caps : List U) (p : Int -> Bool) (hf : ∀ n ∈ l, Fun Tryz.prog f (zpT n :: caps.map .u) (· = .u (.bool (p n)))) (hcl : zal Tryz.prog f = true)
  (hca : ∀ o, zcy o (caps.map .u) = some (caps.map .u, [])) : Fun Tryz.prog 140 [.u (zo5 l), .fnc (.func f) (caps.map .u)] (· = .u (.int .i64 (zg5 p l 0))) := by
 (refine Fun.of_body Tryz.func140 rfl (by simp) fun Γ hn => ?_); simp only [entry, ziC, ziN, maC, maN, oA, Tryz.ntmps140]
 simp only [zo5];refine ziu (x := 0) rfl fun hl => ?_;simp at hl
 repeat' (first
  | ((first | refine zaf ?_ | refine zaj ?_ | refine zag ?_ | refine zas ?_ | fail); simp)
  | fail)
 refine zbU (α := { i : Nat // i <= l.length /\ ∀ c ∈ l.take i, p c = false }) [0, 1, 7] (fun i => [(8, .u (.int .i64 i.1))]) (fun i => l.length - i.1) ⟨0, by omega, by simp⟩ ?_ ?_
 ·exact (Wk.env rfl rfl rfl (by simp [wkE, St.lp, zak, zaa, getK] <;> (try (intros; simp_all; done)) <;> (try (intros; omega)) <;> (try grind)))
 rintro ⟨i, hi, hb⟩;simp [St.lp, St.only, zak, zaa, getK];rcases hx : l[i]? with _ | n
 ·have hge : l.length <= i := by simpa using hx
  repeat' (first
  | ((first | refine zaf ?_ | refine zaj ?_ | fail); simp [hx])
  | (refine ⟨by omega, ?_⟩)
  | (refine zag ?_; simp [hx])
  | (refine zap ?_; simp only [zao])
  | (refine zbq ?_; simp [zao])
  | (intro hc <;> (try (exfalso; omega)))
  | fail)
  (refine EndOK.val (.inr rfl) ?_; simp [zay, zae, zaq, Tryz.results140])
  rw [List.take_of_length_le hge] at hb;exact (zff hb).symm
 ·have hlt : i < l.length := (lGE.1 hx).1;have h1 := hf n (List.mem_of_getElem? hx);simp only [zpT] at h1;cases hp : p n
  ·rw [hp] at h1
   repeat' (first
  | ((first | refine zaf ?_ | refine zaj ?_ | fail); simp [hx, hca])
  | (refine ⟨by omega, ?_⟩)
  | ((first | refine zag ?_ | refine zai ?_ | refine zat ?_ | fail); simp [hx, hca])
  | (refine zar ?_; simp only [zao])
  | (refine ⟨?_, by omega⟩)
  | (intro hc <;> (try (exfalso; omega)))
  | (refine CallP.fE (h1) (by first | rfl | fail) (by first | simp [hx, hca] <;> rfl | fail) ?_; (try simp [hcl, hx, hca]))
  | fail)
   refine LoopW.next ⟨i + 1, by omega, za5 hx hb hp⟩ (by simp; omega) ?_
   exact (Wk.env rfl rfl rfl (by simp [wkE, St.lp, zak, zaa, getK] <;> (try (intros; simp_all; done)) <;> (try (intros; omega)) <;> (try grind)))
  ·rw [hp] at h1
   repeat' (first
  | ((first | refine zaf ?_ | refine zaj ?_ | refine zag ?_ | refine zai ?_ | fail); simp [hx, hca])
  | ((first | refine zap ?_ | refine zar ?_ | fail); simp only [zao])
  | (refine ⟨?_, by omega⟩)
  | (intro hc <;> (try (exfalso; omega)))
  | (refine CallP.fE (h1) (by first | rfl | fail) (by first | simp [hx, hca] <;> rfl | fail) ?_; (try simp [hcl, hx, hca]))
  | fail)
   (refine EndOK.val (.inr rfl) ?_; simp [zay, zae, zaq, Tryz.results140])
   rw [zie hb hx hp];omega
theorem zio (l : List (Int)) (f : FuncId) (caps : List U) (p : Int -> Bool) (hf : ∀ n ∈ l, Fun Tryz.prog f (zpT n :: caps.map .u) (· = .u (.bool (p n)))) (hcl : zal Tryz.prog f = true)
  (hca : ∀ o, zcy o (caps.map .u) = some (caps.map .u, [])) (hcb : ∀ o, zbK o (caps.map .u) = some (caps, [])) : Fun Tryz.prog 118 [.u (zo5 l), .fnc (.func f) (caps.map .u)] (· = .u (.bool (l.any p))) := by
 have h1 := zlJ l f caps p hf hcl hca
 (refine Fun.of_body Tryz.func118 rfl (by simp) fun Γ hn => ?_); simp only [entry, ziC, ziN, maC, maN, oA, Tryz.ntmps118]
 simp only [zo5] at h1 ⊢
 repeat' (first
  | ((first | refine zaf ?_ | refine zaj ?_ | refine zag ?_ | fail); simp [hcb])
  | (refine zap ?_; simp only [zao])
  | (refine CallP.fE (h1) (by first | rfl | fail) (by first | simp [hcb] <;> rfl | fail) ?_; (try simp [hcl, hcb]))
  | fail)
 (refine EndOK.val (.inr rfl) ?_; simp [zay, zae, zaq, Tryz.results118])
 have h2 := zif p l 0 (by omega);rw [Bool.eq_iff_iff];simpa using h2
end Go.Proofs.YthnemhfamhnfjaaGreatDoor
namespace Go.Proofs.YthnemhfamhnfjaaGreatDoor
open Go Go.VL Go.ChangeShapes Go.WideShapes Go.ChangeAt Go.RowKit
theorem Tryz.own : ownKnob Tryz.prog.godebug = none := by kernel_rfl
theorem Tryz.zpn : laidOutB Tryz.prog = true := by kernel_rfl
theorem Tryz.zsl : zhf Tryz.prog = true := by kernel_rfl
theorem zoP : ∀ (m : Nat) (r : List U), SizeOf.sizeOf r <= m -> HasRow Tryz.prog 26 r -> ∃ e : Exp, r = e.row
 | 0, r, hm, _ => by cases r <;> simp at hm
 | m + 1, r, hm, h => by
  obtain ⟨rs, hr, h⟩ := h.of_struct zrv
  match rs, h with
  | [a, b, c, d, f], h =>
   obtain ⟨h1, h2, h3, h4, h5, _⟩ := h;obtain ⟨x, rfl, _⟩ := h1.of_int io3;obtain ⟨y, rfl, _⟩ := h2.of_int io3;obtain ⟨z, rfl, _⟩ := h3.of_int io3;obtain ⟨s, rfl, _⟩ := h4.of_str (by simp);obtain ⟨rows, rfl, _, h6⟩ := h5.of_slice zrB;have hsz : ∀ q ∈ rows, SizeOf.sizeOf q <= m := fun q hq => by
    have := List.sizeOf_lt_of_mem hq;rw [hr] at hm;simp at hm;omega
   obtain ⟨l, rfl, _⟩ := rows_list Exp.row (fun _ => True) (rows := rows) fun q hq => by
    obtain ⟨e, he⟩ := zoP m q (hsz q hq) (h6 q hq);exact ⟨e, he, trivial⟩
   exact ⟨.mk x y z s l, by rw [hr, Exp.row_eq]; rfl⟩
theorem zfF {r : List U} (h : HasRow Tryz.prog 26 r) : ∃ e : Exp, r = [.int .i64 e.op, .int .i64 e.n, .int .i64 e.unit, .str e.s, .sl (e.args.map Exp.row)] := by
 obtain ⟨e, rfl⟩ := zoP _ r (Nat.le_refl _) h;exact ⟨e, e.row_eq⟩
theorem zpR {r : List U} (h : HasRow Tryz.prog 45 r) : ∃ l : Let, r = [.str l.name, .int .i64 l.body.op, .int .i64 l.body.n, .int .i64 l.body.unit, .str l.body.s, .sl (l.body.args.map Exp.row)] /\ True := by
 obtain ⟨rs, hr, h⟩ := h.of_struct zru
 match rs, h with
 | [a, b], h =>
  obtain ⟨h1, h2, _⟩ := h;obtain ⟨x, rfl, _⟩ := h1.of_str (by simp);obtain ⟨e, rfl⟩ := zfF h2;exact ⟨⟨x, e⟩, by rw [hr]; rfl, trivial⟩
end Go.Proofs.YthnemhfamhnfjaaGreatDoor
namespace Go.Proofs.YthnemhfamhnfjaaGreatDoor
open Go Go.VL
abbrev zmX : List (String × DataW Unit) := [("math/bits.deBruijn32tab", Rows.laid_math_bits_deBruijn32tab), ("math/bits.deBruijn64tab", Rows.laid_math_bits_deBruijn64tab), ("internal/strconv.uint64pow10", Rows.laid_internal_strconv_uint64pow10), ("stokvel/lex.signs", Rows.laid_stokvel_lex_signs)]
theorem zog (os : Os) (args : Array Value) : laidMetH Tryz.prog zmX ((World.doorLaid Tryz.prog 400 os).forCall (fun _ _ => 0) ⟨#[], args, []⟩).memory :=
 laidMetH_of_parts3 (fuel := 8) (laidMet_of_run' 8 (by kernel_rfl) (by kernel_rfl)) (by kernel_rfl) (by kernel_rfl)
theorem zig {P : Program} {w : World} {n : String} {g : Nat} {cs : Array Value} (hg : P.globalNamed n = some g) (hv : w.var? P n = some cs) :
  (∀ j, j < cs.toList.length -> VL.look w g j = some (.val (cs.toList.getD j undef))) /\ VL.look w g cs.toList.length = some .fin := by
 unfold World.var? at hv;rw [hg, Option.bind_some] at hv;split at hv
 ·rename_i cs0 t fr hh;cases hv;refine ⟨fun j hj => zdR ?_, ?_⟩
  ·have hj' : j < cs.size := by simpa using hj
   simp [World.cell?, hh, hj', List.getD]
  ·have := znX hh;simpa using this
 ·cases hv
theorem zo0 {P : Program} {w : World} {n : String} {g : Nat} {t e : TypeId} {cs : Array Value} {L : List (List UInt8)} {fuel : Nat} {H : Type} {enc : TypeId × Value -> H} {base : Nat} {spare : Nat -> Bool} {held : Bool} {q : List MemPlace}
  (hg : P.globalNamed n = some g) (hv : w.var? P n = some cs) (ht : P.underlying t = some (.array L.length e)) (he : P.underlying e = some .string) (hc : P.cellsOf e = 1) (hct : P.cellsOf t = L.length)
  (hd : DataW.trod enc P w base spare held fuel t cs.toList = some (.agg (L.map fun b => .lit (.string b)), q)) : cs.toList = L.map fun b => .string ⟨b.toArray⟩ := by
 obtain ⟨xs, m1, rfl, hx1, hlen, hn3, hel⟩ := DataW.trod_array ht hd;have hcell := ziq hg hv ht he hc hd;apply List.ext_getElem?;intro j;cases hb : L[j]? with
 | none =>
  have := List.getElem?_eq_none_iff.1 hb;rw [List.getElem?_eq_none (by omega), List.getElem?_map, hb]; rfl
 | some b =>
  have h := hcell j b hb;rw [World.var?_cell hg hv j] at h;rw [List.getElem?_map, hb, Array.getElem?_toList, h]; rfl
def zpJ : List (List UInt8) := [[61, 61], [59], [44], [61], [60], [43], [45], [42], [47], [40], [41]]
theorem zm5 (W : World) (h : laidMetH Tryz.prog zmX W) : GlobIn (ziy W) := by
 rw [MakeChecks.laidMetH_plain _ _ _ (by kernel_rfl)] at h;obtain ⟨ps, ⟨ga, ta, ca, fa, pa, qa, hga, hta, hva, hda, ⟨gb, tb, cb, fb, pb, qb, hgb, htb, hvb, hdb, ⟨gc, tc, cc, fc, pc, qc, hgc, htc, hvc, hdc, ⟨gd, td, cd, fd, pd, qd, hgd, htd, hvd, hdd, _⟩, _⟩, _⟩, _⟩, _⟩ := h;obtain rfl : ga = 3 := Option.some.inj (hga.symm.trans (by kernel_rfl));obtain rfl : gb = 4 := Option.some.inj (hgb.symm.trans (by kernel_rfl));obtain rfl : gc = 2 := Option.some.inj (hgc.symm.trans (by kernel_rfl));obtain rfl : gd = 0 := Option.some.inj (hgd.symm.trans (by kernel_rfl));obtain rfl : ta = 164 := Option.some.inj (hta.symm.trans (by kernel_rfl));obtain rfl : tb = 165 := Option.some.inj (htb.symm.trans (by kernel_rfl));obtain rfl : tc = 158 := Option.some.inj (htc.symm.trans (by kernel_rfl));obtain rfl : td = 138 := Option.some.inj (htd.symm.trans (by kernel_rfl));have ea := Lib.cells_of_tab (p := pa) (n := 32) (e := 5) (k := .u8) (zs := (globs[1]!.2.map fun v => match v with | .int _ z => z | _ => 0)) (by kernel_rfl) (by kernel_rfl) (by kernel_rfl) (by kernel_rfl) (hda.trans (by kernel_rfl));have eb := Lib.cells_of_tab (p := pb) (n := 64) (e := 5) (k := .u8) (zs := (globs[2]!.2.map fun v => match v with | .int _ z => z | _ => 0)) (by kernel_rfl) (by kernel_rfl) (by kernel_rfl) (by kernel_rfl) (hdb.trans (by kernel_rfl));have ec := Lib.cells_of_tab (p := pc) (n := 20) (e := 152) (k := .u64) (zs := (globs[0]!.2.map fun v => match v with | .int _ z => z | _ => 0)) (by kernel_rfl) (by kernel_rfl) (by kernel_rfl) (by kernel_rfl) (hdc.trans (by kernel_rfl));have ed := zo0 (q := pd) (L := zpJ) hgd hvd (by kernel_rfl) (e := 9) (by kernel_rfl) (by kernel_rfl) (by kernel_rfl) (hdd.trans (by kernel_rfl));have fa := zig hga hva;have fb := zig hgb hvb;have fc := zig hgc hvc;have fd := zig hgd hvd;rw [ea] at fa;rw [eb] at fb;rw [ec] at fc;rw [ed] at fd;intro p hp;unfold globs at hp;simp only [List.mem_cons, List.not_mem_nil, or_false] at hp;rcases hp with rfl | rfl | rfl | rfl
 ·exact fc
 ·exact fa
 ·exact fb
 ·exact fd
end Go.Proofs.YthnemhfamhnfjaaGreatDoor
namespace Go.Proofs.YthnemhfamhnfjaaGreatDoor
open Go Go.VL
structure Tok where
 kind : Int
 text : List UInt8
 n : Int
 pos : Int
 deriving DecidableEq, Inhabited
def Tok.row (t : Tok) : List U := [.int .i64 t.kind, .str t.text, .int .i64 t.n, .int .i64 t.pos]
def zbZ (c : UInt8) : Bool := decide (c.toNat = 32) || decide (c.toNat = 9) || decide (c.toNat = 10)
def zc1 (c : UInt8) : Bool := zbH c || za4 c
def zbe (s : List UInt8) : Int := s.foldl (fun n c => 10 * n + ((c.toNat : Int) - 48)) 0
def zfy (s : List UInt8) : Option Int :=
 if s = [] \/ zcp za4 s ≠ s.length \/ (s.head? = some 48 /\ s ≠ [48]) \/ 13 < s.length then none else if 1099511627776 < zbe s then none else some (zbe s)
theorem zev (s : List UInt8) (c : UInt8) : zbe (s ++ [c]) = 10 * zbe s + ((c.toNat : Int) - 48) := by simp [zbe]
theorem zfl : ∀ (n : Nat) (s : List UInt8), s.length = n -> (∀ c ∈ s, za4 c = true) -> 0 <= zbe s /\ zbe s < 10 ^ n
 | 0, s, h, _ => by have := List.eq_nil_of_length_eq_zero h; subst this; simp [zbe]
 | n + 1, s, h, hd => by
  have hne : s ≠ [] := fun e => by rw [e] at h; simp at h
  obtain ⟨t, c, rfl⟩ : ∃ t c, s = t ++ [c] := ⟨s.dropLast, s.getLast hne, (List.dropLast_concat_getLast hne).symm⟩;have h1 := zfl n t (by simpa using h) (fun x hx => hd x (by simp [hx]));have h2 := hd c (by simp);simp only [za4, Bool.and_eq_true, decide_eq_true_eq] at h2;rw [zev];have : (10 : Int) ^ (n + 1) = 10 * 10 ^ n := by rw [Int.pow_succ]; omega
  omega
end Go.Proofs.YthnemhfamhnfjaaGreatDoor
namespace Go.Proofs.YthnemhfamhnfjaaGreatDoor
open Go Go.VL
def signsL : List (List UInt8) := [[61, 61], [59], [44], [61], [60], [43], [45], [42], [47], [40], [41]]
def zg2 (s : List UInt8) : Except Int Tok := match s with
 | [] => .error 0
 | c :: r => if zbH c = true then
   if zeR ((c :: r).take (zcp zc1 (c :: r))) = true then .ok ⟨1, (c :: r).take (zcp zc1 (c :: r)), 0, 0⟩ else .error 13
  else if za4 c = true then
   match zfy ((c :: r).take (zcp za4 (c :: r))) with | some n => .ok ⟨2, (c :: r).take (zcp za4 (c :: r)), n, 0⟩ | none => .error 3
  else match signsL.find? fun x => x.isPrefixOf (c :: r) with | some x => .ok ⟨3, x, 0, 0⟩ | none => .error 11
def nextD (s : List UInt8) : D := match zg2 s with | .ok t => .tup [.u (.agg [.int .i64 t.kind, .str t.text, .int .i64 t.n, .int .i64 t.pos]), .u (.int .i64 0)] | .error e => .tup [.u (.agg [.int .i64 0, .str [], .int .i64 0, .int .i64 0]), .u (.int .i64 e)]
end Go.Proofs.YthnemhfamhnfjaaGreatDoor
namespace Go.Proofs.YthnemhfamhnfjaaGreatDoor
open Go Go.VL
attribute [local simp] HS zc2 zb3 evPure opd uOf zaF St.put St.at getK binD binI binS binB nilD aggD zgQ zha lookD lookR zcu Go.VL.nextD zcx zhu zhc zf2 zcw mkV zdj zbk zbu mapEff zdY zfQ Key.kk shiftI arith unD convD zdH loadD cellsAt fieldAddrD fieldD indexAddrD indexD sliceD cutD lenD minmaxD nilCheckD buildD fillD zbP zdb zeC setAll zcK zeO zco zg0 zcm St.add zaO zbF rowsOf zdA zcH zam zac zaa za7 zcC zaQ entry zbE zbO valD zb4 zcy zgh zdh zdi zbT zbK zaw zaW zbo delAll effD St.effS zcU za8 zaY zcV za9 za0 zb9 zaZ zaT zca zcS zbD zb8 zbl zb6 zb7 zaL mkD zbL zbv zbJ zaw zcn D.ids Op.operands Call.operands zby makeIfD makeFuncD typeAssertD zg9 zdw zdx zg1 zcv IntKind.bits zcN List.take_of_length_le List.range_succ
attribute [local irreducible] V G H HD HD2 HD4 zjP RetX zao Eff CallP CallV EndOK Fun Ret FinOK LoopI LoopW EndW
def zcs (s : List UInt8) : Bool := zeR s && !words.contains s
set_option maxRecDepth 100000 in
theorem zeD (s : List UInt8) : Fun Tryz.prog 16 [.u (.str s)] (· = .u (.bool (zcs s))) := by
 have h1 := zin words s;have h2 := zkq s;have h3 := ziT;generalize hw : words.contains s = w at h1;simp only [znz] at h1 h3;generalize (words.map fun s => [U.str s]) = W at h1 h3;unfold zcs;rw [hw];clear hw;generalize zeR s = b at h2 ⊢;cases b
 all_goals
  (refine Fun.of_body Tryz.func16 rfl (by simp) fun Γ hn => ?_); simp only [entry, ziC, ziN, maC, maN, oA, Tryz.ntmps16]
  repeat' (first
  | ((first | refine zaf ?_ | refine zaj ?_ | refine zag ?_ | fail); simp)
  | (refine zap ?_; simp only [zao])
  | (refine CallP.fE (h1) (by first | rfl | fail) (by first | (simp; done) | (simp; rfl) | fail) ?_; (try simp))
  | (refine CallP.fE (h2) (by first | rfl | fail) (by first | (simp; done) | (simp; rfl) | fail) ?_; (try simp))
  | (refine CallP.fE (h3) (by first | rfl | fail) (by first | (simp; done) | (simp; rfl) | fail) ?_; (try simp))
  | fail)
  (refine EndOK.val (.inr rfl) ?_; simp [zay, zae, zaq, Tryz.results16])
def zbm (op : Int) : Int := if op = 0 \/ op = 1 then 0 else if op = 12 then 1 else if op = 13 then 3 else if op < 0 \/ 14 <= op then -1 else 2
theorem zjb (op : Int) : Fun Tryz.prog 121 [.u (.int .i64 op)] (· = .u (.int .i64 (zbm op))) := by
 unfold zbm
 (refine Fun.of_body Tryz.func121 rfl (by simp) fun Γ hn => ?_); simp only [entry, ziC, ziN, maC, maN, oA, Tryz.ntmps121]
 repeat' (first
  | ((first | refine zaf ?_ | refine zaj ?_ | refine zag ?_ | refine zai ?_ | refine zas ?_ | refine zat ?_ | fail); simp)
  | ((first | refine zap ?_ | refine zar ?_ | fail); simp only [zao])
  | (refine ⟨?_, by omega⟩)
  | (refine ⟨fun hc => ?_, fun hc => ?_⟩ <;> (try (exfalso; omega)))
  | (intro hc <;> (try (exfalso; omega)))
  | fail)
 all_goals
  (refine EndOK.val (.inr rfl) ?_; simp [zay, zae, zaq, Tryz.results121])
 all_goals (repeat' split) <;> first | rfl | omega | simp_all
theorem zpb : Exp.row = fun e => [.int .i64 e.op, .int .i64 e.n, .int .i64 e.unit, .str e.s, .sl (e.args.map Exp.row)] := funext fun e => e.row_eq
def ze2 (e : Exp) : D := .u (.agg [.int .i64 e.op, .int .i64 e.n, .int .i64 e.unit, .str e.s, .sl (e.args.map Exp.row)])
def zpF (l : List Exp) : U := .sl (l.map fun e => [.int .i64 e.op, .int .i64 e.n, .int .i64 e.unit, .str e.s, .sl (e.args.map Exp.row)])
theorem zpa (l : List Exp) : zpF l = .sl (l.map Exp.row) := by rw [zpF, <- zpb]
theorem zlK (l : List (Exp)) (f : FuncId) (caps : List U) (p : Exp -> Bool) (hf : ∀ n ∈ l, Fun Tryz.prog f (ze2 n :: caps.map .u) (· = .u (.bool (p n)))) (hcl : zal Tryz.prog f = true)
  (hca : ∀ o, zcy o (caps.map .u) = some (caps.map .u, [])) : Fun Tryz.prog 141 [.u (zpF l), .fnc (.func f) (caps.map .u)] (· = .u (.int .i64 (zg5 p l 0))) := by
 (refine Fun.of_body Tryz.func141 rfl (by simp) fun Γ hn => ?_); simp only [entry, ziC, ziN, maC, maN, oA, Tryz.ntmps141]
 simp only [zpF];refine ziu (x := 0) rfl fun hl => ?_;simp at hl
 repeat' (first
  | ((first | refine zaf ?_ | refine zaj ?_ | refine zag ?_ | refine zas ?_ | fail); simp)
  | fail)
 refine zbU (α := { i : Nat // i <= l.length /\ ∀ c ∈ l.take i, p c = false }) [0, 1, 7] (fun i => [(8, .u (.int .i64 i.1))]) (fun i => l.length - i.1) ⟨0, by omega, by simp⟩ ?_ ?_
 ·exact (Wk.env rfl rfl rfl (by simp [wkE, St.lp, zak, zaa, getK] <;> (try (intros; simp_all; done)) <;> (try (intros; omega)) <;> (try grind)))
 rintro ⟨i, hi, hb⟩;simp [St.lp, St.only, zak, zaa, getK];rcases hx : l[i]? with _ | n
 ·have hge : l.length <= i := by simpa using hx
  repeat' (first
  | ((first | refine zaf ?_ | refine zaj ?_ | fail); simp [hx])
  | (refine ⟨by omega, ?_⟩)
  | (refine zag ?_; simp [hx])
  | (refine zap ?_; simp only [zao])
  | (refine zbq ?_; simp [zao])
  | (intro hc <;> (try (exfalso; omega)))
  | fail)
  (refine EndOK.val (.inr rfl) ?_; simp [zay, zae, zaq, Tryz.results141])
  rw [List.take_of_length_le hge] at hb;exact (zff hb).symm
 ·have hlt : i < l.length := (lGE.1 hx).1;have h1 := hf n (List.mem_of_getElem? hx);simp only [ze2] at h1;cases hp : p n
  ·rw [hp] at h1
   repeat' (first
  | ((first | refine zaf ?_ | refine zaj ?_ | fail); simp [hx, hca])
  | (refine ⟨by omega, ?_⟩)
  | ((first | refine zag ?_ | refine zai ?_ | refine zat ?_ | fail); simp [hx, hca])
  | (refine zar ?_; simp only [zao])
  | (refine ⟨?_, by omega⟩)
  | (intro hc <;> (try (exfalso; omega)))
  | (refine CallP.fE (h1) (by first | rfl | fail) (by first | simp [hx, hca] <;> rfl | fail) ?_; (try simp [hcl, hx, hca]))
  | fail)
   refine LoopW.next ⟨i + 1, by omega, za5 hx hb hp⟩ (by simp; omega) ?_
   exact (Wk.env rfl rfl rfl (by simp [wkE, St.lp, zak, zaa, getK] <;> (try (intros; simp_all; done)) <;> (try (intros; omega)) <;> (try grind)))
  ·rw [hp] at h1
   repeat' (first
  | ((first | refine zaf ?_ | refine zaj ?_ | refine zag ?_ | refine zai ?_ | fail); simp [hx, hca])
  | ((first | refine zap ?_ | refine zar ?_ | fail); simp only [zao])
  | (refine ⟨?_, by omega⟩)
  | (intro hc <;> (try (exfalso; omega)))
  | (refine CallP.fE (h1) (by first | rfl | fail) (by first | simp [hx, hca] <;> rfl | fail) ?_; (try simp [hcl, hx, hca]))
  | fail)
   (refine EndOK.val (.inr rfl) ?_; simp [zay, zae, zaq, Tryz.results141])
   rw [zie hb hx hp];omega
theorem zip (l : List (Exp)) (f : FuncId) (caps : List U) (p : Exp -> Bool) (hf : ∀ n ∈ l, Fun Tryz.prog f (ze2 n :: caps.map .u) (· = .u (.bool (p n)))) (hcl : zal Tryz.prog f = true)
  (hca : ∀ o, zcy o (caps.map .u) = some (caps.map .u, [])) (hcb : ∀ o, zbK o (caps.map .u) = some (caps, [])) : Fun Tryz.prog 122 [.u (zpF l), .fnc (.func f) (caps.map .u)] (· = .u (.bool (l.any p))) := by
 have h1 := zlK l f caps p hf hcl hca
 (refine Fun.of_body Tryz.func122 rfl (by simp) fun Γ hn => ?_); simp only [entry, ziC, ziN, maC, maN, oA, Tryz.ntmps122]
 simp only [zpF] at h1 ⊢
 repeat' (first
  | ((first | refine zaf ?_ | refine zaj ?_ | refine zag ?_ | fail); simp [hcb])
  | (refine zap ?_; simp only [zao])
  | (refine CallP.fE (h1) (by first | rfl | fail) (by first | simp [hcb] <;> rfl | fail) ?_; (try simp [hcl, hcb]))
  | fail)
 (refine EndOK.val (.inr rfl) ?_; simp [zay, zae, zaq, Tryz.results122])
 have h2 := zif p l 0 (by omega);rw [Bool.eq_iff_iff];simpa using h2
def znB (e : Exp) : Bool := decide (e.s = []) && decide (0 <= e.unit) && decide (e.unit < 5) && decide (0 <= e.n) && decide (e.n <= if e.unit = 0 then 1 else 1099511627776)
def zax : Nat -> Exp -> Bool
 | 0, _ => false
 | d + 1, e => decide ((e.args.length : Int) = zbm e.op) && (if e.op = 0 then znB e else if e.n ≠ 0 \/ e.unit ≠ 0 then false else if e.op = 1 then zcs e.s else decide (e.s = []) && !e.args.any (fun x => !zax d x))
set_option maxRecDepth 100000 in
set_option maxHeartbeats 4000000 in
theorem ziQ : ∀ (d : Nat) (e : Exp), (d : Int) <= 100 -> Fun Tryz.prog 69 [ze2 e, .u (.int .i64 d)] (· = .u (.bool (zax d e)))
 | 0, e, _ => by
  (refine Fun.of_body Tryz.func69 rfl (by simp) fun Γ hn => ?_); simp only [entry, ziC, ziN, maC, maN, oA, Tryz.ntmps69]
  simp only [ze2]
  repeat' (first
  | ((first | refine zaf ?_ | refine zaR rfl ?_ | refine zaj ?_ | refine zag ?_ | refine zai ?_ | fail); simp)
  | (refine zaX (hC _ (by kernel_rfl)) (hk _ ?_); clear hC hk C k; simp only [zao])
  | (refine za2 rfl (by kernel_rfl) (by first | (simp [hn]; done) | (simp [hn]; omega) | fail) fun C k hC hk => ?_; simp)
  | (refine zbV rfl (by simp) (fun hc => ?_) (fun hc => ?_) <;> (try simp at hc) <;> (try (exfalso; omega)) <;> (try simp))
  | (refine zap ?_; simp only [zao])
  | fail)
  (refine EndOK.val (.inr rfl) ?_; simp [zay, zae, zaq, Tryz.results69])
  rfl
 | d + 1, e, hd => by
  have hr : ∀ x : Exp, Fun Tryz.prog 123 (ze2 x :: [U.row [.int .i64 ((d + 1 : Nat) : Int)] 0].map .u) (· = .u (.bool (!zax d x))) := fun x => by
   have h1 := ziQ d x (by omega)
   (refine Fun.of_body Tryz.func123 rfl (by simp) fun Γ hn => ?_); simp only [entry, ziC, ziN, maC, maN, oA, Tryz.ntmps123]
   simp only [ze2] at h1 ⊢
   repeat' (first
  | ((first | refine zaf ?_ | refine zaj ?_ | fail); simp)
  | (refine ⟨by omega, ?_⟩)
  | (refine zag ?_; simp)
  | (refine zap ?_; simp only [zao])
  | (refine CallP.fE (h1) (by first | rfl | fail) (by first | (simp; done) | (simp; rfl) | fail) ?_; (try simp))
  | fail)
   (refine EndOK.val (.inr rfl) ?_; simp [zay, zae, zaq, Tryz.results123])
  have hcon := zip e.args 123 [U.row [.int .i64 ((d + 1 : Nat) : Int)] 0] (fun x => !zax d x) (fun x _ => hr x) (by simp) (fun _ => rfl) (fun _ => rfl);have hnam := zeD e.s;have hopr := zjb e.op;simp only [List.map_cons, List.map_nil] at hcon;rw [zax];unfold znB;generalize (e.args.any fun x => !zax d x) = z at hcon ⊢;generalize zcs e.s = nm at hnam ⊢;generalize hop : zbm e.op = oi at hopr ⊢
  (refine Fun.of_body Tryz.func69 rfl (by simp) fun Γ hn => ?_); simp only [entry, ziC, ziN, maC, maN, oA, Tryz.ntmps69]
  rw [zpa] at hcon;simp only [ze2];by_cases hlen : (e.args.length : Int) = oi
  case neg =>
   repeat' (first
  | ((first | refine zaf ?_ | refine zaR rfl ?_ | refine zcR rfl ?_ | refine zaj ?_ | refine zag ?_ | refine zai ?_ | fail); simp [hlen])
  | (refine zaX (hC _ (by kernel_rfl)) (hk _ ?_); clear hC hk C k; simp only [zao])
  | (refine za2 rfl (by kernel_rfl) (by first | (simp [hn]; done) | (simp [hn]; omega) | fail) fun C k hC hk => ?_; simp [hlen])
  | (refine zbV rfl (by simp [hlen]) (fun hc => ?_) (fun hc => ?_) <;> (try simp [hlen] at hc) <;> (try (exfalso; omega)) <;> (try simp [hlen]))
  | (refine zap ?_; simp only [zao])
  | (refine CallV.fun_ (hopr) (by first | rfl | fail) (by first | simp [hlen] <;> rfl | fail) ?_ <;> (try simp [hlen]))
  | fail)
   (refine EndOK.val (.inr rfl) ?_; simp [zay, zae, zaq, Tryz.results69])
   try (simp_all; done)
  by_cases h0 : e.op = 0
  case pos =>
   by_cases hu : e.unit = 0
   all_goals
    repeat' (first
  | ((first | refine zaf ?_ | refine zaR rfl ?_ | refine zcR rfl ?_ | refine zaj ?_ | refine zag ?_ | refine zai ?_ | fail); simp [hlen, h0, hu])
  | (refine zaX (hC _ (by kernel_rfl)) (hk _ ?_); clear hC hk C k; simp only [zao])
  | (refine za2 rfl (by kernel_rfl) (by first | (simp [hn]; done) | (simp [hn]; omega) | fail) fun C k hC hk => ?_; simp [hlen, h0, hu])
  | (refine zbV rfl (by simp [hlen, h0, hu]) (fun hc => ?_) (fun hc => ?_) <;> (try simp [hlen, h0, hu] at hc) <;> (try (exfalso; omega)) <;> (try simp [hlen, h0, hu]))
  | (refine zat ?_; simp [hlen, h0, hu])
  | ((first | refine zap ?_ | refine zar ?_ | fail); simp only [zao])
  | (refine ⟨fun hc => ?_, fun hc => ?_⟩ <;> (try (exfalso; omega)))
  | (refine CallV.fun_ (hopr) (by first | rfl | fail) (by first | simp [hlen, h0, hu] <;> rfl | fail) ?_ <;> (try simp [hlen, h0, hu]))
  | fail)
    all_goals
     (refine EndOK.val (.inr rfl) ?_; simp [zay, zae, zaq, Tryz.results69])
   all_goals clear hr hopr hcon hnam
   all_goals grind
  by_cases hnu : e.n ≠ 0 \/ e.unit ≠ 0
  case pos =>
   repeat' (first
  | ((first | refine zaf ?_ | refine zaR rfl ?_ | refine zcR rfl ?_ | refine zaj ?_ | refine zag ?_ | refine zai ?_ | fail); simp [hlen, h0])
  | (refine zaX (hC _ (by kernel_rfl)) (hk _ ?_); clear hC hk C k; simp only [zao])
  | (refine za2 rfl (by kernel_rfl) (by first | (simp [hn]; done) | (simp [hn]; omega) | fail) fun C k hC hk => ?_; simp [hlen, h0])
  | (refine zbV rfl (by simp [hlen, h0]) (fun hc => ?_) (fun hc => ?_) <;> (try simp [hlen, h0] at hc) <;> (try (exfalso; omega)) <;> (try simp [hlen, h0]))
  | ((first | refine zap ?_ | refine zar ?_ | fail); simp only [zao])
  | (refine ⟨?_, by omega⟩)
  | (refine ⟨fun hc => ?_, fun hc => ?_⟩ <;> (try (exfalso; omega)))
  | (intro hc <;> (try (exfalso; omega)))
  | (refine CallV.fun_ (hopr) (by first | rfl | fail) (by first | simp [hlen, h0] <;> rfl | fail) ?_ <;> (try simp [hlen, h0]))
  | fail)
   all_goals
    (refine EndOK.val (.inr rfl) ?_; simp [zay, zae, zaq, Tryz.results69])
   all_goals clear hr hopr hcon hnam
   all_goals grind
  by_cases h1 : e.op = 1
  case pos =>
   repeat' (first
  | ((first | refine zaf ?_ | refine zaR rfl ?_ | refine zcR rfl ?_ | refine zaj ?_ | fail); simp [hlen, h0, h1])
  | (refine ⟨by omega, ?_⟩)
  | ((first | refine zag ?_ | refine zai ?_ | fail); simp [hlen, h0, h1])
  | (refine zaX (hC _ (by kernel_rfl)) (hk _ ?_); clear hC hk C k; simp only [zao])
  | (refine za2 rfl (by kernel_rfl) (by first | (simp [hn]; done) | (simp [hn]; omega) | fail) fun C k hC hk => ?_; simp [hlen, h0, h1])
  | (refine zbV rfl (by simp [hlen, h0, h1]) (fun hc => ?_) (fun hc => ?_) <;> (try simp [hlen, h0, h1] at hc) <;> (try (exfalso; omega)) <;> (try simp [hlen, h0, h1]))
  | ((first | refine zap ?_ | refine zar ?_ | fail); simp only [zao])
  | (refine ⟨?_, by omega⟩)
  | (intro hc <;> (try (exfalso; omega)))
  | (refine CallV.fun_ (hopr) (by first | rfl | fail) (by first | simp [hlen, h0, h1] <;> rfl | fail) ?_ <;> (try simp [hlen, h0, h1]))
  | (refine CallP.fE (hnam) (by first | rfl | fail) (by first | simp [hlen, h0, h1] <;> rfl | fail) ?_; (try simp [hlen, h0, h1]))
  | fail)
   all_goals
    (refine EndOK.val (.inr rfl) ?_; simp [zay, zae, zaq, Tryz.results69])
   all_goals clear hr hopr hcon hnam
   all_goals grind
  by_cases hs : e.s = []
  all_goals
   repeat' (first
  | ((first | refine zaf ?_ | refine zaR rfl ?_ | refine zcR rfl ?_ | refine zaj ?_ | fail); simp [hlen, h0, h1, hs])
  | (refine ⟨by omega, ?_⟩)
  | ((first | refine zag ?_ | refine zai ?_ | fail); simp [hlen, h0, h1, hs])
  | (refine zaX (hC _ (by kernel_rfl)) (hk _ ?_); clear hC hk C k; simp only [zao])
  | (refine za2 rfl (by kernel_rfl) (by first | (simp [hn]; done) | (simp [hn]; omega) | fail) fun C k hC hk => ?_; simp [hlen, h0, h1, hs])
  | (refine zbV rfl (by simp [hlen, h0, h1, hs]) (fun hc => ?_) (fun hc => ?_) <;> (try simp [hlen, h0, h1, hs] at hc) <;> (try (exfalso; omega)) <;> (try simp [hlen, h0, h1, hs]))
  | ((first | refine zap ?_ | refine zar ?_ | fail); simp only [zao])
  | (refine ⟨?_, by omega⟩)
  | (intro hc <;> (try (exfalso; omega)))
  | (refine CallV.fun_ (hopr) (by first | rfl | fail) (by first | simp [hlen, h0, h1, hs] <;> rfl | fail) ?_ <;> (try simp [hlen, h0, h1, hs]))
  | (refine CallP.fE (hcon) (by first | rfl | fail) (by first | simp [hlen, h0, h1, hs] <;> rfl | fail) ?_; (try simp [hlen, h0, h1, hs]))
  | fail)
   all_goals
    (refine EndOK.val (.inr rfl) ?_; simp [zay, zae, zaq, Tryz.results69])
  all_goals clear hr hopr hcon hnam
  all_goals grind
theorem zc8 (e : Exp) : Fun Tryz.prog 25 [ze2 e] (· = .u (.bool (zax 12 e))) := by
 have h1 := ziQ 12 e (by omega)
 (refine Fun.of_body Tryz.func25 rfl (by simp) fun Γ hn => ?_); simp only [entry, ziC, ziN, maC, maN, oA, Tryz.ntmps25]
 simp only [ze2] at h1 ⊢
 repeat' (first
  | ((first | refine zaf ?_ | refine zaj ?_ | refine zag ?_ | fail); simp)
  | (refine zap ?_; simp only [zao])
  | (refine CallP.fE (h1) (by first | rfl | fail) (by first | (simp; done) | (simp; rfl) | fail) ?_; (try simp))
  | fail)
 (refine EndOK.val (.inr rfl) ?_; simp [zay, zae, zaq, Tryz.results25])
end Go.Proofs.YthnemhfamhnfjaaGreatDoor
namespace Go.Proofs.YthnemhfamhnfjaaGreatDoor
open Go Go.VL
attribute [local simp] zc2 zb3 evPure opd uOf zaF St.put St.at getK binD binI binS binB nilD aggD zgQ zha lookD lookR zcu Go.VL.nextD zcx zhu zhc zf2 zcw mkV zdj zbk zbu mapEff zdY zfQ Key.kk shiftI arith unD convD zdH loadD cellsAt fieldAddrD fieldD indexAddrD indexD sliceD cutD lenD minmaxD nilCheckD buildD fillD zbP zdb zeC setAll zcK zeO zco zg0 zcm St.add zaO zbF rowsOf zdA zcH zam zac zaa za7 zcC zaQ entry zbE zbO valD zb4 zcy zgh zdh zdi zbT zbK zaw zaW zbo delAll effD St.effS zcU za8 zaY zcV za9 za0 zb9 zaZ zaT zca zcS zbD zb8 zbl zb6 zb7 zaL mkD zbL zbv zbJ zaw zcn D.ids Op.operands Call.operands zby makeIfD makeFuncD typeAssertD zg9 zdw zdx zg1 zcv IntKind.bits zcN List.take_of_length_le List.range_succ
attribute [local irreducible] V G H HD HD2 zao Eff CallP CallV EndOK Fun Ret FinOK LoopI LoopW EndW
def inB (lo hi : Int) (l : List Int) : Bool := !l.any fun n => decide (n < lo) || decide (hi < n)
theorem zo7 (lo hi n : Int) : Fun Tryz.prog 119 (zpT n :: [U.row [.int .i64 lo] 0, U.row [.int .i64 hi] 0].map .u) (· = .u (.bool (decide (n < lo) || decide (hi < n)))) := by
 simp only [zpT, List.map_cons, List.map_nil]
 (refine Fun.of_body Tryz.func119 rfl (by simp) fun Γ hn => ?_); simp only [entry, ziC, ziN, maC, maN, oA, Tryz.ntmps119]
 repeat' (first
  | ((first | refine zaf ?_ | refine zaj ?_ | refine zag ?_ | fail); simp)
  | (refine zap ?_; simp only [zao])
  | (refine ⟨fun hc => ?_, fun hc => ?_⟩ <;> (try (exfalso; omega)))
  | fail)
 all_goals
  (refine EndOK.val (.inr rfl) ?_; simp [zay, zae, zaq, Tryz.results119])
 all_goals grind
theorem zjk (lo hi : Int) (l : List Int) : Fun Tryz.prog 66 [.u (.int .i64 lo), .u (.int .i64 hi), .u (zo5 l)] (· = .u (.bool (inB lo hi l))) := by
 have h1 := zio l 119 [U.row [.int .i64 lo] 0, U.row [.int .i64 hi] 0] _ (fun n _ => zo7 lo hi n) (by simp) (fun _ => rfl) (fun _ => rfl);simp only [List.map_cons, List.map_nil] at h1;unfold inB
 (refine Fun.of_body Tryz.func66 rfl (by simp) fun Γ hn => ?_); simp only [entry, ziC, ziN, maC, maN, oA, Tryz.ntmps66]
 simp only [zo5] at h1 ⊢
 repeat' (first
  | ((first | refine zaf ?_ | refine zaj ?_ | refine zag ?_ | fail); simp)
  | (refine zap ?_; simp only [zao])
  | (refine CallP.fE (h1) (by first | rfl | fail) (by first | (simp; done) | (simp; rfl) | fail) ?_; (try simp))
  | fail)
 (refine EndOK.val (.inr rfl) ?_; simp [zay, zae, zaq, Tryz.results66])
theorem zli (x l : Let) : Fun Tryz.prog 68 (zmY x :: [U.row (zkG l) 0].map .u) (· = .u (.bool (decide (x.name = l.name)))) := by
 simp only [zmY, zkG, List.map_cons, List.map_nil]
 (refine Fun.of_body Tryz.func68 rfl (by simp) fun Γ hn => ?_); simp only [entry, ziC, ziN, maC, maN, oA, Tryz.ntmps68]
 repeat' (first
  | ((first | refine zaf ?_ | refine zaj ?_ | refine zag ?_ | fail); simp)
  | (refine zap ?_; simp only [zao])
  | fail)
 (refine EndOK.val (.inr rfl) ?_; simp [zay, zae, zaq, Tryz.results68])
structure By where
 kind : Int
 period : Int
 grace : Int
 wait : Int
 last : Int
 order : Int
 sld : Bool
 backs : Int
 voices : Int
 jury : Int
 fund : Int
 lets : List Let
 due : Exp
 fine : Exp
 pay : Exp
 cover : Exp
 hold : Exp
 deriving Inhabited
def zaS (b : By) : List U := [.int .i64 b.kind, .int .i64 b.period, .int .i64 b.grace, .int .i64 b.wait, .int .i64 b.last, .int .i64 b.order, .bool b.sld, .int .i64 b.backs, .int .i64 b.voices, .int .i64 b.jury, .int .i64 b.fund,
 .sl (b.lets.map fun l => [.str l.name, .int .i64 l.body.op, .int .i64 l.body.n, .int .i64 l.body.unit, .str l.body.s, .sl (l.body.args.map Exp.row)]),
 .int .i64 b.due.op, .int .i64 b.due.n, .int .i64 b.due.unit, .str b.due.s, .sl (b.due.args.map Exp.row),
 .int .i64 b.fine.op, .int .i64 b.fine.n, .int .i64 b.fine.unit, .str b.fine.s, .sl (b.fine.args.map Exp.row),
 .int .i64 b.pay.op, .int .i64 b.pay.n, .int .i64 b.pay.unit, .str b.pay.s, .sl (b.pay.args.map Exp.row),
 .int .i64 b.cover.op, .int .i64 b.cover.n, .int .i64 b.cover.unit, .str b.cover.s, .sl (b.cover.args.map Exp.row),
 .int .i64 b.hold.op, .int .i64 b.hold.n, .int .i64 b.hold.unit, .str b.hold.s, .sl (b.hold.args.map Exp.row)]
def zlM (b : By) : Bool := inB 0 2 [b.kind] && inB 0 2 [b.order] && inB 1 1000 [b.period, b.last] && inB 0 1000 [b.grace, b.wait, b.voices, b.fund] && inB 0 60 [b.backs, b.jury]
def zeX (seen : List Let) : List Let -> Bool
 | [] => true
 | l :: r => zcs l.name && zax 12 l.body && !seen.any (fun x => decide (x.name = l.name)) && zeX (seen ++ [l]) r
theorem zkE {L : List Let} {i : Nat} {l : Let} (h : L[i]? = some l) : zeX (L.take i) (L.drop i) = (zcs l.name && zax 12 l.body && !(L.take i).any (fun x => decide (x.name = l.name)) && zeX (L.take (i + 1)) (L.drop (i + 1))) := by
 obtain ⟨hi, rfl⟩ := lGE.1 h;rw [List.drop_eq_getElem_cons hi, zeX, List.take_succ_eq_append_getElem hi]
def znb (b : By) : Bool := zax 12 b.due && zax 12 b.fine && zax 12 b.pay && zax 12 b.cover && zax 12 b.hold
def zcI (b : By) : Bool := zlM b && !(b.sld && decide (b.kind ≠ 1)) && decide (b.lets.length <= 20) && zeX [] b.lets && znb b
set_option maxRecDepth 100000 in
set_option maxHeartbeats 4000000 in
theorem zdu (b : By) : Fun Tryz.prog 23 [.u (.agg (zaS b))] (· = .u (.bool (zcI b))) := by
 have i1 := zjk 0 2 [b.kind];have i2 := zjk 0 2 [b.order];have i3 := zjk 1 1000 [b.period, b.last];have i4 := zjk 0 1000 [b.grace, b.wait, b.voices, b.fund];have i5 := zjk 0 60 [b.backs, b.jury];simp only [zo5, List.map_cons, List.map_nil] at i1 i2 i3 i4 i5;have hr : ∀ e : Exp, Fun Tryz.prog 25 [.u (.agg [.int .i64 e.op, .int .i64 e.n, .int .i64 e.unit, .str e.s, .sl (e.args.map Exp.row)])] (· = .u (.bool (zax 12 e))) := fun e => zc8 e;have e1 := hr b.due;have e2 := hr b.fine;have e3 := hr b.pay;have e4 := hr b.cover;have e5 := hr b.hold;unfold zcI zlM znb;generalize inB 0 2 [b.kind] = c1 at i1 ⊢;generalize inB 0 2 [b.order] = c2 at i2 ⊢;generalize inB 1 1000 [b.period, b.last] = c3 at i3 ⊢;generalize inB 0 1000 [b.grace, b.wait, b.voices, b.fund] = c4 at i4 ⊢;generalize inB 0 60 [b.backs, b.jury] = c5 at i5 ⊢
 (refine Fun.of_body Tryz.func23 rfl (by simp) fun Γ hn => ?_); simp only [entry, ziC, ziN, maC, maN, oA, Tryz.ntmps23]
 simp only [zaS]
 repeat' (first
  | ((first | refine zaf ?_ | refine zaj ?_ | refine zag ?_ | refine zai ?_ | refine zas ?_ | fail); simp)
  | ((first | refine zap ?_ | refine zar ?_ | fail); simp only [zao])
  | (refine ⟨fun hc => ?_, fun hc => ?_⟩ <;> (try (exfalso; omega)))
  | (refine CallP.fE (i1) (by first | rfl | fail) (by first | (simp; done) | (simp; rfl) | fail) ?_; (try simp))
  | (refine CallP.fE (i2) (by first | rfl | fail) (by first | (simp; done) | (simp; rfl) | fail) ?_; (try simp))
  | (refine CallP.fE (i3) (by first | rfl | fail) (by first | (simp; done) | (simp; rfl) | fail) ?_; (try simp))
  | (refine CallP.fE (i4) (by first | rfl | fail) (by first | (simp; done) | (simp; rfl) | fail) ?_; (try simp))
  | (refine CallP.fE (i5) (by first | rfl | fail) (by first | (simp; done) | (simp; rfl) | fail) ?_; (try simp))
  | fail)
 all_goals try ((refine EndOK.val (.inr rfl) ?_; simp [zay, zae, zaq, Tryz.results23]); clear i1 i2 i3 i4 i5 hr e1 e2 e3 e4 e5; grind)
 all_goals
  refine zbU (α := { i : Nat // i <= b.lets.length /\ zeX [] b.lets = zeX (b.lets.take i) (b.lets.drop i) }) [1, 62, 63] (fun i => [(64, .u (.int .i64 i.1))]) (fun i => b.lets.length - i.1) ⟨0, by omega, by simp⟩ ?_ ?_
  ·exact (Wk.cut rfl (by simp [hn, St.lp]) (by simp [wkO, St.lp, zaa, getK, Ob.under, D.under, zad, zah]) (by simp [wkU, St.lp, zak, zaa, getK, D.under]) (by simp [wkE, St.lp, zak, zaa, getK] <;> (try (intros; simp_all; done)) <;> (try (intros; omega)) <;> (try grind)))
  rintro ⟨i, hi, hb⟩;simp [St.lp, St.only, zak, zaa, getK];rcases hx : b.lets[i]? with _ | l
  ·have hge : b.lets.length <= i := by simpa using hx
   have hb' : zeX [] b.lets = true := by rw [hb, List.drop_of_length_le hge]; rfl
   generalize zax 12 b.due = x1 at e1 ⊢;generalize zax 12 b.fine = x2 at e2 ⊢;generalize zax 12 b.pay = x3 at e3 ⊢;generalize zax 12 b.cover = x4 at e4 ⊢;generalize zax 12 b.hold = x5 at e5 ⊢
   repeat' (first
  | ((first | refine zaf ?_ | refine zaj ?_ | fail); simp [hx])
  | (refine ⟨by omega, ?_⟩)
  | (refine zag ?_; simp [hx])
  | (refine zap ?_; simp only [zao])
  | (refine zbq ?_; simp [zao])
  | (refine ⟨fun hc => ?_, fun hc => ?_⟩ <;> (try (exfalso; omega)))
  | (intro hc <;> (try (exfalso; omega)))
  | (refine CallP.fE (e1) (by first | rfl | fail) (by first | simp [hx] <;> rfl | fail) ?_; (try simp [hx]))
  | (refine CallP.fE (e2) (by first | rfl | fail) (by first | simp [hx] <;> rfl | fail) ?_; (try simp [hx]))
  | (refine CallP.fE (e3) (by first | rfl | fail) (by first | simp [hx] <;> rfl | fail) ?_; (try simp [hx]))
  | (refine CallP.fE (e4) (by first | rfl | fail) (by first | simp [hx] <;> rfl | fail) ?_; (try simp [hx]))
  | (refine CallP.fE (e5) (by first | rfl | fail) (by first | simp [hx] <;> rfl | fail) ?_; (try simp [hx]))
  | fail)
   all_goals
    (refine EndOK.val (.inr rfl) ?_; simp [zay, zae, zaq, Tryz.results23])
   all_goals
    clear i1 i2 i3 i4 i5 hr e1 e2 e3 e4 e5
    grind
  ·have hlt : i < b.lets.length := (lGE.1 hx).1;have hnx := zkE hx;have e6 := zeD l.name;have e7 := hr l.body;have e8 := zfm (b.lets.take i) 68 [U.row (zkG l) 0] _ (fun x _ => zli x l) (by simp) (fun _ => rfl) (fun _ => rfl);simp only [zeV, zkG, List.map_cons, List.map_nil] at e8;generalize zcs l.name = y1 at e6 hnx;generalize zax 12 l.body = y2 at e7 hnx;generalize ((b.lets.take i).any fun x => decide (x.name = l.name)) = y3 at e8 hnx
   repeat' (first
  | ((first | refine zaf ?_ | refine zaj ?_ | fail); simp [hx])
  | (refine ⟨by omega, ?_⟩)
  | ((first | refine zag ?_ | refine zai ?_ | refine zat ?_ | fail); simp [hx])
  | ((first | refine zap ?_ | refine zar ?_ | fail); simp only [zao])
  | (refine ⟨?_, by omega⟩)
  | (refine ⟨fun hc => ?_, fun hc => ?_⟩ <;> (try (exfalso; omega)))
  | (intro hc <;> (try (exfalso; omega)))
  | (refine CallP.fE (e6) (by first | rfl | fail) (by first | simp [hx] <;> rfl | fail) ?_; (try simp [hx]))
  | (refine CallP.fE (e7) (by first | rfl | fail) (by first | simp [hx] <;> rfl | fail) ?_; (try simp [hx]))
  | (refine CallP.fE (e8) (by first | rfl | fail) (by first | simp [hx] <;> rfl | fail) ?_; (try simp [hx]))
  | fail)
   all_goals first
    | (refine LoopW.next ⟨i + 1, by omega, by simp_all⟩ (by simp; omega) ?_; exact (Wk.cut rfl (by simp [hn, St.lp]) (by simp [wkO, St.lp, zaa, getK, Ob.under, D.under, zad, zah]) (by simp [wkU, St.lp, zak, zaa, getK, D.under]) (by simp [wkE, St.lp, zak, zaa, getK] <;> (try (intros; simp_all; done)) <;> (try (intros; omega)) <;> (try grind))))
    | ((refine EndOK.val (.inr rfl) ?_; simp [zay, zae, zaq, Tryz.results23]); clear i1 i2 i3 i4 i5 hr e1 e2 e3 e4 e5 e6 e7 e8; grind)
theorem znm (c : UInt8) : Fun Tryz.prog 76 [.u (.int .u8 c.toNat)] (· = .u (.bool (zbZ c))) := by
 unfold zbZ
 (refine Fun.of_body Tryz.func76 rfl (by simp) fun Γ hn => ?_); simp only [entry, ziC, ziN, maC, maN, oA, Tryz.ntmps76]
 repeat' (first
  | ((first | refine zaf ?_ | refine zaj ?_ | refine zag ?_ | fail); simp)
  | (refine zap ?_; simp only [zao])
  | (refine ⟨fun hc => ?_, fun hc => ?_⟩ <;> (try (exfalso; omega)))
  | fail)
 all_goals
  (refine EndOK.val (.inr rfl) ?_; simp [zay, zae, zaq, Tryz.results76])
 all_goals first | omega | (rw [Bool.eq_iff_iff]; simp; omega) | (simp; omega)
theorem zmD (c : UInt8) : Fun Tryz.prog 124 [.u (.int .u8 c.toNat)] (· = .u (.bool (zc1 c))) := by
 unfold zc1
 (refine Fun.of_body Tryz.func124 rfl (by simp) fun Γ hn => ?_); simp only [entry, ziC, ziN, maC, maN, oA, Tryz.ntmps124]
 repeat' (first
  | ((first | refine zaf ?_ | refine zaj ?_ | refine zag ?_ | fail); simp)
  | (refine zap ?_; simp only [zao])
  | (refine ⟨fun hc => ?_, fun hc => ?_⟩ <;> (try (exfalso; omega)))
  | (refine CallP.fE (zdS c) (by first | rfl | fail) (by first | (simp; done) | (simp; rfl) | fail) ?_; (try simp))
  | (refine CallP.fE (zew c) (by first | rfl | fail) (by first | (simp; done) | (simp; rfl) | fail) ?_; (try simp))
  | fail)
 all_goals
  (refine EndOK.val (.inr rfl) ?_; simp [zay, zae, zaq, Tryz.results124])
 all_goals simp_all
theorem zdB (p : UInt8 -> Bool) (l : List UInt8) : zcp p l <= l.length := by
 unfold zcp;exact (List.takeWhile_sublist p).length_le
theorem zmd {p : UInt8 -> Bool} {l : List UInt8} (h : zcp p l = l.length) : ∀ c ∈ l, p c = true := by
 have : l.takeWhile p = l := (List.takeWhile_sublist p).eq_of_length h;intro c hc;rw [<- this] at hc;exact List.all_eq_true.1 (List.all_takeWhile (l := l) (p := p)) c hc
theorem zlt (s : List UInt8) (hl : s.length <= 1000000) : Fun Tryz.prog 125 [.u (.str s)] (· = .tup [.u (.int .i64 ((zfy s).getD 0)), .u (.bool (zfy s).isSome)]) := by
 have hsp := ze9 s hl 104 za4 (fun c _ => zew c) (by simp);unfold zfy;cases s with
 | nil =>
  (refine Fun.of_body Tryz.func125 rfl (by simp) fun Γ hn => ?_); simp only [entry, ziC, ziN, maC, maN, oA, Tryz.ntmps125]
  repeat' (first
  | ((first | refine zaf ?_ | refine zaj ?_ | refine zag ?_ | refine zai ?_ | fail); simp)
  | (refine zap ?_; simp only [zao])
  | fail)
  all_goals
   (refine EndOK.val (.inr rfl) ?_; simp [zay, zae, zaq, Tryz.results125])
 | cons c s =>
  by_cases h1 : zcp za4 (c :: s) = (c :: s).length
  case neg =>
   rw [if_pos (.inr (.inl h1))];have h1' : ¬ (zcp za4 (c :: s) : Int) = s.length + 1 := by simp at h1; omega
   (refine Fun.of_body Tryz.func125 rfl (by simp) fun Γ hn => ?_); simp only [entry, ziC, ziN, maC, maN, oA, Tryz.ntmps125]
   repeat' (first
  | ((first | refine zaf ?_ | refine zaj ?_ | refine zag ?_ | refine zai ?_ | fail); simp [h1'])
  | (refine zap ?_; simp only [zao])
  | (refine CallP.fE (hsp) (by first | rfl | fail) (by first | simp [h1'] <;> rfl | fail) ?_; (try simp [h1']))
  | fail)
   all_goals
    (refine EndOK.val (.inr rfl) ?_; simp [zay, zae, zaq, Tryz.results125])
  have h1' : (zcp za4 (c :: s) : Int) = s.length + 1 := by simp at h1; omega
  by_cases h2 : c.toNat = 48 /\ s ≠ []
  ·rw [if_pos (.inr (.inr (.inl ⟨by have := h2.1; simp; exact UInt8.toNat_inj.1 this, by simp; intro _; exact h2.2⟩)))];have h2b := h2.1;have h2a := h2.2
   (refine Fun.of_body Tryz.func125 rfl (by simp) fun Γ hn => ?_); simp only [entry, ziC, ziN, maC, maN, oA, Tryz.ntmps125]
   repeat' (first
  | ((first | refine zaf ?_ | refine zaj ?_ | refine zag ?_ | refine zai ?_ | fail); simp [h1', h2a, h2b])
  | (refine zap ?_; simp only [zao])
  | (refine CallP.fE (hsp) (by first | rfl | fail) (by first | simp [h1', h2a, h2b] <;> rfl | fail) ?_; (try simp [h1', h2a, h2b]))
  | fail)
   all_goals
    (refine EndOK.val (.inr rfl) ?_; simp [zay, zae, zaq, Tryz.results125])
  have h2' : c.toNat = 48 -> s = [] := fun h => by
   by_cases hs : s = []
   ·exact hs
   ·exact absurd ⟨h, hs⟩ h2
  by_cases h3 : 13 < (c :: s).length
  ·rw [if_pos (.inr (.inr (.inr h3)))];have h3' : 13 < (s.length : Int) + 1 := by simp at h3; omega
   have hne : s ≠ [] := fun e => by rw [e] at h3; simp at h3
   have h2'' : ¬ c.toNat = 48 := fun h => hne (h2' h)
   (refine Fun.of_body Tryz.func125 rfl (by simp) fun Γ hn => ?_); simp only [entry, ziC, ziN, maC, maN, oA, Tryz.ntmps125]
   repeat' (first
  | ((first | refine zaf ?_ | refine zaj ?_ | fail); simp [h1', h2'', h3'])
  | (refine ⟨by omega, ?_⟩)
  | ((first | refine zag ?_ | refine zai ?_ | fail); simp [h1', h2'', h3'])
  | (refine zap ?_; simp only [zao])
  | (intro hc <;> (try (exfalso; omega)))
  | (refine CallP.fE (hsp) (by first | rfl | fail) (by first | simp [h1', h2'', h3'] <;> rfl | fail) ?_; (try simp [h1', h2'', h3']))
  | fail)
   all_goals
    (refine EndOK.val (.inr rfl) ?_; simp [zay, zae, zaq, Tryz.results125])
  have hall := zmd h1;rw [if_neg (by
   simp only [not_or];refine ⟨by simp, fun h => h h1, fun h => ?_, h3⟩;have hc48 : c = 48 := by have := h.1; simpa using this
   have := h2' (by rw [hc48]; rfl);rw [this, hc48] at h;exact h.2 rfl)]
  have h3' : ¬ 13 < (s.length : Int) + 1 := by simp at h3; omega
  have hval : ∀ k, k <= (c :: s).length -> 0 <= zbe ((c :: s).take k) /\ zbe ((c :: s).take k) < 10 ^ 13 := fun k hk => by
   have h4 := zfl k ((c :: s).take k) (by simp; simp at hk; omega) (fun x hx => hall x (List.mem_of_mem_take hx));have : (10 : Int) ^ k <= 10 ^ 13 := by
    have := Nat.pow_le_pow_right (n := 10) (by omega) (show k <= 13 by simp at h3 hk; omega)
    exact_mod_cast this
   omega
  have hloop : ∀ (hw : c.toNat = 48 -> s = []), Fun Tryz.prog 125 [.u (.str (c :: s))] (· = .tup [.u (.int .i64 ((if 1099511627776 < zbe (c :: s) then none else some (zbe (c :: s)) : Option Int).getD 0)), .u (.bool (if 1099511627776 < zbe (c :: s) then none else some (zbe (c :: s)) : Option Int).isSome)]) := fun hw => by
   by_cases h48 : c.toNat = 48
   ·have h48' : (c.toNat : Int) = 48 := by omega
    have hc48 : (c = 48) = True := eq_true (UInt8.toNat_inj.1 h48);have hs0 : (s = []) = True := eq_true (hw h48)
    (refine Fun.of_body Tryz.func125 rfl (by simp) fun Γ hn => ?_); simp only [entry, ziC, ziN, maC, maN, oA, Tryz.ntmps125]
    repeat' (first
  | ((first | refine zaf ?_ | refine zaj ?_ | refine zag ?_ | refine zai ?_ | refine zas ?_ | fail); simp [h1', h3', h48', hc48, hs0])
  | (refine zar ?_; simp only [zao])
  | (refine CallP.fE (hsp) (by first | rfl | fail) (by first | simp [h1', h3', h48', hc48, hs0] <;> rfl | fail) ?_; (try simp [h1', h3', h48', hc48, hs0]))
  | fail)
    refine zbU (α := { i : Nat // i <= (c :: s).length }) [0, 30] (fun i => [(4, .u (.int .i64 (zbe ((c :: s).take i.1)))), (31, .u (.int .i64 i.1))]) (fun i => (c :: s).length - i.1) ⟨0, by omega⟩ ?_ ?_
    ·exact (Wk.cut rfl (by simp [hn, St.lp]) (by simp [wkO, St.lp, zaa, getK, Ob.under, D.under, zad, zah, zbe]) (by simp [wkU, St.lp, zak, zaa, getK, D.under, zbe]) (by simp [wkE, St.lp, zak, zaa, getK, zbe] <;> (try (intros; simp_all; done)) <;> (try (intros; omega)) <;> (try grind)))
    rintro ⟨i, hi⟩;simp [St.lp, St.only, zak, zaa, getK];rcases hx : (c :: s)[i]? with _ | a
    ·have hge : (c :: s).length <= i := by simpa using hx
     obtain rfl : i = (c :: s).length := by omega
     rw [List.take_length];have hge2 : ¬ ((c :: s).length : Int) < s.length + 1 := by simp
     by_cases hb : 1099511627776 < zbe (c :: s)
     ·repeat' (first
  | ((first | refine zaf ?_ | refine zaj ?_ | refine zag ?_ | refine zai ?_ | fail); simp [hb, hge2])
  | (refine zap ?_; simp only [zao])
  | (refine zbq ?_; simp [zao])
  | fail)
      (refine EndOK.val (.inr rfl) ?_; simp [zay, zae, zaq, Tryz.results125])
      try simp [hb]
     ·repeat' (first
  | ((first | refine zaf ?_ | refine zaj ?_ | refine zag ?_ | refine zai ?_ | fail); simp [hb, hge2])
  | ((first | refine zap ?_ | refine zar ?_ | fail); simp only [zao])
  | (refine zbq ?_; simp [zao])
  | fail)
      (refine EndOK.val (.inr rfl) ?_; simp [zay, zae, zaq, Tryz.results125])
      try simp [hb]
    ·have hlt : i < (c :: s).length := (lGE.1 hx).1;have hlt2 : (i : Int) < s.length + 1 := by simp at hlt; omega
     have hd := hall a (List.mem_of_getElem? hx);simp only [za4, Bool.and_eq_true, decide_eq_true_eq] at hd;have hv := hval i hi;have hv2 := hval (i + 1) hlt;have hsn : zbe ((c :: s).take (i + 1)) = 10 * zbe ((c :: s).take i) + ((a.toNat : Int) - 48) := by
      rw [List.take_succ, hx]; exact zev _ _
     generalize zbe ((c :: s).take i) = dv at hv hsn;have hsn2 := hsn.symm
     repeat' (first
  | ((first | refine zaf ?_ | refine zaj ?_ | fail); simp [hx, hlt2, hsn2])
  | (refine ⟨by omega, ?_⟩)
  | ((first | refine zag ?_ | refine zat ?_ | fail); simp [hx, hlt2, hsn2])
  | (refine zar ?_; simp only [zao])
  | fail)
     refine LoopW.next ⟨i + 1, hlt⟩ (by simp at hlt; simp; omega) ?_
     exact (Wk.cut rfl (by simp [hn, St.lp]) (by simp [wkO, St.lp, zaa, getK, Ob.under, D.under, zad, zah, hsn]) (by simp [wkU, St.lp, zak, zaa, getK, D.under, hsn]) (by simp [wkE, St.lp, zak, zaa, getK, hsn] <;> (try (intros; simp_all; done)) <;> (try (intros; omega)) <;> (try grind)))
   ·(refine Fun.of_body Tryz.func125 rfl (by simp) fun Γ hn => ?_); simp only [entry, ziC, ziN, maC, maN, oA, Tryz.ntmps125]
    repeat' (first
  | ((first | refine zaf ?_ | refine zaj ?_ | fail); simp [h1', h3', h48])
  | (refine ⟨by omega, ?_⟩)
  | ((first | refine zag ?_ | refine zai ?_ | refine zas ?_ | fail); simp [h1', h3', h48])
  | (refine zar ?_; simp only [zao])
  | (intro hc <;> (try (exfalso; omega)))
  | (refine CallP.fE (hsp) (by first | rfl | fail) (by first | simp [h1', h3', h48] <;> rfl | fail) ?_; (try simp [h1', h3', h48]))
  | fail)
    refine zbU (α := { i : Nat // i <= (c :: s).length }) [0, 30] (fun i => [(4, .u (.int .i64 (zbe ((c :: s).take i.1)))), (31, .u (.int .i64 i.1))]) (fun i => (c :: s).length - i.1) ⟨0, by omega⟩ ?_ ?_
    ·exact (Wk.cut rfl (by simp [hn, St.lp]) (by simp [wkO, St.lp, zaa, getK, Ob.under, D.under, zad, zah, zbe]) (by simp [wkU, St.lp, zak, zaa, getK, D.under, zbe]) (by simp [wkE, St.lp, zak, zaa, getK, zbe] <;> (try (intros; simp_all; done)) <;> (try (intros; omega)) <;> (try grind)))
    rintro ⟨i, hi⟩;simp [St.lp, St.only, zak, zaa, getK];rcases hx : (c :: s)[i]? with _ | a
    ·have hge : (c :: s).length <= i := by simpa using hx
     obtain rfl : i = (c :: s).length := by omega
     rw [List.take_length];have hge2 : ¬ ((c :: s).length : Int) < s.length + 1 := by simp
     by_cases hb : 1099511627776 < zbe (c :: s)
     ·repeat' (first
  | ((first | refine zaf ?_ | refine zaj ?_ | refine zag ?_ | refine zai ?_ | fail); simp [hb, hge2])
  | (refine zap ?_; simp only [zao])
  | (refine zbq ?_; simp [zao])
  | fail)
      (refine EndOK.val (.inr rfl) ?_; simp [zay, zae, zaq, Tryz.results125])
      try simp [hb]
     ·repeat' (first
  | ((first | refine zaf ?_ | refine zaj ?_ | refine zag ?_ | refine zai ?_ | fail); simp [hb, hge2])
  | ((first | refine zap ?_ | refine zar ?_ | fail); simp only [zao])
  | (refine zbq ?_; simp [zao])
  | fail)
      (refine EndOK.val (.inr rfl) ?_; simp [zay, zae, zaq, Tryz.results125])
      try simp [hb]
    ·have hlt : i < (c :: s).length := (lGE.1 hx).1;have hlt2 : (i : Int) < s.length + 1 := by simp at hlt; omega
     have hd := hall a (List.mem_of_getElem? hx);simp only [za4, Bool.and_eq_true, decide_eq_true_eq] at hd;have hv := hval i hi;have hv2 := hval (i + 1) hlt;have hsn : zbe ((c :: s).take (i + 1)) = 10 * zbe ((c :: s).take i) + ((a.toNat : Int) - 48) := by
      rw [List.take_succ, hx]; exact zev _ _
     generalize zbe ((c :: s).take i) = dv at hv hsn;have hsn2 := hsn.symm
     repeat' (first
  | ((first | refine zaf ?_ | refine zaj ?_ | fail); simp [hx, hlt2, hsn2])
  | (refine ⟨by omega, ?_⟩)
  | ((first | refine zag ?_ | refine zat ?_ | fail); simp [hx, hlt2, hsn2])
  | (refine zar ?_; simp only [zao])
  | fail)
     refine LoopW.next ⟨i + 1, hlt⟩ (by simp at hlt; simp; omega) ?_
     exact (Wk.cut rfl (by simp [hn, St.lp]) (by simp [wkO, St.lp, zaa, getK, Ob.under, D.under, zad, zah, hsn]) (by simp [wkU, St.lp, zak, zaa, getK, D.under, hsn]) (by simp [wkE, St.lp, zak, zaa, getK, hsn] <;> (try (intros; simp_all; done)) <;> (try (intros; omega)) <;> (try grind)))
  exact hloop h2'
theorem zj2 (s p : List UInt8) : Fun Tryz.prog 142 [.u (.str s), .u (.str p)] (· = .u (.bool (p.isPrefixOf s))) := by
 by_cases hl : p.length <= s.length
 ·have hl2 : (p.length : Int) <= s.length := by omega
  by_cases he : s.take p.length = p
  ·have hp : p.isPrefixOf s = true := List.isPrefixOf_iff_prefix.2 (List.prefix_iff_eq_take.2 he.symm)
   (refine Fun.of_body Tryz.func142 rfl (by simp) fun Γ hn => ?_); simp only [entry, ziC, ziN, maC, maN, oA, Tryz.ntmps142]
   repeat' (first
  | ((first | refine zaf ?_ | refine zaj ?_ | refine zag ?_ | fail); simp [hl, hl2, he])
  | (refine zap ?_; simp only [zao])
  | fail)
   all_goals
    (refine EndOK.val (.inr rfl) ?_; simp [zay, zae, zaq, Tryz.results142])
   all_goals first | (rw [hp]; done) | exact List.isPrefixOf_iff_prefix.1 hp | (simp [hp]; done) | rfl
  ·have hp : p.isPrefixOf s = false := by
    cases h : p.isPrefixOf s with
    | false => rfl
    | true => exact absurd (List.prefix_iff_eq_take.1 (List.isPrefixOf_iff_prefix.1 h)).symm he
   (refine Fun.of_body Tryz.func142 rfl (by simp) fun Γ hn => ?_); simp only [entry, ziC, ziN, maC, maN, oA, Tryz.ntmps142]
   repeat' (first
  | ((first | refine zaf ?_ | refine zaj ?_ | refine zag ?_ | fail); simp [hl, hl2, he])
  | (refine zap ?_; simp only [zao])
  | fail)
   all_goals
    (refine EndOK.val (.inr rfl) ?_; simp [zay, zae, zaq, Tryz.results142])
   all_goals first | (rw [hp]; done) | exact List.isPrefixOf_iff_prefix.1 hp | (simp [hp]; done) | rfl
 ·have hl2 : ¬ (p.length : Int) <= s.length := by omega
  have hp : p.isPrefixOf s = false := by
   cases h : p.isPrefixOf s with
   | false => rfl
   | true => exact absurd (List.isPrefixOf_iff_prefix.1 h).length_le hl
  (refine Fun.of_body Tryz.func142 rfl (by simp) fun Γ hn => ?_); simp only [entry, ziC, ziN, maC, maN, oA, Tryz.ntmps142]
  repeat' (first
  | ((first | refine zaf ?_ | refine zaj ?_ | refine zag ?_ | fail); simp [hl, hl2])
  | (refine zap ?_; simp only [zao])
  | fail)
  all_goals
   (refine EndOK.val (.inr rfl) ?_; simp [zay, zae, zaq, Tryz.results142])
  all_goals first | (rw [hp]; done) | exact List.isPrefixOf_iff_prefix.1 hp | (simp [hp]; done) | rfl
theorem zln (s p : List UInt8) : Fun Tryz.prog 126 [.u (.str s), .u (.str p)] (· = .u (.bool (p.isPrefixOf s))) := by
 have h := zj2 s p
 (refine Fun.of_body Tryz.func126 rfl (by simp) fun Γ hn => ?_); simp only [entry, ziC, ziN, maC, maN, oA, Tryz.ntmps126]
 repeat' (first
  | ((first | refine zaf ?_ | refine zaj ?_ | refine zag ?_ | fail); simp)
  | (refine zap ?_; simp only [zao])
  | (refine CallP.fE (h) (by first | rfl | fail) (by first | (simp; done) | (simp; rfl) | fail) ?_; (try simp))
  | fail)
 (refine EndOK.val (.inr rfl) ?_; simp [zay, zae, zaq, Tryz.results126])
@[local simp] theorem zpE : zm7 0 = .u (.row (signsL.map .str) 0) := by
 simp [zm7, globs, signsL, uOf]
theorem hsl : signsL.length = 11 := rfl
theorem znT (s : List UInt8) (hs : s ≠ []) (hl : s.length <= 1000000) : Fun Tryz.prog 77 [.u (.str s)] (· = nextD s) := by
 obtain ⟨c, r, rfl⟩ : ∃ c r, s = c :: r := by cases s with | nil => exact absurd rfl hs | cons c r => exact ⟨c, r, rfl⟩
 have h1 := zdS c;have h2 := zew c;have h3 := ze9 (c :: r) hl 124 zc1 (fun c _ => zmD c) (by simp);have h4 := ze9 (c :: r) hl 104 za4 (fun c _ => zew c) (by simp);have h5 := zkq ((c :: r).take (zcp zc1 (c :: r)));have h6 := zlt ((c :: r).take (zcp za4 (c :: r))) (by have := zdB za4 (c :: r); rw [List.length_take]; omega);have l1 : (zcp zc1 (c :: r) : Int) <= r.length + 1 := by have := zdB zc1 (c :: r); simp at this; omega
 have l2 : (zcp za4 (c :: r) : Int) <= r.length + 1 := by have := zdB za4 (c :: r); simp at this; omega
 have l1' : zcp zc1 (c :: r) <= r.length + 1 := by omega
 have l2' : zcp za4 (c :: r) <= r.length + 1 := by omega
 unfold nextD zg2;cases c1 : zbH c with
 | true =>
  rw [c1] at h1;cases c3 : zeR ((c :: r).take (zcp zc1 (c :: r))) with
  | true =>
   rw [c3] at h5
   (refine Fun.of_body Tryz.func77 rfl (by simp) fun Γ hn => ?_); simp only [entry, ziC, ziN, maC, maN, oA, Tryz.ntmps77]
   repeat' (first
  | ((first | refine zaf ?_ | refine zaj ?_ | refine zag ?_ | refine zai ?_ | fail); simp [l1, l1'])
  | ((first | refine zap ?_ | refine zar ?_ | fail); simp only [zao])
  | (refine CallP.fE (h1) (by first | rfl | fail) (by first | simp [l1, l1'] <;> rfl | fail) ?_; (try simp [l1, l1']))
  | (refine CallP.fE (h3) (by first | rfl | fail) (by first | simp [l1, l1'] <;> rfl | fail) ?_; (try simp [l1, l1']))
  | (refine CallP.fE (h5) (by first | rfl | fail) (by first | simp [l1, l1'] <;> rfl | fail) ?_; (try simp [l1, l1']))
  | fail)
   (refine EndOK.val (.inr rfl) ?_; simp [zay, zae, zaq, Tryz.results77])
   simp [c1, c3]
  | false =>
   rw [c3] at h5
   (refine Fun.of_body Tryz.func77 rfl (by simp) fun Γ hn => ?_); simp only [entry, ziC, ziN, maC, maN, oA, Tryz.ntmps77]
   repeat' (first
  | ((first | refine zaf ?_ | refine zaj ?_ | refine zag ?_ | refine zai ?_ | fail); simp [l1, l1'])
  | (refine zap ?_; simp only [zao])
  | (refine CallP.fE (h1) (by first | rfl | fail) (by first | simp [l1, l1'] <;> rfl | fail) ?_; (try simp [l1, l1']))
  | (refine CallP.fE (h3) (by first | rfl | fail) (by first | simp [l1, l1'] <;> rfl | fail) ?_; (try simp [l1, l1']))
  | (refine CallP.fE (h5) (by first | rfl | fail) (by first | simp [l1, l1'] <;> rfl | fail) ?_; (try simp [l1, l1']))
  | fail)
   (refine EndOK.val (.inr rfl) ?_; simp [zay, zae, zaq, Tryz.results77])
   simp [c1, c3]
 | false =>
  rw [c1] at h1;cases c2 : za4 c with
  | true =>
   rw [c2] at h2;cases c3 : zfy ((c :: r).take (zcp za4 (c :: r))) with
   | none =>
    rw [c3] at h6
    (refine Fun.of_body Tryz.func77 rfl (by simp) fun Γ hn => ?_); simp only [entry, ziC, ziN, maC, maN, oA, Tryz.ntmps77]
    repeat' (first
  | ((first | refine zaf ?_ | refine zaj ?_ | refine zag ?_ | refine zai ?_ | fail); simp [l2, l2'])
  | (refine zap ?_; simp only [zao])
  | (refine CallP.fE (h1) (by first | rfl | fail) (by first | simp [l2, l2'] <;> rfl | fail) ?_; (try simp [l2, l2']))
  | (refine CallP.fE (h2) (by first | rfl | fail) (by first | simp [l2, l2'] <;> rfl | fail) ?_; (try simp [l2, l2']))
  | (refine CallP.fE (h4) (by first | rfl | fail) (by first | simp [l2, l2'] <;> rfl | fail) ?_; (try simp [l2, l2']))
  | (refine CallP.fE (h6) (by first | rfl | fail) (by first | simp [l2, l2'] <;> rfl | fail) ?_; (try simp [l2, l2']))
  | fail)
    (refine EndOK.val (.inr rfl) ?_; simp [zay, zae, zaq, Tryz.results77])
    simp [c1, c2, c3]
   | some n =>
    rw [c3] at h6
    (refine Fun.of_body Tryz.func77 rfl (by simp) fun Γ hn => ?_); simp only [entry, ziC, ziN, maC, maN, oA, Tryz.ntmps77]
    repeat' (first
  | ((first | refine zaf ?_ | refine zaj ?_ | refine zag ?_ | refine zai ?_ | fail); simp [l2, l2'])
  | ((first | refine zap ?_ | refine zar ?_ | fail); simp only [zao])
  | (refine CallP.fE (h1) (by first | rfl | fail) (by first | simp [l2, l2'] <;> rfl | fail) ?_; (try simp [l2, l2']))
  | (refine CallP.fE (h2) (by first | rfl | fail) (by first | simp [l2, l2'] <;> rfl | fail) ?_; (try simp [l2, l2']))
  | (refine CallP.fE (h4) (by first | rfl | fail) (by first | simp [l2, l2'] <;> rfl | fail) ?_; (try simp [l2, l2']))
  | (refine CallP.fE (h6) (by first | rfl | fail) (by first | simp [l2, l2'] <;> rfl | fail) ?_; (try simp [l2, l2']))
  | fail)
    (refine EndOK.val (.inr rfl) ?_; simp [zay, zae, zaq, Tryz.results77])
    simp [c1, c2, c3]
  | false =>
   rw [c2] at h2
   (refine Fun.of_body Tryz.func77 rfl (by simp) fun Γ hn => ?_); simp only [entry, ziC, ziN, maC, maN, oA, Tryz.ntmps77]
   repeat' (first
  | ((first | refine zaf ?_ | refine zaj ?_ | refine zag ?_ | refine zai ?_ | refine zas ?_ | fail); simp [hsl, List.take_of_length_le])
  | (refine zar ?_; simp only [zao])
  | (refine CallP.fE (h1) (by first | rfl | fail) (by first | simp [hsl, List.take_of_length_le] <;> rfl | fail) ?_; (try simp [hsl, List.take_of_length_le]))
  | (refine CallP.fE (h2) (by first | rfl | fail) (by first | simp [hsl, List.take_of_length_le] <;> rfl | fail) ?_; (try simp [hsl, List.take_of_length_le]))
  | fail)
   refine zbU (α := { i : Nat // i <= 11 /\ ∀ x ∈ signsL.take i, x.isPrefixOf (c :: r) = false }) [0, 2, 3, 43] (fun i => [(44, .u (.int .i64 i.1))]) (fun i => 11 - i.1) ⟨0, by omega, by simp⟩ ?_ ?_
   ·exact (Wk.cut rfl (by simp [hn, St.lp]) (by simp [wkO, St.lp, zaa, getK, Ob.under, D.under, zad, zah]) (by simp [wkU, St.lp, zak, zaa, getK, D.under]) (by simp [wkE, St.lp, zak, zaa, getK] <;> (try (intros; simp_all; done)) <;> (try (intros; omega)) <;> (try grind)))
   rintro ⟨i, hi, hb⟩;simp [St.lp, St.only, zak, zaa, getK];rcases hx : signsL[i]? with _ | x
   ·have hge : signsL.length <= i := by simpa using hx
    obtain rfl : i = 11 := by rw [hsl] at hge; omega
    have hnone : signsL.find? (fun x => x.isPrefixOf (c :: r)) = none := List.find?_eq_none.2 fun x hx => by
     rw [hb x (by rw [List.take_of_length_le (by rw [hsl]; omega)]; exact hx)]; simp
    repeat' (first
  | ((first | refine zaf ?_ | refine zaj ?_ | refine zag ?_ | fail); simp)
  | (refine zap ?_; simp only [zao])
  | (refine zbq ?_; simp [zao])
  | fail)
    (refine EndOK.val (.inr rfl) ?_; simp [zay, zae, zaq, Tryz.results77])
    simp [c1, c2, hnone]
   ·have hlt : i < 11 := by have := (lGE.1 hx).1; rw [hsl] at this; exact this
    have hlt2 : (i : Int) < 11 := by omega
    have hp := zln (c :: r) x;by_cases hpx : x.isPrefixOf (c :: r) = true
    ·have hfind : signsL.find? (fun x => x.isPrefixOf (c :: r)) = some x := by
      have e : signsL = signsL.take i ++ x :: signsL.drop (i + 1) := by
       obtain ⟨h5, h6⟩ := lGE.1 hx;rw [<- h6, List.getElem_cons_drop, List.take_append_drop]
      rw [e, List.find?_append, List.find?_eq_none.2 (fun y hy => by rw [hb y hy]; simp), List.find?_cons, hpx];rfl
     rw [hpx] at hp
     repeat' (first
  | ((first | refine zaf ?_ | refine zaj ?_ | refine zag ?_ | refine zai ?_ | fail); simp [hx, hsl, hlt2])
  | ((first | refine zap ?_ | refine zar ?_ | fail); simp only [zao])
  | (refine CallP.fE (hp) (by first | rfl | fail) (by first | simp [hx, hsl, hlt2] <;> rfl | fail) ?_; (try simp [hx, hsl, hlt2]))
  | fail)
     (refine EndOK.val (.inr rfl) ?_; simp [zay, zae, zaq, Tryz.results77])
     simp [c1, c2, hfind]
    ·rw [Bool.eq_false_iff.2 hpx] at hp
     repeat' (first
  | ((first | refine zaf ?_ | refine zaj ?_ | fail); simp [hx, hsl, hlt2])
  | (refine ⟨by omega, ?_⟩)
  | ((first | refine zag ?_ | refine zai ?_ | refine zat ?_ | fail); simp [hx, hsl, hlt2])
  | (refine zar ?_; simp only [zao])
  | (refine CallP.fE (hp) (by first | rfl | fail) (by first | simp [hx, hsl, hlt2] <;> rfl | fail) ?_; (try simp [hx, hsl, hlt2]))
  | fail)
     refine LoopW.next ⟨i + 1, by omega, fun y hy => ?_⟩ (by simp; omega) ?_
     ·rw [List.take_succ, hx] at hy;rcases List.mem_append.1 hy with h | h
      ·exact hb y h
      ·simp at h; subst h; exact Bool.eq_false_iff.2 hpx
     ·exact (Wk.cut rfl (by simp [hn, St.lp]) (by simp [wkO, St.lp, zaa, getK, Ob.under, D.under, zad, zah]) (by simp [wkU, St.lp, zak, zaa, getK, D.under]) (by simp [wkE, St.lp, zak, zaa, getK] <;> (try (intros; simp_all; done)) <;> (try (intros; omega)) <;> (try grind)))
theorem zgq (c : UInt8) : Fun Tryz.prog 106 [.u (.int .u8 c.toNat)] (· = .u (.bool (zbH c))) := by
 unfold zbH
 (refine Fun.of_body Tryz.func106 rfl (by simp) fun Γ hn => ?_); simp only [entry, ziC, ziN, maC, maN, oA, Tryz.ntmps106]
 repeat' (first
  | ((first | refine zaf ?_ | refine zaj ?_ | refine zag ?_ | fail); simp)
  | (refine zap ?_; simp only [zao])
  | (refine ⟨fun hc => ?_, fun hc => ?_⟩ <;> (try (exfalso; omega)))
  | fail)
 all_goals
  (refine EndOK.val (.inr rfl) ?_; simp [zay, zae, zaq, Tryz.results106])
 all_goals first | omega | (simp; omega) | (rw [Bool.eq_iff_iff]; simp; omega)
theorem zlk (c : UInt8) : Fun Tryz.prog 107 [.u (.int .u8 c.toNat)] (· = .u (.bool (za4 c))) := by
 unfold za4
 (refine Fun.of_body Tryz.func107 rfl (by simp) fun Γ hn => ?_); simp only [entry, ziC, ziN, maC, maN, oA, Tryz.ntmps107]
 repeat' (first
  | ((first | refine zaf ?_ | refine zaj ?_ | refine zag ?_ | fail); simp)
  | (refine zap ?_; simp only [zao])
  | (refine ⟨fun hc => ?_, fun hc => ?_⟩ <;> (try (exfalso; omega)))
  | fail)
 all_goals
  (refine EndOK.val (.inr rfl) ?_; simp [zay, zae, zaq, Tryz.results107])
 all_goals first | omega | (simp; omega) | (rw [Bool.eq_iff_iff]; simp; omega)
theorem zmg (s : List UInt8) : Fun Tryz.prog 51 [.u (.str s)] (· = .u (.bool (zeR s))) := by
 cases s with
 | nil =>
  (refine Fun.of_body Tryz.func51 rfl (by simp) fun Γ hn => ?_); simp only [entry, ziC, ziN, maC, maN, oA, Tryz.ntmps51]
  repeat' (first
  | ((first | refine zaf ?_ | refine zaj ?_ | refine zag ?_ | refine zai ?_ | fail); simp)
  | (refine zap ?_; simp only [zao])
  | fail)
  all_goals
   (refine EndOK.val (.inr rfl) ?_; simp [zay, zae, zaq, Tryz.results51])
  all_goals simp [zeR]
 | cons c s =>
  by_cases hl : s.length + 1 <= 20
  ·have h1 := zgq c;by_cases hc1 : zbH c = true
   ·rw [hc1] at h1
    (refine Fun.of_body Tryz.func51 rfl (by simp) fun Γ hn => ?_); simp only [entry, ziC, ziN, maC, maN, oA, Tryz.ntmps51]
    repeat' (first
  | ((first | refine zaf ?_ | refine zaj ?_ | refine zag ?_ | refine zai ?_ | refine zas ?_ | fail); simp)
  | (refine zar ?_; simp only [zao])
  | (refine ⟨?_, by omega⟩)
  | (intro hc <;> (try (exfalso; omega)))
  | (refine CallP.fE (h1) (by first | rfl | fail) (by first | (simp; done) | (simp; rfl) | fail) ?_; (try simp))
  | fail)
    refine zbU (α := { i : Nat // 1 <= i /\ i <= (c :: s).length /\ ∀ x ∈ (c :: s).take i, (zbH x || za4 x) = true }) [0] (fun i => [(3, .u (.int .i64 i.1))]) (fun i => (c :: s).length - i.1) ⟨1, by omega, by simp, by simp [hc1]⟩ ?_ ?_
    ·exact (Wk.env rfl rfl rfl (by simp [wkE, St.lp, zak, zaa, getK] <;> (try (intros; simp_all; done)) <;> (try (intros; omega)) <;> (try grind)))
    rintro ⟨i, h0, hi, hb⟩;simp [St.lp, St.only, zak, zaa, getK];rcases hx : (c :: s)[i]? with _ | y
    ·have hge : (c :: s).length <= i := by simpa using hx
     simp only [List.length_cons] at hge hi
     repeat' (first
  | ((first | refine zaf ?_ | refine zaj ?_ | fail); simp [hx])
  | (refine ⟨by omega, ?_⟩)
  | ((first | refine zag ?_ | refine zai ?_ | fail); simp [hx])
  | (refine zap ?_; simp only [zao])
  | (refine zbq ?_; simp [zao])
  | (intro hc <;> (try (exfalso; omega)))
  | fail)
     (refine EndOK.val (.inr rfl) ?_; simp [zay, zae, zaq, Tryz.results51])
     rw [List.take_of_length_le (by simpa using hge)] at hb;have h2 := zf8 (p := fun c => zbH c || za4 c) (l := c :: s) (i := (c :: s).length) (by rw [List.take_length]; exact hb) (Nat.le_refl _) (.inl rfl);simp only [zeR, hc1, h2];simp; omega
    ·have hlt := (lGE.1 hx).1;have h2 := zgq y;have h3 := zlk y;simp only [List.length_cons] at hlt hi;generalize hyl : zbH y = yl at h2;generalize hyd : za4 y = yd at h3
     repeat' (first
  | ((first | refine zaf ?_ | refine zaj ?_ | fail); simp [hx])
  | (refine ⟨by omega, ?_⟩)
  | ((first | refine zag ?_ | refine zai ?_ | refine zat ?_ | fail); simp [hx])
  | ((first | refine zap ?_ | refine zar ?_ | fail); simp only [zao])
  | (refine ⟨?_, by omega⟩)
  | (refine ⟨fun hc => ?_, fun hc => ?_⟩ <;> (try (exfalso; omega)))
  | (intro hc <;> (try (exfalso; omega)))
  | (refine CallP.fE (h2) (by first | rfl | fail) (by first | simp [hx] <;> rfl | fail) ?_; (try simp [hx]))
  | (refine CallP.fE (h3) (by first | rfl | fail) (by first | simp [hx] <;> rfl | fail) ?_; (try simp [hx]))
  | fail)
     all_goals first
      | (refine LoopW.next ⟨i + 1, by omega, by simp; omega, za5 hx hb (by simp_all)⟩ (by simp; omega) ?_; exact (Wk.env rfl rfl rfl (by simp [wkE, St.lp, zak, zaa, getK] <;> (try (intros; simp_all; done)) <;> (try (intros; omega)) <;> (try grind))))
      | ((refine EndOK.val (.inr rfl) ?_; simp [zay, zae, zaq, Tryz.results51])
         have h4 := zf8 (p := fun c => zbH c || za4 c) (l := c :: s) (i := i) hb (by simp; omega) (.inr ⟨y, hx, by simp_all⟩);simp only [zeR, hc1, h4];simp; omega)
   ·rw [Bool.not_eq_true] at hc1;rw [hc1] at h1
    (refine Fun.of_body Tryz.func51 rfl (by simp) fun Γ hn => ?_); simp only [entry, ziC, ziN, maC, maN, oA, Tryz.ntmps51]
    repeat' (first
  | ((first | refine zaf ?_ | refine zaj ?_ | refine zag ?_ | refine zai ?_ | fail); simp)
  | (refine zap ?_; simp only [zao])
  | (refine ⟨?_, by omega⟩)
  | (intro hc <;> (try (exfalso; omega)))
  | (refine CallP.fE (h1) (by first | rfl | fail) (by first | (simp; done) | (simp; rfl) | fail) ?_; (try simp))
  | fail)
    all_goals
     (refine EndOK.val (.inr rfl) ?_; simp [zay, zae, zaq, Tryz.results51])
    all_goals simp [zeR, hc1]
  ·(refine Fun.of_body Tryz.func51 rfl (by simp) fun Γ hn => ?_); simp only [entry, ziC, ziN, maC, maN, oA, Tryz.ntmps51]
   repeat' (first
  | ((first | refine zaf ?_ | refine zaj ?_ | fail); simp)
  | (refine ⟨by omega, ?_⟩)
  | ((first | refine zag ?_ | refine zai ?_ | fail); simp)
  | (refine zap ?_; simp only [zao])
  | (refine ⟨?_, by omega⟩)
  | (intro hc <;> (try (exfalso; omega)))
  | fail)
   all_goals
     (refine EndOK.val (.inr rfl) ?_; simp [zay, zae, zaq, Tryz.results51])
   all_goals
     simp [zeR]
     try omega
set_option maxHeartbeats 4000000 in
set_option maxRecDepth 100000 in
theorem zhS : Fun Tryz.prog 50 [] (· = .u (znz words)) := by
 (refine Fun.of_bodyW Tryz.func50 rfl (by simp) fun Γ hn => ?_); simp only [entry, ziC, ziN, maC, maN, oA, Tryz.ntmps50]
 simp only [znz, words, List.map_cons, List.map_nil]
 repeat' (first
  | ((first | refine zaf ?_ | refine zaj ?_ | refine zag ?_ | fail); simp [zbO, zbE])
  | (refine zap ?_; simp only [zao])
  | fail)
 (refine EndW.frzN 1 ?_; simp [frzN, frz1, zaC, zaB, St.frz, St.frzS, frzS, fv, zaJ, za6, zba, zaG, zav, zan, del, frz, zbb])
 refine EndW.here ?_
 (refine EndOK.val (.inr rfl) ?_; simp [zay, zae, zaq, Tryz.results50])
set_option maxRecDepth 100000 in
theorem ziP (s : List UInt8) : Fun Tryz.prog 17 [.u (.str s)] (· = .u (.bool (zcs s))) := by
 have h2 := zmg s;have h3 := zhS;simp only [znz] at h3;unfold zcs;generalize hW : words = W at h3 ⊢;have hWl : W.length = 35 := by rw [<- hW]; rfl
 clear hW
 (refine Fun.of_body Tryz.func17 rfl (by simp) fun Γ hn => ?_); simp only [entry, ziC, ziN, maC, maN, oA, Tryz.ntmps17]
 repeat' (first
  | ((first | refine zaf ?_ | refine zaj ?_ | refine zag ?_ | refine zas ?_ | fail); simp)
  | (refine CallP.fE (h3) (by first | rfl | fail) (by first | (simp; done) | (simp; rfl) | fail) ?_; (try simp))
  | fail)
 refine zbU (α := { i : Nat // i <= W.length /\ ∀ x ∈ W.take i, ¬ x = s }) [0, 3] (fun i => [(4, .u (.int .i64 i.1))]) (fun i => W.length - i.1) ⟨0, by omega, by simp⟩ ?_ ?_
 ·exact (Wk.env rfl rfl rfl (by simp [wkE, St.lp, zak, zaa, getK] <;> (try (intros; simp_all; done)) <;> (try (intros; omega)) <;> (try grind)))
 rintro ⟨i, hi, hb⟩;simp [St.lp, St.only, zak, zaa, getK];rcases hx : W[i]? with _ | y
 ·have hge : W.length <= i := by simpa using hx
  repeat' (first
  | ((first | refine zaf ?_ | refine zaj ?_ | fail); simp [hx])
  | (refine ⟨by omega, ?_⟩)
  | ((first | refine zag ?_ | refine zai ?_ | fail); simp [hx])
  | (refine zap ?_; simp only [zao])
  | (refine zbq ?_; simp [zao])
  | (intro hc <;> (try (exfalso; omega)))
  | (refine CallP.fE (h2) (by first | rfl | fail) (by first | simp [hx] <;> rfl | fail) ?_; (try simp [hx]))
  | fail)
  (refine EndOK.val (.inr rfl) ?_; simp [zay, zae, zaq, Tryz.results17])
  rw [List.take_of_length_le hge] at hb;have : s ∉ W := fun h => hb s h rfl;simp [this]
 ·have hlt := (lGE.1 hx).1
  repeat' (first
  | ((first | refine zaf ?_ | refine zaj ?_ | fail); simp [hx])
  | (refine ⟨by omega, ?_⟩)
  | ((first | refine zag ?_ | refine zai ?_ | refine zat ?_ | fail); simp [hx])
  | ((first | refine zap ?_ | refine zar ?_ | fail); simp only [zao])
  | (refine ⟨?_, by omega⟩)
  | (refine ⟨fun hc => ?_, fun hc => ?_⟩ <;> (try (exfalso; omega)))
  | (intro hc <;> (try (exfalso; omega)))
  | fail)
  ·(refine EndOK.val (.inr rfl) ?_; simp [zay, zae, zaq, Tryz.results17])
   have : s ∈ W := by
     have h5 := List.mem_of_getElem? hx;simp_all
   simp [this]
  ·refine LoopW.next ⟨i + 1, by omega, za5 hx hb (by assumption)⟩ (by simp; omega) ?_
   exact (Wk.env rfl rfl rfl (by simp [wkE, St.lp, zak, zaa, getK] <;> (try (intros; simp_all; done)) <;> (try (intros; omega)) <;> (try grind)))
theorem zhi : ∀ (d : Nat) (e : Exp), (d : Int) <= 100 -> Fun Tryz.prog 70 [ze2 e, .u (.int .i64 d)] (· = .u (.bool (zax d e)))
 | 0, e, _ => by
  (refine Fun.of_body Tryz.func70 rfl (by simp) fun Γ hn => ?_); simp only [entry, ziC, ziN, maC, maN, oA, Tryz.ntmps70]
  simp only [ze2]
  repeat' (first
  | ((first | refine zaf ?_ | refine zaj ?_ | refine zag ?_ | refine zai ?_ | fail); simp)
  | (refine zap ?_; simp only [zao])
  | fail)
  (refine EndOK.val (.inr rfl) ?_; simp [zay, zae, zaq, Tryz.results70])
  rfl
 | d + 1, e, hd => by
  by_cases hop : 0 <= e.op /\ e.op < 14
  case neg =>
   have hf : zax (d + 1) e = false := by
    rw [zax];have : ¬ ((e.args.length : Int) = zbm e.op) := by
     unfold zbm;split
     ·omega
     ·split
      ·omega
      ·split
       ·omega
       ·rw [if_pos (by omega)]; omega
    simp [this]
   rw [hf]
   (refine Fun.of_body Tryz.func70 rfl (by simp) fun Γ hn => ?_); simp only [entry, ziC, ziN, maC, maN, oA, Tryz.ntmps70]
   simp only [ze2]
   repeat' (first
  | ((first | refine zaf ?_ | refine zaj ?_ | refine zag ?_ | refine zai ?_ | fail); simp)
  | (refine zap ?_; simp only [zao])
  | (refine ⟨?_, by omega⟩)
  | (refine ⟨fun hc => ?_, fun hc => ?_⟩ <;> (try (exfalso; omega)))
  | (intro hc <;> (try (exfalso; omega)))
  | fail)
   all_goals
    (refine EndOK.val (.inr rfl) ?_; simp [zay, zae, zaq, Tryz.results70])
  obtain ⟨hop1, hop2⟩ := hop;by_cases h0 : e.op = 0
  ·have hs : zax (d + 1) e = (decide (e.args.length = 0) && znB e) := by
    rw [zax, h0]; simp [zbm]
   rw [hs];unfold znB
   (refine Fun.of_body Tryz.func70 rfl (by simp) fun Γ hn => ?_); simp only [entry, ziC, ziN, maC, maN, oA, Tryz.ntmps70]
   simp only [ze2]
   repeat' (first
  | ((first | refine zaf ?_ | refine zaj ?_ | refine zag ?_ | refine zai ?_ | refine zas ?_ | refine zat ?_ | fail); simp [h0])
  | ((first | refine zap ?_ | refine zar ?_ | fail); simp only [zao])
  | (refine ⟨?_, by omega⟩)
  | (refine ⟨fun hc => ?_, fun hc => ?_⟩ <;> (try (exfalso; omega)))
  | (intro hc <;> (try (exfalso; omega)))
  | fail)
   all_goals
    (refine EndOK.val (.inr rfl) ?_; simp [zay, zae, zaq, Tryz.results70])
   all_goals (first | (simp_all; done) | grind)
  by_cases h1 : e.op = 1
  ·have hs : zax (d + 1) e = (decide (e.args.length = 0) && (decide (e.n = 0) && decide (e.unit = 0)) && zcs e.s) := by
    rw [zax, h1];simp [zbm];by_cases hn : e.n = 0 <;> by_cases hu : e.unit = 0 <;> simp [hn, hu]
   have h2 := ziP e.s;rw [hs];generalize zcs e.s = b at h2 ⊢
   (refine Fun.of_body Tryz.func70 rfl (by simp) fun Γ hn => ?_); simp only [entry, ziC, ziN, maC, maN, oA, Tryz.ntmps70]
   simp only [ze2]
   repeat' (first
  | ((first | refine zaf ?_ | refine zaj ?_ | refine zag ?_ | refine zai ?_ | refine zas ?_ | refine zat ?_ | fail); simp [h0, h1])
  | ((first | refine zap ?_ | refine zar ?_ | fail); simp only [zao])
  | (refine ⟨?_, by omega⟩)
  | (refine ⟨fun hc => ?_, fun hc => ?_⟩ <;> (try (exfalso; omega)))
  | (intro hc <;> (try (exfalso; omega)))
  | (refine CallP.fE (h2) (by first | rfl | fail) (by first | simp [h0, h1] <;> rfl | fail) ?_; (try simp [h0, h1]))
  | fail)
   all_goals
    (refine EndOK.val (.inr rfl) ?_; simp [zay, zae, zaq, Tryz.results70])
   all_goals (clear h2; first | (simp_all; done) | grind)
  have hs : zax (d + 1) e = (decide ((e.args.length : Int) = zbm e.op) && (decide (e.n = 0) && decide (e.unit = 0)) && decide (e.s = []) && e.args.all (zax d)) := by
   rw [zax, if_neg h0, if_neg h1];have : (!e.args.any fun x => !zax d x) = e.args.all (zax d) := by simp [List.all_eq_not_any_not]
   rw [this];by_cases hn : e.n = 0 <;> by_cases hu : e.unit = 0 <;> simp [hn, hu, Bool.and_assoc]
  rw [hs];clear hs;have hk : ∀ k : Int, zbm e.op = k -> True := fun _ _ => trivial;by_cases h12 : e.op = 12
  all_goals by_cases h13 : e.op = 13
  all_goals try (exfalso; omega)
  all_goals
   first
    | (have hopr : zbm e.op = 1 := by first | (rw [h12]; rfl; done) | fail)
    | (have hopr : zbm e.op = 3 := by first | (rw [h13]; rfl; done) | fail)
    | (have hopr : zbm e.op = 2 := by
        unfold zbm;rw [if_neg (by omega), if_neg h12, if_neg h13, if_neg (by omega)])
   rw [hopr]
   (refine Fun.of_body Tryz.func70 rfl (by simp) fun Γ hn => ?_); simp only [entry, ziC, ziN, maC, maN, oA, Tryz.ntmps70]
   simp only [ze2]
   repeat' (first
  | ((first | refine zaf ?_ | refine zaj ?_ | fail); simp [h0, h1, h12, h13])
  | (refine ⟨by omega, ?_⟩)
  | ((first | refine zag ?_ | refine zai ?_ | refine zas ?_ | refine zat ?_ | fail); simp [h0, h1, h12, h13])
  | ((first | refine zap ?_ | refine zar ?_ | fail); simp only [zao])
  | (refine ⟨?_, by omega⟩)
  | (refine ⟨fun hc => ?_, fun hc => ?_⟩ <;> (try (exfalso; omega)))
  | (intro hc <;> (try (exfalso; omega)))
  | fail)
   all_goals try ((refine EndOK.val (.inr rfl) ?_; simp [zay, zae, zaq, Tryz.results70]); first | (simp_all; done) | (grind))
   all_goals
    refine zbU (α := { i : Nat // i <= e.args.length /\ ∀ x ∈ e.args.take i, zax d x = true }) [1, 2] (fun i => [(6, .u (.int .i64 i.1))]) (fun i => e.args.length - i.1) ⟨0, by omega, by simp⟩ ?_ ?_
    ·exact (Wk.cut rfl (by simp [hn, St.lp]) (by simp [wkO, St.lp, zaa, getK, Ob.under, D.under, zad, zah]) (by simp [wkU, St.lp, zak, zaa, getK, D.under]) (by simp [wkE, St.lp, zak, zaa, getK] <;> (try (intros; simp_all; done)) <;> (try (intros; omega)) <;> (try grind)))
    rintro ⟨i, hi, hb⟩;simp [St.lp, St.only, zak, zaa, getK];rcases hx : e.args[i]? with _ | x
    ·have hge : e.args.length <= i := by simpa using hx
     obtain rfl : i = e.args.length := by omega
     rw [List.take_length] at hb;have hall : e.args.all (zax d) = true := List.all_eq_true.2 hb
     repeat' (first
  | ((first | refine zaf ?_ | refine zaj ?_ | refine zag ?_ | refine zai ?_ | fail); simp [hx])
  | (refine zap ?_; simp only [zao])
  | (refine zbq ?_; simp [zao])
  | fail)
     (refine EndOK.val (.inr rfl) ?_; simp [zay, zae, zaq, Tryz.results70])
     simp_all
    ·have hlt : i < e.args.length := (lGE.1 hx).1;have h5 := zhi d x (by omega);simp only [ze2] at h5;cases hrx : zax d x
     ·rw [hrx] at h5;have hall : e.args.all (zax d) = false := by
       rw [List.all_eq_false];exact ⟨x, List.mem_of_getElem? hx, by simp [hrx]⟩
      repeat' (first
  | ((first | refine zaf ?_ | refine zaj ?_ | fail); simp [hx, x.row_eq])
  | (refine ⟨by omega, ?_⟩)
  | ((first | refine zag ?_ | refine zai ?_ | fail); simp [hx, x.row_eq])
  | ((first | refine zap ?_ | refine zar ?_ | fail); simp only [zao])
  | (refine ⟨?_, by omega⟩)
  | (intro hc <;> (try (exfalso; omega)))
  | (refine CallP.fE (h5) (by first | rfl | fail) (by first | simp [hx, x.row_eq] <;> rfl | fail) ?_; (try simp [hx, x.row_eq]))
  | fail)
      (refine EndOK.val (.inr rfl) ?_; simp [zay, zae, zaq, Tryz.results70])
      simp_all
     ·rw [hrx] at h5
      repeat' (first
  | ((first | refine zaf ?_ | refine zaj ?_ | fail); simp [hx, x.row_eq])
  | (refine ⟨by omega, ?_⟩)
  | ((first | refine zag ?_ | refine zai ?_ | refine zat ?_ | fail); simp [hx, x.row_eq])
  | (refine zar ?_; simp only [zao])
  | (refine ⟨?_, by omega⟩)
  | (intro hc <;> (try (exfalso; omega)))
  | (refine CallP.fE (h5) (by first | rfl | fail) (by first | simp [hx, x.row_eq] <;> rfl | fail) ?_; (try simp [hx, x.row_eq]))
  | fail)
      refine LoopW.next ⟨i + 1, by omega, za5 hx hb hrx⟩ (by simp; omega) ?_
      exact (Wk.cut rfl (by simp [hn, St.lp]) (by simp [wkO, St.lp, zaa, getK, Ob.under, D.under, zad, zah]) (by simp [wkU, St.lp, zak, zaa, getK, D.under]) (by simp [wkE, St.lp, zak, zaa, getK] <;> (try (intros; simp_all; done)) <;> (try (intros; omega)) <;> (try grind)))
theorem zd0 (e : Exp) : Fun Tryz.prog 26 [ze2 e] (· = .u (.bool (zax 12 e))) := by
 have h1 := zhi 12 e (by omega);simp only [ze2] at h1 ⊢
 (refine Fun.of_body Tryz.func26 rfl (by simp) fun Γ hn => ?_); simp only [entry, ziC, ziN, maC, maN, oA, Tryz.ntmps26]
 repeat' (first
  | ((first | refine zaf ?_ | refine zaj ?_ | refine zag ?_ | fail); simp)
  | (refine zap ?_; simp only [zao])
  | (refine CallP.fE (h1) (by first | rfl | fail) (by first | (simp; done) | (simp; rfl) | fail) ?_; (try simp))
  | fail)
 (refine EndOK.val (.inr rfl) ?_; simp [zay, zae, zaq, Tryz.results26])
theorem zeh (b : By) : Fun Tryz.prog 24 [.u (.agg (zaS b))] (· = .u (.bool (zcI b))) := by
 have hr : ∀ e : Exp, Fun Tryz.prog 26 [.u (.agg [.int .i64 e.op, .int .i64 e.n, .int .i64 e.unit, .str e.s, .sl (e.args.map Exp.row)])] (· = .u (.bool (zax 12 e))) := fun e => zd0 e;have e1 := hr b.due;have e2 := hr b.fine;have e3 := hr b.pay;have e4 := hr b.cover;have e5 := hr b.hold;have hh : zlM b = (decide (0 <= b.kind) && decide (b.kind < 3) && decide (0 <= b.order) && decide (b.order < 3) && decide (1 <= b.period) && decide (b.period <= 1000) && decide (1 <= b.last) && decide (b.last <= 1000) && decide (0 <= b.grace) && decide (b.grace <= 1000) && decide (0 <= b.wait) && decide (b.wait <= 1000) && decide (0 <= b.backs) && decide (b.backs <= 60) && decide (0 <= b.jury) && decide (b.jury <= 60) && decide (0 <= b.voices) && decide (b.voices <= 1000) && decide (0 <= b.fund) && decide (b.fund <= 1000)) := by
  rw [Bool.eq_iff_iff];simp [zlM, inB];omega
 unfold zcI znb;rw [hh];clear hh
 (refine Fun.of_body Tryz.func24 rfl (by simp) fun Γ hn => ?_); simp only [entry, ziC, ziN, maC, maN, oA, Tryz.ntmps24]
 simp only [zaS]
 repeat' (first
  | ((first | refine zaf ?_ | refine zaj ?_ | refine zag ?_ | refine zai ?_ | refine zas ?_ | fail); simp)
  | ((first | refine zap ?_ | refine zar ?_ | fail); simp only [zao])
  | (refine ⟨fun hc => ?_, fun hc => ?_⟩ <;> (try (exfalso; omega)))
  | fail)
 all_goals try ((refine EndOK.val (.inr rfl) ?_; simp [zay, zae, zaq, Tryz.results24]); clear e1 e2 e3 e4 e5 hr; first | (simp_all; done) | grind)
 all_goals
  refine zbU (α := { i : Nat // i <= b.lets.length /\ zeX [] b.lets = zeX (b.lets.take i) (b.lets.drop i) }) [1] (fun i => [(3, .u (.int .i64 i.1))]) (fun i => b.lets.length - i.1) ⟨0, by omega, by simp⟩ ?_ ?_
  ·exact (Wk.cut rfl (by simp [hn, St.lp]) (by simp [wkO, St.lp, zaa, getK, Ob.under, D.under, zad, zah]) (by simp [wkU, St.lp, zak, zaa, getK, D.under]) (by simp [wkE, St.lp, zak, zaa, getK] <;> (try (intros; simp_all; done)) <;> (try (intros; omega)) <;> (try grind)))
  rintro ⟨i, hi, hb⟩;simp [St.lp, St.only, zak, zaa, getK];rcases hx : b.lets[i]? with _ | l
  ·have hge : b.lets.length <= i := by simpa using hx
   have hb' : zeX [] b.lets = true := by rw [hb, List.drop_of_length_le hge]; rfl
   generalize zax 12 b.due = x1 at e1 ⊢;generalize zax 12 b.fine = x2 at e2 ⊢;generalize zax 12 b.pay = x3 at e3 ⊢;generalize zax 12 b.cover = x4 at e4 ⊢;generalize zax 12 b.hold = x5 at e5 ⊢
   repeat' (first
  | ((first | refine zaf ?_ | refine zaj ?_ | fail); simp [hx])
  | (refine ⟨by omega, ?_⟩)
  | ((first | refine zag ?_ | refine zai ?_ | fail); simp [hx])
  | (refine zap ?_; simp only [zao])
  | (refine zbq ?_; simp [zao])
  | (refine ⟨fun hc => ?_, fun hc => ?_⟩ <;> (try (exfalso; omega)))
  | (intro hc <;> (try (exfalso; omega)))
  | (refine CallP.fE (e1) (by first | rfl | fail) (by first | simp [hx] <;> rfl | fail) ?_; (try simp [hx]))
  | (refine CallP.fE (e2) (by first | rfl | fail) (by first | simp [hx] <;> rfl | fail) ?_; (try simp [hx]))
  | (refine CallP.fE (e3) (by first | rfl | fail) (by first | simp [hx] <;> rfl | fail) ?_; (try simp [hx]))
  | (refine CallP.fE (e4) (by first | rfl | fail) (by first | simp [hx] <;> rfl | fail) ?_; (try simp [hx]))
  | (refine CallP.fE (e5) (by first | rfl | fail) (by first | simp [hx] <;> rfl | fail) ?_; (try simp [hx]))
  | fail)
   all_goals
    (refine EndOK.val (.inr rfl) ?_; simp [zay, zae, zaq, Tryz.results24])
   all_goals
    clear hr e1 e2 e3 e4 e5
    grind
  ·have hlt : i < b.lets.length := (lGE.1 hx).1;have hnx := zkE hx;have e6 := ziP l.name;have e7 := hr l.body;have hnm : (b.lets.take i).length = i := by simp; omega
   have hbad : zeX (b.lets.take i) (b.lets.drop i) = false -> zeX [] b.lets = false := fun h => by rw [hb, h]
   generalize zcs l.name = y1 at e6 hnx;generalize zax 12 l.body = y2 at e7 hnx
   repeat' (first
  | ((first | refine zaf ?_ | refine zaj ?_ | refine zag ?_ | refine zai ?_ | refine zas ?_ | fail); simp [hx])
  | ((first | refine zap ?_ | refine zar ?_ | fail); simp only [zao])
  | (refine ⟨?_, by omega⟩)
  | (refine ⟨fun hc => ?_, fun hc => ?_⟩ <;> (try (exfalso; omega)))
  | (intro hc <;> (try (exfalso; omega)))
  | (refine CallP.fE (e6) (by first | rfl | fail) (by first | simp [hx] <;> rfl | fail) ?_; (try simp [hx]))
  | (refine CallP.fE (e7) (by first | rfl | fail) (by first | simp [hx] <;> rfl | fail) ?_; (try simp [hx]))
  | fail)
   all_goals try ((refine EndOK.val (.inr rfl) ?_; simp [zay, zae, zaq, Tryz.results24]); rw [hbad (by rw [hnx]; simp_all)]; simp; done)
   all_goals
    refine zbU (α := { k : Nat // k <= i /\ ∀ x ∈ b.lets.take k, ¬ x.name = l.name }) [1, 3] (fun k => [(4, .u (.int .i64 k.1))]) (fun k => i - k.1) ⟨0, by omega, by simp⟩ ?_ ?_
    ·exact (Wk.cut rfl (by simp [hn, St.lp]) (by simp [wkO, St.lp, zaa, getK, Ob.under, D.under, zad, zah]) (by simp [wkU, St.lp, zak, zaa, getK, D.under]) (by simp [wkE, St.lp, zak, zaa, getK] <;> (try (intros; simp_all; done)) <;> (try (intros; omega)) <;> (try grind)))
    rintro ⟨k, hk1, hk2⟩;simp [St.lp, St.only, zak, zaa, getK];by_cases hki : k = i
    ·subst hki;have hno : ((b.lets.take k).any fun x => decide (x.name = l.name)) = false := by
      rw [List.any_eq_false];intro x hx;simpa using hk2 x hx
     rw [hno] at hnx
     repeat' (first
  | ((first | refine zaf ?_ | refine zaj ?_ | fail); simp [hx])
  | (refine ⟨by omega, ?_⟩)
  | ((first | refine zag ?_ | refine zai ?_ | refine zat ?_ | fail); simp [hx])
  | (refine zbq ?_; simp [zao])
  | fail)
     refine LoopW.next ⟨k + 1, by omega, by simp_all⟩ (by simp; omega) ?_
     exact (Wk.cut rfl (by simp [hn, St.lp]) (by simp [wkO, St.lp, zaa, getK, Ob.under, D.under, zad, zah]) (by simp [wkU, St.lp, zak, zaa, getK, D.under]) (by simp [wkE, St.lp, zak, zaa, getK] <;> (try (intros; simp_all; done)) <;> (try (intros; omega)) <;> (try grind)))
    ·have hki' : k < i := by omega
     obtain ⟨y, hy⟩ : ∃ y, b.lets[k]? = some y := ⟨b.lets[k], List.getElem?_eq_getElem (by omega)⟩
     repeat' (first
  | ((first | refine zaf ?_ | refine zez ?_ | refine zaj ?_ | fail); simp [hx, hy])
  | (refine ⟨by omega, ?_⟩)
  | ((first | refine zag ?_ | refine zai ?_ | fail); simp [hx, hy])
  | (refine zfY ?_)
  | (refine hk _ ?_; clear hk k; simp only [zao])
  | (refine zey rfl (by kernel_rfl) (by kernel_rfl) fun k hk => ?_; simp [hx, hy])
  | (refine zat ?_; simp [hx, hy])
  | ((first | refine zap ?_ | refine zar ?_ | fail); simp only [zao])
  | (refine ⟨?_, by omega⟩)
  | (refine ⟨fun hc => ?_, fun hc => ?_⟩ <;> (try (exfalso; omega)))
  | (intro hc <;> (try (exfalso; omega)))
  | fail)
     ·(refine EndOK.val (.inr rfl) ?_; simp [zay, zae, zaq, Tryz.results24])
      have hyes : ((b.lets.take i).any fun x => decide (x.name = l.name)) = true := by
        rw [List.any_eq_true];refine ⟨y, List.mem_of_getElem? (i := k) (by rw [List.getElem?_take, if_pos hki']; exact hy), by simp_all⟩
      rw [hbad (by rw [hnx, hyes]; simp)];simp
     ·refine LoopW.next ⟨k + 1, by omega, za5 hy hk2 (by assumption)⟩ (by simp; omega) ?_
      exact (Wk.cut rfl (by simp [hn, St.lp]) (by simp [wkO, St.lp, zaa, getK, Ob.under, D.under, zad, zah]) (by simp [wkU, St.lp, zak, zaa, getK, D.under]) (by simp [wkE, St.lp, zak, zaa, getK] <;> (try (intros; simp_all; done)) <;> (try (intros; omega)) <;> (try grind)))
end Go.Proofs.YthnemhfamhnfjaaGreatDoor
namespace Go.Proofs.YthnemhfamhnfjaaGreatDoor
open Go Go.VL Go.ChangeShapes Go.WideShapes Go.ChangeAt Go.RowKit
theorem zpX {r : List U} (h : HasRow Tryz.prog 28 r) : ∃ b : By, r = zaS b := by
 obtain ⟨rs, hr, h⟩ := h.of_struct zql
 match rs, h with
 | [a1, a2, a3, a4, a5, a6, a7, a8, a9, a10, a11, a12, a13, a14, a15, a16, a17], h =>
  obtain ⟨h1, h2, h3, h4, h5, h6, h7, h8, h9, h10, h11, h12, h13, h14, h15, h16, h17, _⟩ := h;obtain ⟨x1, rfl, _⟩ := h1.of_int io3;obtain ⟨x2, rfl, _⟩ := h2.of_int io3;obtain ⟨x3, rfl, _⟩ := h3.of_int io3;obtain ⟨x4, rfl, _⟩ := h4.of_int io3;obtain ⟨x5, rfl, _⟩ := h5.of_int io3;obtain ⟨x6, rfl, _⟩ := h6.of_int io3;obtain ⟨x7, rfl⟩ := h7.of_bool (by simp);obtain ⟨x8, rfl, _⟩ := h8.of_int io3;obtain ⟨x9, rfl, _⟩ := h9.of_int io3;obtain ⟨x10, rfl, _⟩ := h10.of_int io3;obtain ⟨x11, rfl, _⟩ := h11.of_int io3;obtain ⟨rows, rfl, _, h12⟩ := h12.of_slice zrC;obtain ⟨l, rfl, _⟩ := rows_list (fun l : Let => [.str l.name, .int .i64 l.body.op, .int .i64 l.body.n, .int .i64 l.body.unit, .str l.body.s, .sl (l.body.args.map Exp.row)]) (fun _ => True) (rows := rows) fun r hr => zpR (h12 r hr);obtain ⟨e1, rfl⟩ := zfF h13;obtain ⟨e2, rfl⟩ := zfF h14;obtain ⟨e3, rfl⟩ := zfF h15;obtain ⟨e4, rfl⟩ := zfF h16;obtain ⟨e5, rfl⟩ := zfF h17;exact ⟨⟨x1, x2, x3, x4, x5, x6, x7, x8, x9, x10, x11, l, e1, e2, e3, e4, e5⟩, by rw [hr]; rfl⟩
end Go.Proofs.YthnemhfamhnfjaaGreatDoor
namespace Go.Proofs.YthnemhfamhnfjaaGreatDoor
open Go Go.VL
def zmN : Nat -> List UInt8 -> Nat -> Except (Nat × Int) (List Tok)
 | 0, _, _ => .ok []
 | f + 1, s, p =>
  match (s.drop (p + zcp zbZ (s.drop p))) with
  | [] => .ok [⟨0, [], 0, ((p + zcp zbZ (s.drop p) : Nat) : Int)⟩]
  | c :: r => match zg2 (c :: r) with
   | .error e => .error (p + zcp zbZ (s.drop p), e)
   | .ok t => match zmN f s (p + zcp zbZ (s.drop p) + t.text.length) with
    | .error x => .error x
    | .ok l => .ok ({ t with pos := ((p + zcp zbZ (s.drop p) : Nat) : Int) } :: l)
def zkA (s : List UInt8) : Except (Nat × Int) (List Tok) := if 2000 < s.length then .error (0, 6) else zmN (s.length + 1) s 0
def zhr : Except (Nat × Int) (List Tok) -> D
 | .ok l => .tup [.u (.sl (l.map fun t => [.int .i64 t.kind, .str t.text, .int .i64 t.n, .int .i64 t.pos])), .u (.int .i64 0), .u (.int .i64 0)]
 | .error (p, e) => .tup [.u (.sl []), .u (.int .i64 p), .u (.int .i64 e)]
def zlm (acc : List Tok) : Except (Nat × Int) (List Tok) -> Except (Nat × Int) (List Tok)
 | .ok l => .ok (acc ++ l)
 | .error x => .error x
theorem zmm (x) : zlm [] x = x := by cases x <;> simp [zlm]
theorem ziG {p : UInt8 -> Bool} {c : UInt8} {r : List UInt8} (h : p c = true) : 0 < zcp p (c :: r) := by
 unfold zcp; rw [List.takeWhile_cons, if_pos h]; simp
theorem zfA {s : List UInt8} {t : Tok} (h : zg2 s = .ok t) : 0 < t.text.length /\ t.text.length <= s.length := by
 unfold zg2 at h;split at h
 ·cases h
 ·rename_i c r;by_cases c1 : zbH c = true
  ·rw [if_pos c1] at h;split at h
   ·cases h;have h1 := ziG (p := zc1) (c := c) (r := r) (by simp [zc1, c1]);have h2 := zdB zc1 (c :: r);simp only [List.length_take];omega
   ·cases h
  ·rw [if_neg c1] at h;by_cases c2 : za4 c = true
   ·rw [if_pos c2] at h;split at h
    ·cases h;have h1 := ziG (p := za4) (c := c) (r := r) c2;have h2 := zdB za4 (c :: r);simp only [List.length_take];omega
    ·cases h
   ·rw [if_neg c2] at h;split at h
    ·rename_i x hx;cases h;have h1 := List.find?_some hx;have h2 := List.mem_of_find?_eq_some hx;refine ⟨?_, (List.isPrefixOf_iff_prefix.1 h1).length_le⟩;simp only [signsL, List.mem_cons, List.not_mem_nil, or_false] at h2;rcases h2 with h | h | h | h | h | h | h | h | h | h | h <;> subst h <;> simp
    ·cases h
def zhP (l : List Tok) : List (List D) := l.map fun t => [.u (.int .i64 t.kind), .u (.str t.text), .u (.int .i64 t.n), .u (.int .i64 t.pos)]
theorem zcz (l : List Tok) : (zhP l).length = l.length := by simp [zhP]
theorem ziD (l : List Tok) : rowsD (l.map fun t => [U.int .i64 t.kind, .str t.text, .int .i64 t.n, .int .i64 t.pos]) = zhP l := by simp [rowsD, zhP, Function.comp_def]
theorem zks (l : List Tok) : zcN (zhP l) = some (l.map fun t => [U.int .i64 t.kind, .str t.text, .int .i64 t.n, .int .i64 t.pos]) := by rw [<- ziD]; simp
theorem zgv (l) : zaP (zhP l) = True := by rw [<- ziD]; simp
theorem zft (n : Nat) (l) : (∀ x ∈ zhP l, ∀ y ∈ x, D.under n y = true) ↔ True := by
 refine ⟨fun _ => trivial, fun _ x hx y hy => ?_⟩;obtain ⟨b, _, rfl⟩ := List.mem_map.1 hx;simp at hy;rcases hy with rfl | rfl | rfl | rfl <;> simp [D.under]
end Go.Proofs.YthnemhfamhnfjaaGreatDoor
namespace Go.Proofs.YthnemhfamhnfjaaGreatDoor
open Go Go.VL
abbrev zmc (l : List Tok) : U := .sl (l.map fun t => [.int .i64 t.kind, .str t.text, .int .i64 t.n, .int .i64 t.pos])
abbrev pOb (l : List Tok) (p : Nat) : Ob := .box [.u (zmc l), .u (.int .i64 p)]
abbrev zoK (l : List Tok) (p : Nat) : U := .row [zmc l, .int .i64 p] 0
structure TokOK (l : List Tok) : Prop where
 fin : ∀ (i : Nat) (t : Tok), l[i]? = some t -> t.kind ≠ 0 -> i + 1 < l.length
 len : l.length <= 1000000
def isB (l : List Tok) (p : Nat) (w : List UInt8) : Bool := match l[p]? with | some t => decide (t.kind ≠ 0) && decide (t.text = w) | none => false
theorem zbc {l : List Tok} {p : Nat} {w : List UInt8} (hl : TokOK l) (h : isB l p w = true) : p + 1 < l.length := by
 unfold isB at h;split at h
 ·rename_i t ht;simp only [Bool.and_eq_true, decide_eq_true_eq] at h;exact hl.fin p t ht h.1
 ·cases h
end Go.Proofs.YthnemhfamhnfjaaGreatDoor
namespace Go.Proofs.YthnemhfamhnfjaaGreatDoor
open Go Go.VL
noncomputable def eqB {α : Type} (a b : α) : Bool := @decide (a = b) (Classical.propDecidable _)
theorem zb0 {α : Type} {a b : α} : eqB a b = true ↔ a = b := by unfold eqB; exact @decide_eq_true_iff _ (Classical.propDecidable _)
theorem zbB {α : Type} (a : α) : eqB a a = true := zb0.2 rfl
theorem zbC {α : Type} {a b : α} (h : a ≠ b) : eqB a b = false := by
 cases hb : eqB a b with
 | false => rfl
 | true => exact absurd (zb0.1 hb) h
end Go.Proofs.YthnemhfamhnfjaaGreatDoor
namespace Go.Proofs.YthnemhfamhnfjaaGreatDoor
open Go Go.VL
theorem zoR {a b : By} (h1 : a.kind = b.kind) (h2 : a.period = b.period) (h3 : a.grace = b.grace) (h4 : a.wait = b.wait) (h5 : a.last = b.last) (h6 : a.order = b.order) (h7 : a.sld = b.sld) (h8 : a.backs = b.backs) (h9 : a.voices = b.voices) (h10 : a.jury = b.jury) (h11 : a.fund = b.fund)
  (h12 : eqB a.lets b.lets = true) (h13 : eqB a.due b.due = true) (h14 : eqB a.fine b.fine = true) (h15 : eqB a.pay b.pay = true) (h16 : eqB a.cover b.cover = true) (h17 : eqB a.hold b.hold = true) : a = b := by
 rw [zb0] at h12 h13 h14 h15 h16 h17;cases a;cases b;simp_all
end Go.Proofs.YthnemhfamhnfjaaGreatDoor
namespace Go.Proofs.YthnemhfamhnfjaaGreatDoor
open Go Go.VL
attribute [local simp] zc2 zb3 evPure opd uOf zaF St.put St.at getK binD binI binS binB nilD aggD zgQ zha lookD lookR zcu Go.VL.nextD zcx zhu zhc zf2 zcw mkV zdj zbk zbu mapEff zdY zfQ Key.kk shiftI arith unD convD zdH loadD cellsAt fieldAddrD fieldD indexAddrD indexD sliceD cutD lenD minmaxD nilCheckD buildD fillD zbP zdb zeC setAll zcK zeO zco zg0 zcm St.add zaO zbF rowsOf zdA zcH zam zac zaa za7 zcC zaQ entry zbE zbO valD zb4 zcy zgh zdh zdi zbT zbK zaw zaW zbo delAll effD St.effS zcU za8 zaY zcV za9 za0 zb9 zaZ zaT zca zcS zbD zb8 zbl zb6 zb7 zaL mkD zbL zbv zbJ zaw zcn D.ids Op.operands Call.operands zby makeIfD makeFuncD typeAssertD zg9 zdw zdx zg1 zcv IntKind.bits zcN List.take_of_length_le List.range_succ
attribute [local irreducible] V G H HD HD2 zao Eff CallP CallV EndOK Fun Ret FinOK LoopI LoopW EndW
theorem zmK (s : List UInt8) : Fun Tryz.prog 32 [.u (.str s)] (· = zhr (zkA s)) := by
 unfold zkA;by_cases hlong : 2000 < s.length
 ·have hlong2 : 2000 < (s.length : Int) := by omega
  rw [if_pos hlong]
  (refine Fun.of_bodyW Tryz.func32 rfl (by simp) fun Γ hn => ?_); simp only [entry, ziC, ziN, maC, maN, oA, Tryz.ntmps32]
  repeat' (first
  | ((first | refine zaf ?_ | refine zaj ?_ | refine zag ?_ | refine zai ?_ | fail); simp [hlong, hlong2])
  | (refine zap ?_; simp only [zao])
  | fail)
  refine EndW.norm (EndW.here ?_)
  (refine EndOK.val (.inr rfl) ?_; simp [zay, zae, zaq, Tryz.results32, zaB, zaC, zh5, zh6, frz, zbb, frzS, fv, zaJ, za6, zba, zaG, zav, zan, zb2, zcq, zcr, zbi])
  simp [zhr]
 rw [if_neg hlong];have hlong2 : ¬ 2000 < (s.length : Int) := by omega
 obtain ⟨R, hR⟩ : ∃ R, R = zmN (s.length + 1) s 0 := ⟨_, rfl⟩;rw [<- hR]
 (refine Fun.of_bodyW Tryz.func32 rfl (by simp) fun Γ hn => ?_); simp only [entry, ziC, ziN, maC, maN, oA, Tryz.ntmps32]
 repeat' (first
  | ((first | refine zaf ?_ | refine zaj ?_ | refine zag ?_ | refine zai ?_ | refine zas ?_ | fail); simp [hlong, hlong2])
  | (refine zar ?_; simp only [zao])
  | fail)
 refine zcO _ (Wk.own 5 52 4 (by decide) rfl) ?_;simp [St.own];refine zdL (α := { x : List Tok × Nat × Nat // x.2.1 <= s.length /\ s.length < x.2.1 + x.2.2 /\ x.1.length <= x.2.1 /\ R = zlm x.1 (zmN x.2.2 s x.2.1) }) [0] (fun x => [(5, .vec 0 x.1.1.length), (6, .u (.int .i64 x.1.2.1))]) (fun x => [(0, .vec 52 4 (zhP x.1.1))]) 1 (fun x => x.1.2.2) ⟨([], 0, s.length + 1), by simp, by simp, by simp, by rw [zmm, hR]⟩ ?_ ?_
 ·exact (Wk.cut rfl (by simp [hn, St.lp]) (by simp [wkO, St.lp, zaa, getK, Ob.under, D.under, zad, zah, zhP]) (by simp [wkU, St.lp, zak, zaa, getK, D.under, zhP]) (by simp [wkE, St.lp, zak, zaa, getK, zhP] <;> (try (intros; simp_all; done)) <;> (try (intros; omega)) <;> (try grind)))
 rintro ⟨⟨acc, p, f⟩, h1, h2, h3, h4⟩;simp only at h1 h2 h3 h4;simp [St.lp, St.only, zak, zaa, getK];obtain ⟨f', rfl⟩ : ∃ f', f = f' + 1 := ⟨f - 1, by omega⟩;rw [zmN] at h4;have hsp := ze9 (s.drop p) (by rw [List.length_drop]; omega) 76 zbZ (fun c _ => znm c) (by simp);have hle := zdB zbZ (s.drop p);rw [List.length_drop] at hle;obtain ⟨b, hb⟩ : ∃ b, b = zcp zbZ (s.drop p) := ⟨_, rfl⟩;rw [<- hb] at hsp hle h4;have hp1 : (p : Int) <= s.length := by omega
 have hpb : (p : Int) + b <= s.length := by omega
 rcases hd : s.drop (p + b) with _ | ⟨c, r⟩
 ·have hdl : (s.drop (p + b)).length = 0 := by rw [hd]; rfl
  rw [List.length_drop] at hdl;have hpe : p + b = s.length := by omega
  have hpe2 : (p : Int) + b = s.length := by omega
  rw [hd] at h4;simp only at h4;have hap : zhP acc ++ [[D.u (.int .i64 0), D.u (.str []), D.u (.int .i64 0), D.u (.int .i64 (s.length : Int))]] = zhP (acc ++ [⟨0, [], 0, s.length⟩]) := by simp [zhP]
  have hlr : zkc 4 (zhP acc) := fun r hr => by obtain ⟨t, _, rfl⟩ := List.mem_map.1 hr; rfl
  rw [hpe] at h4
  repeat' (first
  | ((first | refine zaf ?_ | refine zaj ?_ | fail); simp [h1, hp1, hpe2, zcz, hap, hlr])
  | (refine ⟨by omega, ?_⟩)
  | ((first | refine zag ?_ | refine zai ?_ | refine zas ?_ | fail); simp [h1, hp1, hpe2, zcz, hap, hlr])
  | (refine zap ?_; simp only [zao])
  | (refine CallP.fE (hsp) (by first | rfl | fail) (by first | simp [h1, hp1, hpe2, zcz, hap, hlr] <;> rfl | fail) ?_; (try simp [h1, hp1, hpe2, zcz, hap, hlr]))
  | fail)
  (refine EndW.frzN 3 ?_; simp [frzN, frz1, zaC, zaB, St.frz, St.frzS, frzS, fv, zaJ, za6, zba, zaG, zav, zan, del, frz, zbb, zks, zcz, List.length_append])
  refine EndW.norm (EndW.here ?_)
  (refine EndOK.val (.inr rfl) ?_; simp [zay, zae, zaq, Tryz.results32, zaB, zaC, zh5, zh6, frz, zbb, frzS, fv, zaJ, za6, zba, zaG, zav, zan, zb2, zcq, zcr, zbi, zks, zcz, List.length_append])
  rw [h4];simp [zlm, zhr]
 ·have hdl : (s.drop (p + b)).length = r.length + 1 := by rw [hd]; rfl
  rw [List.length_drop] at hdl;have hpe : ¬ p + b = s.length := by omega
  have hpe2 : ¬ (p : Int) + b = s.length := by omega
  have hnx := znT (s.drop (p + b)) (by rw [hd]; simp) (by rw [List.length_drop]; omega);unfold nextD at hnx;rw [hd] at h4;simp only at h4;rw [hd] at hnx;have hpb2 : ((p : Int) + b).toNat = p + b := by omega
  have hpb3 : p + b <= s.length := by omega
  cases hno : zg2 (c :: r) with
  | error e =>
   rw [hno] at h4 hnx;have he : e ≠ 0 := by
    unfold zg2 at hno;simp only at hno;split at hno
    ·split at hno <;> cases hno;omega
    ·split at hno
     ·split at hno <;> cases hno;omega
     ·split at hno <;> cases hno;omega
   repeat' (first
  | ((first | refine zaf ?_ | refine zaj ?_ | fail); simp [h1, hp1, hpe, hpe2, hd, he, hpb, hpb2, hpb3])
  | (refine ⟨by omega, ?_⟩)
  | ((first | refine zag ?_ | refine zai ?_ | refine zas ?_ | fail); simp [h1, hp1, hpe, hpe2, hd, he, hpb, hpb2, hpb3])
  | ((first | refine zap ?_ | refine zar ?_ | fail); simp only [zao])
  | (refine CallP.fE (hsp) (by first | rfl | fail) (by first | simp [h1, hp1, hpe, hpe2, hd, he, hpb, hpb2, hpb3] <;> rfl | fail) ?_; (try simp [h1, hp1, hpe, hpe2, hd, he, hpb, hpb2, hpb3]))
  | (refine CallP.fE (hnx) (by first | rfl | fail) (by first | simp [h1, hp1, hpe, hpe2, hd, he, hpb, hpb2, hpb3] <;> rfl | fail) ?_; (try simp [h1, hp1, hpe, hpe2, hd, he, hpb, hpb2, hpb3]))
  | fail)
   refine EndW.norm (EndW.here ?_)
   (refine EndOK.val (.inr rfl) ?_; simp [zay, zae, zaq, Tryz.results32, zaB, zaC, zh5, zh6, frz, zbb, frzS, fv, zaJ, za6, zba, zaG, zav, zan, zb2, zcq, zcr, zbi])
   rw [h4];simp [zlm, zhr]
  | ok t =>
   rw [hno] at h4 hnx;obtain ⟨ht1, ht2⟩ := zfA hno;simp only [List.length_cons] at ht2;have hap : zhP acc ++ [[D.u (.int .i64 t.kind), D.u (.str t.text), D.u (.int .i64 t.n), D.u (.int .i64 ((p : Int) + b))]] = zhP (acc ++ [{ t with pos := ((p + b : Nat) : Int) }]) := by simp [zhP]
   have hlr : zkc 4 (zhP acc) := fun r hr => by obtain ⟨t, _, rfl⟩ := List.mem_map.1 hr; rfl
   repeat' (first
  | ((first | refine zaf ?_ | refine zaj ?_ | fail); simp [h1, hp1, hpe, hpe2, hd, hpb, hpb2, hpb3, zcz, hap, hlr])
  | (refine ⟨by omega, ?_⟩)
  | ((first | refine zag ?_ | refine zai ?_ | refine zas ?_ | refine zat ?_ | fail); simp [h1, hp1, hpe, hpe2, hd, hpb, hpb2, hpb3, zcz, hap, hlr])
  | (refine zar ?_; simp only [zao])
  | (refine CallP.fE (hsp) (by first | rfl | fail) (by first | simp [h1, hp1, hpe, hpe2, hd, hpb, hpb2, hpb3, zcz, hap, hlr] <;> rfl | fail) ?_; (try simp [h1, hp1, hpe, hpe2, hd, hpb, hpb2, hpb3, zcz, hap, hlr]))
  | (refine CallP.fE (hnx) (by first | rfl | fail) (by first | simp [h1, hp1, hpe, hpe2, hd, hpb, hpb2, hpb3, zcz, hap, hlr] <;> rfl | fail) ?_; (try simp [h1, hp1, hpe, hpe2, hd, hpb, hpb2, hpb3, zcz, hap, hlr]))
  | fail)
   refine LoopW.next ⟨(acc ++ [{ t with pos := ((p + b : Nat) : Int) }], p + b + t.text.length, f'), by simp; omega, by simp; omega, by simp; omega, ?_⟩ (by simp) ?_
   ·rw [h4];simp only;cases zmN f' s (p + b + t.text.length) <;> simp [zlm]
   ·skip
    exact (Wk.ren ((fun i => if i = 0 then 3 else i)) rfl (by first | (simp [hn]; done) | (intro i hi; rw [hn] at hi; constructor <;> (try simp) <;> (try (intro _)) <;> omega)) (by simp [zfZ, St.lp, zak, zaa, getK, zac, zam, D.under, D.le, D.ren, zgv, zft] <;> (try (intros; simp_all; done)) <;> (try omega)) (by simp [wkR, St.lp, zaa, getK, zac, zam, obR, leU, zbh, zaP, Ob.under, D.under, D.le, D.ren, zgv, zft] <;> (try (intros; simp_all; done)) <;> (try omega)) (by simp [zgv, zft]))
end Go.Proofs.YthnemhfamhnfjaaGreatDoor
namespace Go.Proofs.YthnemhfamhnfjaaGreatDoor
open Go Go.VL
attribute [local simp] HS zc2 zb3 evPure opd uOf zaF St.put St.at getK binD binI binS binB nilD aggD zgQ zha lookD lookR zcu Go.VL.nextD zcx zhu zhc zf2 zcw mkV zdj zbk zbu mapEff zdY zfQ Key.kk shiftI arith unD convD zdH loadD cellsAt fieldAddrD fieldD indexAddrD indexD sliceD cutD lenD minmaxD nilCheckD buildD fillD zbP zdb zeC setAll zcK zeO zco zg0 zcm St.add zaO zbF rowsOf zdA zcH zam zac zaa za7 zcC zaQ entry zbE zbO valD zb4 zcy zgh zdh zdi zbT zbK zaw zaW zbo delAll effD St.effS zcU za8 zaY zcV za9 za0 zb9 zaZ zaT zca zcS zbD zb8 zbl zb6 zb7 zaL mkD zbL zbv zbJ zaw zcn D.ids Op.operands Call.operands zby makeIfD makeFuncD typeAssertD zg9 zdw zdx zg1 zcv IntKind.bits zcN List.take_of_length_le List.range_succ
attribute [local irreducible] V G H HD HD2 HD4 zjP RetX zao Eff CallP CallV EndOK Fun Ret FinOK LoopI LoopW EndW
theorem zb1 (l : List Tok) (p : Nat) (t : Tok) (hp : l[p]? = some t) (hl : l.length <= 1000000) : Fun Tryz.prog 43 [.u (zoK l p)] (· = .u (.agg [.int .i64 t.kind, .str t.text, .int .i64 t.n, .int .i64 t.pos])) := by
 have hlt := (lGE.1 hp).1;unfold zoK zmc
 (refine Fun.of_body Tryz.func43 rfl (by simp) fun Γ hn => ?_); simp only [entry, ziC, ziN, maC, maN, oA, Tryz.ntmps43]
 repeat' (first
  | ((first | refine zaf ?_ | refine zaR rfl ?_ | refine zcb rfl ?_ | refine zaj ?_ | refine zag ?_ | fail); simp [hp])
  | (refine zaX (hC _ (by kernel_rfl)) (hk _ ?_); clear hC hk C k; simp only [zao])
  | (refine za2 rfl (by kernel_rfl) (by first | (simp [hn]; done) | (simp [hn]; omega) | fail) fun C k hC hk => ?_; simp [hp])
  | (refine zap ?_; simp only [zao])
  | fail)
 (refine EndOK.val (.inr rfl) ?_; simp [zay, zae, zaq, Tryz.results43])
theorem zec (l : List Tok) (p : Nat) (w : List UInt8) (hp : p < l.length) (hl : l.length <= 1000000) : Fun Tryz.prog 79 [.u (zoK l p), .u (.str w)] (· = .u (.bool (isB l p w))) := by
 obtain ⟨t, ht⟩ : ∃ t, l[p]? = some t := ⟨_, List.getElem?_eq_getElem hp⟩;have hnx := zb1 l p t ht hl;unfold isB;rw [ht];unfold zoK zmc at *;by_cases h1 : t.kind = 0
 ·(refine Fun.of_body Tryz.func79 rfl (by simp) fun Γ hn => ?_); simp only [entry, ziC, ziN, maC, maN, oA, Tryz.ntmps79]
  repeat' (first
  | ((first | refine zaf ?_ | refine zaj ?_ | refine zag ?_ | fail); simp [h1])
  | (refine zap ?_; simp only [zao])
  | (refine CallP.fE (hnx) (by first | rfl | fail) (by first | simp [h1] <;> rfl | fail) ?_; (try simp [h1]))
  | fail)
  all_goals
    (refine EndOK.val (.inr rfl) ?_; simp [zay, zae, zaq, Tryz.results79])
  all_goals simp [h1]
 ·(refine Fun.of_body Tryz.func79 rfl (by simp) fun Γ hn => ?_); simp only [entry, ziC, ziN, maC, maN, oA, Tryz.ntmps79]
  repeat' (first
  | ((first | refine zaf ?_ | refine zaj ?_ | refine zag ?_ | fail); simp [h1])
  | (refine zap ?_; simp only [zao])
  | (refine CallP.fE (hnx) (by first | rfl | fail) (by first | simp [h1] <;> rfl | fail) ?_; (try simp [h1]))
  | fail)
  all_goals
    (refine EndOK.val (.inr rfl) ?_; simp [zay, zae, zaq, Tryz.results79])
  all_goals simp [h1]
theorem zbj (l : List Tok) (p : Nat) (w : List UInt8) (i nx : Nat) (hi : i < nx) (hp : p < l.length) (hl : l.length <= 1000000) :
  RetX Tryz.prog 127 [.ptr i 0, .u (.str w)] [(i, pOb l p)] nx (fun r o n => r = .val (.u (.bool (isB l p w))) /\ o = [(i, pOb l (if isB l p w = true then p + 1 else p))] /\ n = nx) := by
 have h1 := zec l p w hp hl;unfold pOb zoK zmc at *;cases hb : isB l p w with
 | false =>
  rw [hb] at h1
  (refine RetX.of_bodyW Tryz.func127 rfl (by simp) fun Γ hn hpan => ?_); simp only [entry, ziC, ziN, maC, maN, oA, Tryz.ntmps127]
  repeat' (first
  | ((first | refine zaf ?_ | refine zaj ?_ | refine zag ?_ | refine zai ?_ | fail); simp)
  | (refine zap ?_; simp only [zao])
  | (refine CallP.fE (h1) (by first | rfl | fail) (by first | (simp; done) | (simp; rfl) | fail) ?_; (try simp))
  | fail)
  (refine EndW.here ?_; (first | (refine EndOK.fin (.inr rfl) ?_) | (refine EndOK.fin (.inl rfl) ?_)); simp [zay, zae, Tryz.results127]; refine FinOK.here (by simp) ?_; try simp)
 | true =>
  rw [hb] at h1
  (refine RetX.of_bodyW Tryz.func127 rfl (by simp) fun Γ hn hpan => ?_); simp only [entry, ziC, ziN, maC, maN, oA, Tryz.ntmps127]
  repeat' (first
  | ((first | refine zaf ?_ | refine zaj ?_ | fail); simp)
  | (refine ⟨by omega, ?_⟩)
  | ((first | refine zag ?_ | refine zai ?_ | fail); simp)
  | ((first | refine zap ?_ | refine zar ?_ | fail); simp only [zao])
  | (refine CallP.fE (h1) (by first | rfl | fail) (by first | (simp; done) | (simp; rfl) | fail) ?_; (try simp))
  | fail)
  (refine EndW.here ?_; (first | (refine EndOK.fin (.inr rfl) ?_) | (refine EndOK.fin (.inl rfl) ?_)); simp [zay, zae, Tryz.results127]; refine FinOK.here (by simp) ?_; try simp)
def chP (pos e : Int) : List PanicEntry := [{ v := .iface 105 (.agg #[.int .i64 pos, .int .i64 e]), recovered := false }]
def isP (l : List Tok) (ob : Ob) : Prop := ∃ q : Nat, ob = pOb l q
theorem zdF (l : List Tok) (p : Nat) (e : Int) (i nx : Nat) (hi : i < nx) :
  RetX Tryz.prog 42 [.ptr i 0, .u (.bool true), .u (.int .i64 e)] [(i, pOb l p)] nx (fun r o n => r = .val (.tup []) /\ o = [(i, pOb l p)] /\ n = nx) := by
 (refine RetX.of_bodyW Tryz.func42 rfl (by simp) fun Γ hn hpan => ?_); simp only [entry, ziC, ziN, maC, maN, oA, Tryz.ntmps42]
 repeat' (first
  | ((first | refine zaf ?_ | refine zaj ?_ | refine zag ?_ | refine zai ?_ | fail); simp)
  | (refine zar ?_; simp only [zao])
  | fail)
 (refine EndW.here ?_; (first | (refine EndOK.fin (.inr rfl) ?_) | (refine EndOK.fin (.inl rfl) ?_)); simp [zay, zae, Tryz.results42]; refine FinOK.here (by simp) ?_; try simp)
theorem zcM (l : List Tok) (p : Nat) (t : Tok) (e : Int) (i nx : Nat) (hi : i < nx) (hp : l[p]? = some t) (hl : l.length <= 1000000) :
  RetX Tryz.prog 42 [.ptr i 0, .u (.bool false), .u (.int .i64 e)] [(i, pOb l p)] nx (fun r o n => r = .pan (chP t.pos e) /\ (∃ ob', isP l ob' /\ o = [(i, ob')]) /\ n = nx) := by
 have h1 := zb1 l p t hp hl
 (refine RetX.of_bodyW Tryz.func42 rfl (by simp) fun Γ hn hpan => ?_); simp only [entry, ziC, ziN, maC, maN, oA, Tryz.ntmps42]
 repeat' (first
  | ((first | refine zaf ?_ | refine zaj ?_ | refine zag ?_ | refine zai ?_ | refine zat ?_ | fail); simp)
  | (refine CallP.fE (h1) (by first | rfl | fail) (by first | (simp; done) | (simp; rfl) | fail) ?_; (try simp))
  | fail)
 all_goals
  (refine hpan _ _ ⟨{ n := _, env := [], obs := [(i, pOb l p)], next := nx }, (Wk.cut rfl (by simp [hn]) (by simp [wkO, zaa, getK, zab, zac, Ob.under, D.under, zad, zah, hi]) (by simp [wkU, zak, zaa, getK, D.under, hi]) (by simp [wkE, zak, zaa, getK, hi])), by simp [hn], ?_⟩; try simp)
  all_goals exact ⟨rfl, p, rfl⟩
inductive PR (α : Type) where
 | ok (a : α) (p : Nat)
 | stop (pos e : Int)
def zc0 (l : List Tok) (p : Nat) : Int := match l[p]? with | some t => t.pos | none => 0
def zbS (l : List Tok) : Nat -> List (List UInt8) -> PR Unit
 | p, [] => .ok () p
 | p, w :: ws => if isB l p w = true then zbS l (p + 1) ws else .stop (zc0 l p) 12
def PPost {α : Type} (l : List Tok) (i nx : Nat) (val : α -> D) : PR α -> Out -> List (Nat × Ob) -> Nat -> Prop
 | .ok a q, o, obs, n => o = .val (val a) /\ obs = [(i, pOb l q)] /\ n = nx
 | .stop pos e, o, obs, n => o = .pan (chP pos e) /\ (∃ ob', isP l ob' /\ obs = [(i, ob')]) /\ n = nx
theorem zhK (l : List Tok) (p : Nat) (ws : List (List UInt8)) (i nx : Nat) (hi : i < nx) (hp : p < l.length) (hl : TokOK l) (hw : ws.length <= 100) :
  RetX Tryz.prog 83 [.ptr i 0, .u (.sl (ws.map fun w => [.str w]))] [(i, pOb l p)] nx (PPost l i nx (fun _ => .tup []) (zbS l p ws)) := by
 (refine RetX.of_bodyW Tryz.func83 rfl (by simp) fun Γ hn hpan => ?_); simp only [entry, ziC, ziN, maC, maN, oA, Tryz.ntmps83]
 repeat' (first
  | ((first | refine zaf ?_ | refine zaj ?_ | refine zag ?_ | refine zas ?_ | fail); simp)
  | fail)
 refine zdL (α := { x : Nat × Nat // x.1 <= ws.length /\ x.2 < l.length /\ zbS l p ws = zbS l x.2 (ws.drop x.1) }) [0, 6, 7] (fun x => [(8, .u (.int .i64 x.1.1))]) (fun x => [(i, pOb l x.1.2)]) nx (fun x => ws.length - x.1.1) ⟨(0, p), by simp, hp, by simp⟩ ?_ ?_
 ·exact (Wk.cut rfl (by simp [hn, St.lp]) (by simp [wkO, St.lp, zaa, getK, Ob.under, D.under, zad, zah, hi]) (by simp [wkU, St.lp, zak, zaa, getK, D.under, hi]) (by simp [wkE, St.lp, zak, zaa, getK, hi] <;> (try (intros; simp_all; done)) <;> (try (intros; omega)) <;> (try grind)))
 rintro ⟨⟨k, q⟩, h1, h2, h3⟩;simp only at h1 h2 h3;simp [St.lp, St.only, zak, zaa, getK];rcases hx : ws[k]? with _ | w
 ·have hge : ws.length <= k := by simpa using hx
  obtain rfl : k = ws.length := by omega
  rw [List.drop_length, zbS] at h3
  repeat' (first
  | ((first | refine zaf ?_ | refine zaj ?_ | refine zag ?_ | fail); simp [hx])
  | (refine zbq ?_; simp [zao])
  | fail)
  rw [h3]
  (refine EndW.here ?_; (first | (refine EndOK.fin (.inr rfl) ?_) | (refine EndOK.fin (.inl rfl) ?_)); simp [zay, zae, Tryz.results83]; refine FinOK.here (by simp) ?_; try simp)
  simp [PPost]
 ·have hlt : k < ws.length := (lGE.1 hx).1;have hd : ws.drop k = w :: ws.drop (k + 1) := by
   obtain ⟨h5, h6⟩ := lGE.1 hx;rw [<- h6, List.getElem_cons_drop]
  rw [hd, zbS] at h3;have hh := zbj l q w i nx hi h2 hl.len;by_cases hb : isB l q w = true
  ·rw [if_pos hb] at h3;rw [hb, if_pos rfl] at hh;have hq := zbc hl hb;have hck := zdF l (q + 1) 12 i nx hi
   repeat' (first
  | ((first | refine zaf ?_ | refine zaj ?_ | fail); simp [hx])
  | (refine ⟨by omega, ?_⟩)
  | ((first | refine zag ?_ | refine zat ?_ | fail); simp [hx])
  | (refine zar ?_; simp only [zao])
  | (refine ⟨?_, by omega⟩)
  | (intro hc <;> (try (exfalso; omega)))
  | (refine CallP.ok1 (hh) (by first | (simp [hx, zaa, getK, zab, zac]; done) | fail) (by rfl) (by rfl) ?_; (try simp [hx]))
  | (refine CallP.ok1 (hck) (by first | (simp [hx, zaa, getK, zab, zac]; done) | fail) (by rfl) (by rfl) ?_; (try simp [hx]))
  | fail)
   refine LoopW.next ⟨(k + 1, q + 1), by omega, hq, h3⟩ (by simp; omega) ?_
   exact (Wk.cut rfl (by simp [hn, St.lp]) (by simp [wkO, St.lp, zaa, getK, Ob.under, D.under, zad, zah, hi, zab, zac, zaa, getK]) (by simp [wkU, St.lp, zak, zaa, getK, D.under, hi, zab, zac, zaa, getK]) (by simp [wkE, St.lp, zak, zaa, getK, hi, zab, zac, zaa, getK] <;> (try (intros; simp_all; done)) <;> (try (intros; omega)) <;> (try grind)))
  ·have hb2 : isB l q w = false := by simpa using hb
   rw [if_neg hb] at h3;rw [hb2, if_neg (by simp)] at hh;obtain ⟨t, ht⟩ : ∃ t, l[q]? = some t := ⟨_, List.getElem?_eq_getElem h2⟩;have hck := zcM l q t 12 i nx hi ht hl.len
   repeat' (first
  | ((first | refine zaf ?_ | refine zaj ?_ | refine zag ?_ | refine zat ?_ | fail); simp [hx])
  | (refine zar ?_; simp only [zao])
  | (refine ⟨?_, by omega⟩)
  | (intro hc <;> (try (exfalso; omega)))
  | (refine CallP.ok1 (hh) (by first | (simp [hx, zaa, getK, zab, zac]; done) | fail) (by rfl) (by rfl) ?_; (try simp [hx]))
  | (refine CallP.zeg (hck) (by first | (simp [hx, zaa, getK, zab, zac]; done) | fail) (by rfl) (by first | assumption | (simp; done) | fail) (by rfl) (by simp) ?_; rintro ob' ⟨q', rfl⟩; refine ⟨_, Wk.refl _, ?_⟩)
  | fail)
   rw [h3] at hpan
   (refine hpan _ _ ⟨{ n := _, env := [], obs := [(i, pOb l q')], next := nx }, (Wk.cut rfl (by simp [hn]) (by simp [wkO, zaa, getK, zab, zac, Ob.under, D.under, zad, zah, hi, zab, zac, zaa, getK]) (by simp [wkU, zak, zaa, getK, D.under, hi, zab, zac, zaa, getK]) (by simp [wkE, zak, zaa, getK, hi, zab, zac, zaa, getK])), by simp [hn], ?_⟩; try simp)
   all_goals exact ⟨by simp [zc0, ht], ⟨_, ⟨q', rfl⟩, rfl⟩, rfl⟩
end Go.Proofs.YthnemhfamhnfjaaGreatDoor
namespace Go.Proofs.YthnemhfamhnfjaaGreatDoor
open Go Go.VL
def PR.bind {α β : Type} : PR α -> (α -> Nat -> PR β) -> PR β
 | .ok a p, f => f a p
 | .stop pos e, _ => .stop pos e
theorem PR.zaV {α β : Type} {a : α} {p : Nat} {f : α -> Nat -> PR β} : (PR.ok a p).bind f = f a p := rfl
theorem PR.zaM {α β : Type} {pos e : Int} {f : α -> Nat -> PR β} : (PR.stop pos e : PR α).bind f = .stop pos e := rfl
theorem PR.zaH {α β : Type} {r : PR α} {f : α -> Nat -> PR β} {b : β} {q : Nat} (h : r.bind f = .ok b q) : ∃ a p, r = .ok a p /\ f a p = .ok b q := by
 cases r with
 | ok a p => exact ⟨a, p, rfl, h⟩
 | stop => cases h
theorem PPost.zct {α : Type} {l i nx} {val : α -> D} {r : PR α} {a : α} {q : Nat} (h : r = .ok a q) {d : D} (hd : d = val a) {o : List (Nat × Ob)} (ho : o = [(i, pOb l q)]) : PPost l i nx val r (.val d) o nx := by
 subst h; subst hd; subst ho; exact ⟨rfl, rfl, rfl⟩
theorem PPost.zaA {α : Type} {l i nx} {val : α -> D} {r : PR α} {pos e : Int} {q : Nat} (h : r = .stop pos e) : PPost l i nx val r (.pan (chP pos e)) [(i, pOb l q)] nx := by
 subst h; exact ⟨rfl, ⟨_, ⟨q, rfl⟩, rfl⟩, rfl⟩
structure Opr where
 text : List UInt8
 op : Int
 form : Int
def oprs : List Opr := [⟨[111, 114], 11, 1⟩, ⟨[97, 110, 100], 10, 2⟩, ⟨[61, 61], 9, 4⟩, ⟨[60], 8, 4⟩, ⟨[43], 2, 5⟩, ⟨[45], 3, 5⟩, ⟨[42], 4, 6⟩, ⟨[47], 5, 6⟩]
def zpN (l : List Tok) (p : Nat) : Option Opr := oprs.find? fun o => isB l p o.text
def zk9 (l : List Tok) (p : Nat) : PR Int :=
 if isB l p [99, 111, 105, 110, 115] = true then .ok 3 (p + 1)
 else if isB l p [100, 97, 121, 115] = true then .ok 2 (p + 1)
 else if isB l p [112, 101, 114] = true then (zbS l (p + 1) [[109, 105, 108, 108, 101]]).bind fun _ q => .ok 4 q
 else .ok 1 p
mutual
def zed (l : List Tok) : Nat -> Nat -> Int -> PR Exp
 | 0, _, _ => .stop 0 0
 | f + 1, p, form => (zbt l f p form).bind fun e q => zeM l f form e.1 e.2 q
def zeM (l : List Tok) : Nat -> Int -> Exp -> Int -> Nat -> PR Exp
 | 0, _, _, _, _ => .stop 0 0
 | f + 1, form, e, own, q => match zpN l q with
  | none => .ok e q
  | some x => if x.form < form \/ own < x.form \/ (own = 4 /\ x.form = 4) then .ok e q
   else (zed l f (q + 1) (x.form + 1)).bind fun e2 r => zeM l f form (.mk x.op 0 0 [] [e, e2]) x.form r
def zbt (l : List Tok) : Nat -> Nat -> Int -> PR (Exp × Int)
 | 0, _, _ => .stop 0 0
 | f + 1, p, form =>
  if form = 0 /\ isB l p [105, 102] = true then
   (zed l f (p + 1) 0).bind fun a q1 => (zbS l q1 [[116, 104, 101, 110]]).bind fun _ q2 => (zed l f q2 0).bind fun b q3 =>
   (zbS l q3 [[101, 108, 115, 101]]).bind fun _ q4 => (zed l f q4 0).bind fun c q5 => .ok (.mk 13 0 0 [] [a, b, c], 0) q5
  else if form <= 3 /\ isB l p [110, 111, 116] = true then (zed l f (p + 1) 3).bind fun a q => .ok (.mk 12 0 0 [] [a], 3) q
  else (za3 l f p).bind fun e q => .ok (e, 7) q
def za3 (l : List Tok) : Nat -> Nat -> PR Exp
 | 0, _ => .stop 0 0
 | f + 1, p => match l[p]? with
  | none => .stop 0 0
  | some t =>
   if t.kind = 2 then (zk9 l (p + 1)).bind fun u q => .ok (.mk 0 t.n u [] []) q
   else if isB l p [116, 114, 117, 101] = true then .ok (.mk 0 1 0 [] []) (p + 1)
   else if isB l p [102, 97, 108, 115, 101] = true then .ok (.mk 0 0 0 [] []) (p + 1)
   else if isB l p [109, 105, 110] = true \/ isB l p [109, 97, 120] = true then
    (zbS l (p + 1) [[40]]).bind fun _ q1 => (zed l f q1 0).bind fun a q2 => (zbS l q2 [[44]]).bind fun _ q3 => (zed l f q3 0).bind fun b q4 =>
    (zbS l q4 [[41]]).bind fun _ q5 => .ok (.mk (if isB l p [109, 97, 120] = true then 7 else 6) 0 0 [] [a, b]) q5
   else if isB l p [40] = true then (zed l f (p + 1) 0).bind fun e q1 => (zbS l q1 [[41]]).bind fun _ q2 => .ok e q2
   else if t.kind = 1 /\ zcs t.text = true then .ok (.mk 1 0 0 t.text []) (p + 1)
   else .stop t.pos 12
end
theorem za1 {l : List Tok} (hl : TokOK l) : ∀ (ws : List (List UInt8)) {p q : Nat}, zbS l p ws = .ok () q -> p < l.length -> p <= q /\ q < l.length
 | [], p, q, h, hp => by rw [zbS] at h; cases h; exact ⟨Nat.le_refl _, hp⟩
 | w :: ws, p, q, h, hp => by
  rw [zbS] at h;split at h
  ·rename_i hb;have := za1 hl ws h (zbc hl hb);exact ⟨by omega, this.2⟩
  ·cases h
theorem znG {l : List Tok} (hl : TokOK l) {p q : Nat} {u : Int} (h : zk9 l p = .ok u q) (hp : p < l.length) : p <= q /\ q < l.length := by
 unfold zk9 at h;split at h
 ·rename_i hb; cases h; exact ⟨by omega, zbc hl hb⟩
 ·split at h
  ·rename_i hb; cases h; exact ⟨by omega, zbc hl hb⟩
  ·split at h
   ·rename_i hb;obtain ⟨a, r, h1, h2⟩ := PR.zaH h;cases h2;have := za1 hl _ h1 (zbc hl hb);exact ⟨by omega, this.2⟩
   ·cases h; exact ⟨by omega, hp⟩
theorem zci {l : List Tok} (hl : TokOK l) : ∀ (f : Nat),
  (∀ p form e q, zed l f p form = .ok e q -> p < l.length -> p <= q /\ q < l.length) /\
  (∀ form e own p e' q, zeM l f form e own p = .ok e' q -> p < l.length -> p <= q /\ q < l.length) /\
  (∀ p form e q, zbt l f p form = .ok e q -> p < l.length -> p <= q /\ q < l.length) /\
  (∀ p e q, za3 l f p = .ok e q -> p < l.length -> p <= q /\ q < l.length)
 | 0 => ⟨fun _ _ _ _ h => by simp [zed] at h, fun _ _ _ _ _ _ h => by simp [zeM] at h, fun _ _ _ _ h => by simp [zbt] at h, fun _ _ _ h => by simp [za3] at h⟩
 | f + 1 => by
  obtain ⟨he, hlo, hpr, hpm⟩ := zci hl f;refine ⟨fun p form e q h hp => ?_, fun form e own p e' q h hp => ?_, fun p form e q h hp => ?_, fun p e q h hp => ?_⟩
  ·rw [zed] at h;obtain ⟨a, r, h1, h2⟩ := PR.zaH h;have g1 := hpr _ _ _ _ h1 hp;have g2 := hlo _ _ _ _ _ _ h2 g1.2;exact ⟨by omega, g2.2⟩
  ·rw [zeM] at h;split at h
   ·cases h; exact ⟨by omega, hp⟩
   ·rename_i x hx;have hb := List.find?_some hx;have hp2 := zbc hl hb;split at h
    ·cases h; exact ⟨by omega, hp⟩
    ·obtain ⟨a, r, h1, h2⟩ := PR.zaH h;have g1 := he _ _ _ _ h1 hp2;have g2 := hlo _ _ _ _ _ _ h2 g1.2;exact ⟨by omega, g2.2⟩
  ·rw [zbt] at h;split at h
   ·rename_i hb;have hp2 := zbc hl hb.2;obtain ⟨a, r, h1, h⟩ := PR.zaH h;have g1 := he _ _ _ _ h1 hp2;obtain ⟨_, r2, h2, h⟩ := PR.zaH h;have g2 := za1 hl _ h2 g1.2;obtain ⟨a, r3, h3, h⟩ := PR.zaH h;have g3 := he _ _ _ _ h3 g2.2;obtain ⟨_, r4, h4, h⟩ := PR.zaH h;have g4 := za1 hl _ h4 g3.2;obtain ⟨a, r5, h5, h⟩ := PR.zaH h;have g5 := he _ _ _ _ h5 g4.2;cases h;exact ⟨by omega, g5.2⟩
   ·split at h
    ·rename_i hb;have hp2 := zbc hl hb.2;obtain ⟨a, r, h1, h⟩ := PR.zaH h;have g1 := he _ _ _ _ h1 hp2;cases h;exact ⟨by omega, g1.2⟩
    ·obtain ⟨a, r, h1, h⟩ := PR.zaH h;have g1 := hpm _ _ _ h1 hp;cases h;exact g1
  ·rw [za3] at h;split at h
   ·cases h
   ·rename_i t ht;split at h
    ·rename_i hk;have hp2 := hl.fin p t ht (by omega);obtain ⟨a, r, h1, h⟩ := PR.zaH h;have g1 := znG hl h1 hp2;cases h;exact ⟨by omega, g1.2⟩
    split at h
    ·rename_i hb; cases h; exact ⟨by omega, zbc hl hb⟩
    split at h
    ·rename_i hb; cases h; exact ⟨by omega, zbc hl hb⟩
    split at h
    ·rename_i hb;have hp2 : p + 1 < l.length := hb.elim (zbc hl) (zbc hl);obtain ⟨_, r2, h2, h⟩ := PR.zaH h;have g2 := za1 hl _ h2 hp2;obtain ⟨a, r3, h3, h⟩ := PR.zaH h;have g3 := he _ _ _ _ h3 g2.2;obtain ⟨_, r4, h4, h⟩ := PR.zaH h;have g4 := za1 hl _ h4 g3.2;obtain ⟨a, r5, h5, h⟩ := PR.zaH h;have g5 := he _ _ _ _ h5 g4.2;obtain ⟨_, r6, h6, h⟩ := PR.zaH h;have g6 := za1 hl _ h6 g5.2;cases h;exact ⟨by omega, g6.2⟩
    split at h
    ·rename_i hb;have hp2 := zbc hl hb;obtain ⟨a, r3, h3, h⟩ := PR.zaH h;have g3 := he _ _ _ _ h3 hp2;obtain ⟨_, r4, h4, h⟩ := PR.zaH h;have g4 := za1 hl _ h4 g3.2;cases h;exact ⟨by omega, g4.2⟩
    split at h
    ·rename_i hk;cases h;exact ⟨by omega, hl.fin p t ht (by omega)⟩
    ·cases h
end Go.Proofs.YthnemhfamhnfjaaGreatDoor
namespace Go.Proofs.YthnemhfamhnfjaaGreatDoor
open Go Go.VL
abbrev W8 := List UInt8
def zlE : W8 -> Int
 | [] => 0
 | c :: _ => if zbH c = true then 1 else if za4 c = true then 2 else 3
theorem zn7 {w : W8} (h : w ≠ []) : zlE w ≠ 0 := by
 cases w with
 | nil => exact absurd rfl h
 | cons c w => rw [zlE]; split <;> (try split) <;> decide
def zqm (w : W8) : Int := if zlE w = 2 then (zfy w).getD 0 else 0
def Reads (l : List Tok) (p : Nat) (ws : List W8) : Prop := ∀ i w, ws[i]? = some w -> w ≠ [] /\ ∃ t, l[p + i]? = some t /\ t.text = w /\ t.kind = zlE w /\ t.n = zqm w
theorem Reads.left {l p} {a b : List W8} (h : Reads l p (a ++ b)) : Reads l p a := fun i w hi => h i w (by rw [List.getElem?_append_left (lGE.1 hi).1]; exact hi)
theorem Reads.right {l p} {a b : List W8} (h : Reads l p (a ++ b)) : Reads l (p + a.length) b := fun i w hi => by
 have := h (a.length + i) w (by rw [List.getElem?_append_right (by omega), Nat.add_sub_cancel_left]; exact hi)
 rwa [<- nAA] at this
theorem Reads.head {l p} {w : W8} {b : List W8} (h : Reads l p (w :: b)) : w ≠ [] /\ ∃ t, l[p]? = some t /\ t.text = w /\ t.kind = zlE w /\ t.n = zqm w := h 0 w rfl
theorem Reads.tail {l p} {w : W8} {b : List W8} (h : Reads l p (w :: b)) : Reads l (p + 1) b := Reads.right (a := [w]) h
theorem Reads.isB {l p} {w : W8} {b : List W8} (h : Reads l p (w :: b)) (v : W8) : isB l p v = decide (w = v) := by
 obtain ⟨hw, t, ht, h1, h2, h3⟩ := h.head;have := zn7 hw;simp [Go.Proofs.YthnemhfamhnfjaaGreatDoor.isB, ht, h1, h2, this]
theorem Reads.want {l p} {w : W8} {b : List W8} (h : Reads l p (w :: b)) : zbS l p [w] = .ok () (p + 1) := by
 rw [zbS, if_pos (by rw [h.isB]; simp), zbS]
def Ev {α : Type} (g : Nat -> PR α) (r : PR α) : Prop := ∃ f0, ∀ f, f0 <= f -> g f = r
theorem Ev.succ {α : Type} {g : Nat -> PR α} {r : PR α} (h : Ev (fun f => g (f + 1)) r) : Ev g r := by
 obtain ⟨f0, h⟩ := h;refine ⟨f0 + 1, fun f hf => ?_⟩;obtain ⟨f, rfl⟩ : ∃ k, f = k + 1 := ⟨f - 1, by omega⟩;exact h f (by omega)
theorem Ev.const {α : Type} {r : PR α} : Ev (fun _ => r) r := ⟨0, fun _ _ => rfl⟩
theorem Ev.of {α : Type} {g : Nat -> PR α} {r : PR α} (h : ∀ f, g f = r) : Ev g r := ⟨0, fun f _ => h f⟩
theorem Ev.bind {α β : Type} {g : Nat -> PR α} {a : α} {q : Nat} {F : Nat -> α -> Nat -> PR β} {r : PR β} (h : Ev g (.ok a q)) (h2 : Ev (fun f => F f a q) r) : Ev (fun f => (g f).bind (F f)) r := by
 obtain ⟨f0, h⟩ := h;obtain ⟨f1, h2⟩ := h2;refine ⟨max f0 f1, fun f hf => ?_⟩;show (g f).bind (F f) = r;rw [h f (by omega), PR.zaV];exact h2 f (by omega)
def zbA (op : Int) : Int := if op = 13 then 0 else if op = 12 then 3 else match oprs.find? (fun o => decide (o.op = op)) with | some o => o.form | none => 7
def zeT (n u : Int) : List W8 :=
 if u = 0 then [if n = 1 then [116, 114, 117, 101] else [102, 97, 108, 115, 101]]
 else Lib.itoa n :: (if u = 3 then [[99, 111, 105, 110, 115]] else if u = 2 then [[100, 97, 121, 115]] else if u = 4 then [[112, 101, 114], [109, 105, 108, 108, 101]] else [])
def zpO (x : Int × List W8) (least : Int) : List W8 := if x.1 < least then [40] :: x.2 ++ [[41]] else x.2
def zl1 (ws : List (Int × List W8)) (i : Nat) (least : Int) : List W8 := match ws[i]? with | some x => zpO x least | none => []
def zem (op n u : Int) (s : W8) (ws : List (Int × List W8)) : List W8 :=
 if op = 0 then zeT n u else if op = 1 then [s]
 else if op = 13 then [105, 102] :: zl1 ws 0 0 ++ [116, 104, 101, 110] :: zl1 ws 1 0 ++ [101, 108, 115, 101] :: zl1 ws 2 0
 else if op = 12 then [110, 111, 116] :: zl1 ws 0 3
 else if op = 6 then [109, 105, 110] :: [40] :: zl1 ws 0 0 ++ [44] :: zl1 ws 1 0 ++ [[41]]
 else if op = 7 then [109, 97, 120] :: [40] :: zl1 ws 0 0 ++ [44] :: zl1 ws 1 0 ++ [[41]]
 else match oprs.find? (fun o => decide (o.op = op)) with
  | some o => zl1 ws 0 (if o.form = 4 then 5 else o.form) ++ o.text :: zl1 ws 1 (o.form + 1)
  | none => []
mutual
def zbQ : Exp -> List W8
 | .mk op n u s args => zem op n u s (zkk args)
def zkk : List Exp -> List (Int × List W8)
 | [] => []
 | .mk op n u s args :: l => (zbA op, zem op n u s (zkk args)) :: zkk l
end
theorem zjB : ∀ l : List Exp, zkk l = l.map fun e => (zbA e.op, zbQ e)
 | [] => by simp [zkk]
 | .mk op n u s args :: l => by rw [zkk, List.map_cons, zjB l]; simp [zbQ, Exp.op]
def zeL (e : Exp) (least : Int) : List W8 := zpO (zbA e.op, zbQ e) least
theorem zdI {args : List Exp} {i : Nat} {a : Exp} (h : args[i]? = some a) (least : Int) : zl1 (zkk args) i least = zeL a least := by
 rw [zl1, zjB, List.getElem?_map, h]; rfl
end Go.Proofs.YthnemhfamhnfjaaGreatDoor
namespace Go.Proofs.YthnemhfamhnfjaaGreatDoor
open Go Go.VL
end Go.Proofs.YthnemhfamhnfjaaGreatDoor
namespace Go.Proofs.YthnemhfamhnfjaaGreatDoor
open Go Go.VL
theorem zil (n : Nat) : ∀ k, n < 10 ^ (k + 1) -> (Lib.decDigits n).length <= k + 1 := by
 induction n using Nat.strongRecOn with
 | _ n ih =>
  intro k hk;rw [Lib.decDigits];split
  ·simp
  ·rename_i h;obtain ⟨k, rfl⟩ : ∃ j, k = j + 1 := ⟨k - 1, by cases k with | zero => simp at hk; omega | succ k => rfl⟩;have := ih (n / 10) (by omega) k (by rw [Nat.pow_succ] at hk; omega);simp;omega
end Go.Proofs.YthnemhfamhnfjaaGreatDoor
namespace Go.Proofs.YthnemhfamhnfjaaGreatDoor
open Go Go.VL
theorem zj4 {n u : Int} (h : znB (.mk 0 n u [] []) = true) : 0 <= u /\ u < 5 /\ 0 <= n /\ n <= 1099511627776 /\ (u = 0 -> n <= 1) := by
 have h2 : (decide (([] : List UInt8) = []) && decide (0 <= u) && decide (u < 5) && decide (0 <= n) && decide (n <= if u = 0 then 1 else 1099511627776)) = true := h;simp only [Bool.and_eq_true, decide_eq_true_eq] at h2;obtain ⟨⟨⟨⟨_, a⟩, b⟩, c⟩, d⟩ := h2;split at d
 ·exact ⟨a, b, c, by omega, fun _ => d⟩
 ·rename_i hz;exact ⟨a, b, c, d, fun h => absurd h hz⟩
end Go.Proofs.YthnemhfamhnfjaaGreatDoor
namespace Go.Proofs.YthnemhfamhnfjaaGreatDoor
open Go Go.VL
end Go.Proofs.YthnemhfamhnfjaaGreatDoor
namespace Go.Proofs.YthnemhfamhnfjaaGreatDoor
open Go Go.VL
theorem zn0 {α} {l : List α} (h : l.length = 1) : ∃ a, l = [a] := by
 match l, h with | [a], _ => exact ⟨a, rfl⟩
theorem znZ {α} {l : List α} (h : l.length = 2) : ∃ a b, l = [a, b] := by
 match l, h with | [a, b], _ => exact ⟨a, b, rfl⟩
theorem znY {α} {l : List α} (h : l.length = 3) : ∃ a b c, l = [a, b, c] := by
 match l, h with | [a, b, c], _ => exact ⟨a, b, c, rfl⟩
theorem zd1 {d : Nat} {op n u : Int} {s : W8} {args : List Exp} (h : zax (d + 1) (.mk op n u s args) = true) :
  (op = 0 /\ s = [] /\ args = [] /\ znB (.mk 0 n u [] []) = true) \/ (op = 1 /\ n = 0 /\ u = 0 /\ args = [] /\ zcs s = true) \/
  (n = 0 /\ u = 0 /\ s = [] /\ (∀ x ∈ args, zax d x = true) /\ ((op = 12 /\ args.length = 1) \/ (op = 13 /\ args.length = 3) \/ (op ≠ 0 /\ op ≠ 1 /\ op ≠ 12 /\ op ≠ 13 /\ 0 <= op /\ op < 14 /\ args.length = 2))) := by
 have h2 : (decide ((args.length : Int) = zbm op) && (if op = 0 then znB (.mk op n u s args) else if n ≠ 0 \/ u ≠ 0 then false else if op = 1 then zcs s else decide (s = []) && !args.any (fun x => !zax d x))) = true := h;rw [Bool.and_eq_true, decide_eq_true_eq] at h2;obtain ⟨h1, h2⟩ := h2;by_cases h0 : op = 0
 ·subst h0;rw [if_pos rfl] at h2;have hs : s = [] := by
   have h3 : (decide (s = []) && decide (0 <= u) && decide (u < 5) && decide (0 <= n) && decide (n <= if u = 0 then 1 else 1099511627776)) = true := h2;simp only [Bool.and_eq_true, decide_eq_true_eq] at h3;exact h3.1.1.1.1
  have ha : args = [] := by
   have : zbm 0 = 0 := by decide
   rw [this] at h1;exact List.eq_nil_of_length_eq_zero (by omega)
  subst hs; subst ha;exact .inl ⟨rfl, rfl, rfl, h2⟩
 ·rw [if_neg h0] at h2;by_cases hnu : n ≠ 0 \/ u ≠ 0
  ·rw [if_pos hnu] at h2; cases h2
  ·rw [if_neg hnu] at h2;have hn : n = 0 := by omega
   have hu : u = 0 := by omega
   by_cases h1' : op = 1
   ·rw [if_pos h1'] at h2;subst h1';have : zbm 1 = 0 := by decide
    rw [this] at h1;exact .inr (.inl ⟨rfl, hn, hu, List.eq_nil_of_length_eq_zero (by omega), h2⟩)
   ·rw [if_neg h1', Bool.and_eq_true, decide_eq_true_eq] at h2;refine .inr (.inr ⟨hn, hu, h2.1, fun x hx => ?_, ?_⟩)
    ·have h3 := h2.2;rw [Bool.not_eq_true', List.any_eq_false] at h3;simpa using h3 x hx
    ·unfold zbm at h1;rw [if_neg (by omega)] at h1;by_cases h12 : op = 12
     ·rw [if_pos h12] at h1; exact .inl ⟨h12, by omega⟩
     ·rw [if_neg h12] at h1;by_cases h13 : op = 13
      ·rw [if_pos h13] at h1; exact .inr (.inl ⟨h13, by omega⟩)
      ·rw [if_neg h13] at h1;by_cases hr : op < 0 \/ 14 <= op
       ·rw [if_pos hr] at h1; omega
       ·rw [if_neg hr] at h1;exact .inr (.inr ⟨h0, h1', h12, h13, by omega, by omega, by omega⟩)
theorem zkt {op : Int} (h0 : 2 <= op) (h1 : op < 12) (h6 : op ≠ 6) (h7 : op ≠ 7) : ∃ o ∈ oprs, o.op = op := by
 have : op = 2 \/ op = 3 \/ op = 4 \/ op = 5 \/ op = 8 \/ op = 9 \/ op = 10 \/ op = 11 := by omega
 rcases this with rfl | rfl | rfl | rfl | rfl | rfl | rfl | rfl <;> simp [oprs]
end Go.Proofs.YthnemhfamhnfjaaGreatDoor
namespace Go.Proofs.YthnemhfamhnfjaaGreatDoor
open Go Go.VL
def zqQ (r : W8) : Prop := ∀ c t, r = c :: t -> zbZ c = true
structure GoodW (w : W8) : Prop where
 next : ∀ r, zqQ r -> zg2 (w ++ r) = .ok ⟨zlE w, w, zqm w, 0⟩
 ne : w ≠ []
 head : ∀ c t, w = c :: t -> zbZ c = false
def zkg : List (W8 × W8) -> W8
 | [] => []
 | x :: l => x.1 ++ (x.2 ++ zkg l)
def Spaced : List (W8 × W8) -> Prop
 | [] => True
 | [x] => GoodW x.1 /\ ∀ c ∈ x.2, zbZ c = true
 | x :: y :: l => GoodW x.1 /\ (∀ c ∈ x.2, zbZ c = true) /\ x.2 ≠ [] /\ Spaced (y :: l)
theorem Spaced.good {x : W8 × W8} {l : List (W8 × W8)} (h : Spaced (x :: l)) : GoodW x.1 /\ (∀ c ∈ x.2, zbZ c = true) /\ (l ≠ [] -> x.2 ≠ []) /\ Spaced l := by
 cases l with
 | nil => exact ⟨h.1, h.2, fun h => absurd rfl h, trivial⟩
 | cons y l => exact ⟨h.1, h.2.1, fun _ => h.2.2.1, h.2.2.2⟩
end Go.Proofs.YthnemhfamhnfjaaGreatDoor
namespace Go.Proofs.YthnemhfamhnfjaaGreatDoor
open Go Go.VL
theorem PR.zcl {α β : Type} {r : PR α} {F G : α -> Nat -> PR β} (h : ∀ a q, r = .ok a q -> F a q = G a q) : r.bind F = r.bind G := by
 cases r with
 | ok a q => exact h a q rfl
 | stop => rfl
theorem zkM {l : List Tok} (hl : TokOK l) : ∀ (f : Nat),
  (∀ p form, p < l.length -> 4 * (l.length - p) + 3 <= f -> zed l (f + 1) p form = zed l f p form) /\
  (∀ p form e own, p < l.length -> 4 * (l.length - p) + 2 <= f -> zeM l (f + 1) form e own p = zeM l f form e own p) /\
  (∀ p form, p < l.length -> 4 * (l.length - p) + 2 <= f -> zbt l (f + 1) p form = zbt l f p form) /\
  (∀ p, p < l.length -> 4 * (l.length - p) + 1 <= f -> za3 l (f + 1) p = za3 l f p)
 | 0 => ⟨fun _ _ _ h => by omega, fun _ _ _ _ _ h => by omega, fun _ _ _ h => by omega, fun _ _ h => by omega⟩
 | f + 1 => by
  obtain ⟨he, hlo, hpr, hpm⟩ := zkM hl f;obtain ⟨le, llo, lpr, lpm⟩ := zci hl f;refine ⟨fun p form hp hf => ?_, fun p form e own hp hf => ?_, fun p form hp hf => ?_, fun p hp hf => ?_⟩
  ·simp only [zed];rw [hpr p form hp (by omega)];refine PR.zcl fun a q hq => ?_;have g := lpr _ _ _ _ hq hp;exact hlo _ _ _ _ g.2 (by omega)
  ·rw [zeM, zeM];split
   ·rfl
   ·rename_i x hx;have hb := List.find?_some hx;have hp2 := zbc hl hb;split
    ·rfl
    ·rw [he (p + 1) _ hp2 (by omega)];refine PR.zcl fun a q hq => ?_;have g := le _ _ _ _ hq hp2;exact hlo _ _ _ _ g.2 (by omega)
  ·simp only [zbt];split
   ·rename_i hb;have hp2 := zbc hl hb.2;rw [he (p + 1) _ hp2 (by omega)];refine PR.zcl fun a q1 hq1 => ?_;have g1 := le _ _ _ _ hq1 hp2;refine PR.zcl fun _ q2 hq2 => ?_;have g2 := za1 hl _ hq2 g1.2;rw [he q2 _ g2.2 (by omega)];refine PR.zcl fun b q3 hq3 => ?_;have g3 := le _ _ _ _ hq3 g2.2;refine PR.zcl fun _ q4 hq4 => ?_;have g4 := za1 hl _ hq4 g3.2;rw [he q4 _ g4.2 (by omega)]
   ·split
    ·rename_i hb;rw [he (p + 1) _ (zbc hl hb.2) (by omega)]
    ·rw [hpm p hp (by omega)]
  ·simp only [za3];split
   ·rfl
   ·split
    ·rfl
    ·split
     ·rfl
     ·split
      ·rfl
      ·split
       ·rename_i hb;have hp2 : p + 1 < l.length := hb.elim (zbc hl) (zbc hl);refine PR.zcl fun _ q1 hq1 => ?_;have g1 := za1 hl _ hq1 hp2;rw [he q1 _ g1.2 (by omega)];refine PR.zcl fun a q2 hq2 => ?_;have g2 := le _ _ _ _ hq2 g1.2;refine PR.zcl fun _ q3 hq3 => ?_;have g3 := za1 hl _ hq3 g2.2;rw [he q3 _ g3.2 (by omega)]
       ·split
        ·rename_i hb;rw [he (p + 1) _ (zbc hl hb) (by omega)]
        ·rfl
theorem zjp {l : List Tok} (hl : TokOK l) {p f : Nat} {form : Int} (hp : p < l.length) (hf : 4 * (l.length - p) + 3 <= f) : ∀ g, zed l (f + g) p form = zed l f p form
 | 0 => rfl
 | g + 1 => by rw [<- nAA, (zkM hl (f + g)).1 p form hp (by omega), zjp hl hp hf g]
theorem Ev.fuel {l : List Tok} (hl : TokOK l) {p f : Nat} {form : Int} {r : PR Exp} (h : Ev (fun f => zed l f p form) r) (hp : p < l.length) (hf : 4 * (l.length - p) + 3 <= f) : zed l f p form = r := by
 obtain ⟨f0, h⟩ := h;rw [<- zjp hl hp hf f0];exact h (f + f0) (by omega)
end Go.Proofs.YthnemhfamhnfjaaGreatDoor
namespace Go.Proofs.YthnemhfamhnfjaaGreatDoor
open Go Go.VL
theorem znl {a b c : Exp} : zbQ (.mk 13 0 0 [] [a, b, c]) = [105, 102] :: (zeL a 0 ++ [116, 104, 101, 110] :: (zeL b 0 ++ [101, 108, 115, 101] :: zeL c 0)) := by
 rw [zbQ, zem, if_neg (by decide), if_neg (by decide), if_pos rfl, zdI (a := a) rfl, zdI (a := b) rfl, zdI (a := c) rfl];simp
theorem zkZ {a : Exp} : zbQ (.mk 12 0 0 [] [a]) = [110, 111, 116] :: zeL a 3 := by
 rw [zbQ, zem, if_neg (by decide), if_neg (by decide), if_neg (by decide), if_pos rfl, zdI (a := a) rfl]
theorem zk0 {a b : Exp} : zbQ (.mk 6 0 0 [] [a, b]) = [109, 105, 110] :: [40] :: (zeL a 0 ++ [44] :: (zeL b 0 ++ [[41]])) := by
 rw [zbQ, zem, if_neg (by decide), if_neg (by decide), if_neg (by decide), if_neg (by decide), if_pos rfl, zdI (a := a) rfl, zdI (a := b) rfl]; simp
theorem zk1 {a b : Exp} : zbQ (.mk 7 0 0 [] [a, b]) = [109, 97, 120] :: [40] :: (zeL a 0 ++ [44] :: (zeL b 0 ++ [[41]])) := by
 rw [zbQ, zem, if_neg (by decide), if_neg (by decide), if_neg (by decide), if_neg (by decide), if_neg (by decide), if_pos rfl, zdI (a := a) rfl, zdI (a := b) rfl]; simp
theorem zkY {a b : Exp} {o : Opr} (ho : o ∈ oprs) : zbQ (.mk o.op 0 0 [] [a, b]) = zeL a (if o.form = 4 then 5 else o.form) ++ o.text :: zeL b (o.form + 1) := by
 have hfind : oprs.find? (fun x => decide (x.op = o.op)) = some o := by
  simp only [oprs, List.mem_cons, List.mem_nil_iff, or_false] at ho;rcases ho with rfl | rfl | rfl | rfl | rfl | rfl | rfl | rfl <;> rfl
 have hne : o.op ≠ 0 /\ o.op ≠ 1 /\ o.op ≠ 13 /\ o.op ≠ 12 /\ o.op ≠ 6 /\ o.op ≠ 7 := by
  simp only [oprs, List.mem_cons, List.mem_nil_iff, or_false] at ho;rcases ho with rfl | rfl | rfl | rfl | rfl | rfl | rfl | rfl <;> decide
 obtain ⟨n0, n1, n13, n12, n6, n7⟩ := hne;rw [zbQ, zem, if_neg n0, if_neg n1, if_neg n13, if_neg n12, if_neg n6, if_neg n7, hfind];simp only;rw [zdI (a := a) rfl, zdI (a := b) rfl]
def AllGood (ws : List W8) : Prop := ∀ w ∈ ws, GoodW w
theorem AllGood.nil : AllGood [] := fun _ h => by cases h
theorem AllGood.cons {w : W8} {ws : List W8} (h : GoodW w) (h2 : AllGood ws) : AllGood (w :: ws) := fun x hx => by
 rcases List.mem_cons.1 hx with rfl | hx
 ·exact h
 ·exact h2 x hx
theorem AllGood.app {a b : List W8} (h : AllGood a) (h2 : AllGood b) : AllGood (a ++ b) := fun x hx => by
 rcases List.mem_append.1 hx with hx | hx
 ·exact h x hx
 ·exact h2 x hx
end Go.Proofs.YthnemhfamhnfjaaGreatDoor
namespace Go.Proofs.YthnemhfamhnfjaaGreatDoor
open Go Go.VL
def spW : List W8 -> List (W8 × W8)
 | [] => []
 | [w] => [(w, [])]
 | w :: v :: l => (w, [32]) :: spW (v :: l)
def zbw (ws : List W8) : W8 := zkg (spW ws)
theorem zaz (w v : W8) (l : List W8) : zbw (w :: v :: l) = w ++ [32] ++ zbw (v :: l) := by simp [zbw, spW, zkg]
theorem zcL : ∀ (a b : List W8), a ≠ [] -> b ≠ [] -> zbw (a ++ b) = zbw a ++ [32] ++ zbw b
 | [], b, h, _ => absurd rfl h
 | [w], b, _, hb => by
  cases b with
  | nil => exact absurd rfl hb
  | cons v l => rw [List.singleton_append, zaz]; simp [zbw, spW, zkg]
 | w :: v :: l, b, _, hb => by
  have := zcL (v :: l) b (by simp) hb;rw [List.cons_append, List.cons_append, zaz, zaz, <- List.cons_append, this];simp
end Go.Proofs.YthnemhfamhnfjaaGreatDoor
namespace Go.Proofs.YthnemhfamhnfjaaGreatDoor
open Go Go.VL Go.Shelf Go.RowKit
theorem znI {k : Kr} {d e : D} {vs : Array Value} (h : RepL k [d, e] vs) : ∃ v u, vs = #[v, u] /\ Rep k d v /\ Rep k e u := by
 obtain ⟨h1, h2⟩ := h;have hs : vs.size = 2 := by simpa using h1
 refine ⟨vs.getD 0 undef, vs.getD 1 undef, ?_, h2 0 d rfl, h2 1 e rfl⟩;apply Array.ext_getElem?;intro i
 match i with
 | 0 => simp [show 0 < vs.size by omega]
 | 1 => simp [show 1 < vs.size by omega]
 | i + 2 => rw [Array.getElem?_eq_none (by omega), Array.getElem?_eq_none (by simp)]
theorem zlj {k : Kr} {rows : List (List U)} {v : Value} (h : Rep k (.u (.sl rows)) v) : (rows = [] /\ ∃ a c, v = .slice a 0 c) \/ ∃ (b o sz c : Nat) (f : Nat -> Nat -> Value), v = .slice (some ⟨b, o, none⟩) rows.length c /\ rows.length <= c /\ (∀ r ∈ rows, r.length = sz) /\
  (∀ i, i < rows.length -> ∀ j, j < sz -> k.mem b (o + i * sz + j) = some (.val (f i j))) /\ ∀ i r, rows[i]? = some r -> ∀ j u, r[j]? = some u -> RepU k.mem u (f i j) := by
 cases h with
 | u _ _ h => cases h with
  | slE a c _ => exact .inl ⟨rfl, a, c, rfl⟩
  | sl _ b o sz c f hc hx hsz hm hr => exact .inr ⟨b, o, sz, c, f, rfl, hc, hsz, hm, hr⟩
theorem zoa (ws : List W8) : zbw ws = Lib.join ws [32] := by
 induction ws with
 | nil => rfl
 | cons w l ih =>
  cases l with
  | nil => simp [zbw, spW, zkg, Lib.join_one]
  | cons v l => rw [zaz, ih, Lib.join_cons, Lib.join_cons]; simp [Lib.joinTail]
theorem zkI (ws : List W8) (hlen : (zbw ws).length <= 140737488355328) (hN : ws.length <= 140737488355328) : Fun Tryz.prog 54 [.u (.sl (ws.map fun w => [.str w])), .u (.str [32])] (· = .u (.str (zbw ws))) :=
 Fun.zny fun k own w vs hsat hrep => by
  obtain ⟨v, u, rfl, hv, hu⟩ := znI hrep;have hu := zej hu;subst hu;have hsep : ([32] : List UInt8) = (⟨([32] : List UInt8).toArray⟩ : ByteArray).data.toList := rfl;have none : ∀ a c, ws = [] -> v = .slice a 0 c -> ∃ v', RepU k.mem (.str (zbw ws)) v' /\ Calls Tryz.prog 54 #[v, .string ⟨([32] : List UInt8).toArray⟩] w fun e w' => e = .returned v' /\ Below w.heap.size w w' := fun a c hw hv => by
   subst hv; subst hw;exact ⟨.string ⟨#[]⟩, .str [], (Tryz.strings_Join_none a c _ w).mono fun e w' ⟨h1, h2⟩ => ⟨h1, h2 ▸ Below.refl _ _⟩⟩
  rcases zlj hv with ⟨he, a, c, rfl⟩ | ⟨b, o, sz, c, f, rfl, hc, hsz, hm, hrr⟩
  ·exact none a c (by simpa using he) rfl
  rw [List.length_map] at hc hm hv none ⊢;by_cases hw : ws = []
  ·have h0 : ws.length = 0 := by rw [hw]; rfl
   rw [h0] at none ⊢;exact none _ c hw rfl
  obtain ⟨w0, r0, e0⟩ : ∃ w0 r0, ws = w0 :: r0 := by cases ws with | nil => exact absurd rfl hw | cons a l => exact ⟨a, l, rfl⟩
  have hs1 : sz = 1 := by
   have := hsz [U.str w0] (by rw [e0]; simp);simpa using this.symm
  subst hs1;have hcell : ∀ (j : Nat) x, (ws.map fun w => (⟨w.toArray⟩ : ByteArray))[j]? = some x -> w.cell? ⟨b, o + j, Option.none⟩ = some (.string x) := fun j x hj => by
   rw [List.getElem?_map] at hj;cases hwj : ws[j]? with
   | none => rw [hwj] at hj; cases hj
   | some y =>
    rw [hwj] at hj;cases hj;have hjl := (lGE.1 hwj).1;have h1 := hm j hjl 0 Nat.one_pos;have h2 := hrr j [U.str y] (by simp [hwj]) 0 _ rfl;have h3 : f j 0 = .string ⟨y.toArray⟩ := (fun z (hz : RepU k.mem (U.str y) z) => by cases hz; rfl : ∀ z, RepU k.mem (U.str y) z -> z = .string ⟨y.toArray⟩) _ h2;have h4 := hsat.cell h1;rw [h3] at h4;simpa using h4
  have hlt : b < w.heap.size := hsat.memLt (hm 0 (by rw [e0]; simp) 0 Nat.one_pos);have hj := Tryz.strings_Join b o c (ws.map fun w => (⟨w.toArray⟩ : ByteArray)) ⟨([32] : List UInt8).toArray⟩ w hcell hlt (by rw [List.length_map]; exact hN) (by rw [List.length_map]; exact hc);have hmm : (ws.map fun w => (⟨w.toArray⟩ : ByteArray)).map (·.data.toList) = ws := by simp [Function.comp_def]
  rw [hmm, List.length_map] at hj;rw [zoa] at hlen ⊢;exact ⟨_, .str _, hj hlen⟩
theorem znJ {k : Kr} {own obs} {w : World} (h : Sat k own obs w) : Lib.TabIs Tryz.prog w "internal/strconv.uint64pow10" .u64 Lib.pow10Tab := by
 have he : globs.head! = (globs.head!.1, Lib.pow10Tab.map fun z => Value.int .u64 z) := rfl;have hm : globs.head! ∈ globs := by unfold globs; exact List.mem_cons_self
 obtain ⟨h1, h2⟩ := k.glob _ hm;rw [he] at h1 h2;simp only [List.length_map, Lib.pow10Tab_length] at h1 h2;obtain ⟨cs, t, fr, h3, h4⟩ := znW (h.mem _ _ _ h2);have h5 : Tryz.prog.globalNamed "internal/strconv.uint64pow10" = some globs.head!.1 := by kernel_rfl
 unfold Lib.TabIs World.var?;rw [h5, Option.bind_some, h3];simp only [Option.some.injEq];apply Array.ext_getElem?;intro j;by_cases hj : j < 20
 ·have h6 := h.cell (h1 j hj);have h7 : cs[j]? = some ((Lib.pow10Tab.map fun z => Value.int .u64 z).getD j undef) := by simpa [World.cell?, h3] using h6
  rw [h7];simp [List.getD, Lib.pow10Tab_length, hj]
 ·rw [Array.getElem?_eq_none (by omega), Array.getElem?_eq_none (by simp [Lib.pow10Tab_length]; omega)]
theorem zkJ (n : Int) (h0 : -9223372036854775808 <= n) (h1 : n <= 9223372036854775807) : Fun Tryz.prog 56 [.u (.int .i64 n)] (· = .u (.str (Lib.itoa n))) :=
 Fun.zny fun k own w vs hsat hrep => by
  obtain ⟨v, rfl, hv⟩ := zh4 hrep;have hv := zbr hv;subst hv;refine ⟨_, .str _, (Tryz.strconv_Itoa n h0 h1 w (znJ hsat)).mono ?_⟩;rintro e w' ⟨h1, q, os, rfl⟩;refine ⟨h1, rfl, rfl, rfl, ?_, fun x hx => ?_⟩
  ·show w.heap.size <= (w.heap ++ os).size;simp
  ·show (w.heap ++ os)[x]? = w.heap[x]?;rw [Array.getElem?_append_left hx]
end Go.Proofs.YthnemhfamhnfjaaGreatDoor
namespace Go.Proofs.YthnemhfamhnfjaaGreatDoor
open Go Go.VL
def zdt (op : Int) : W8 := if op = 13 then [105, 102] else if op = 11 then [111, 114] else if op = 10 then [97, 110, 100] else if op = 12 then [110, 111, 116] else if op = 9 then [61, 61] else if op = 8 then [60] else if op = 2 then [43] else if op = 3 then [45] else if op = 4 then [42] else if op = 5 then [47] else if op = 6 then [109, 105, 110] else if op = 7 then [109, 97, 120] else []
end Go.Proofs.YthnemhfamhnfjaaGreatDoor
namespace Go.Proofs.YthnemhfamhnfjaaGreatDoor
open Go Go.VL
attribute [local simp] HS zc2 zb3 evPure opd uOf zaF St.put St.at getK binD binI binS binB nilD aggD zgQ zha lookD lookR zcu Go.VL.nextD zcx zhu zhc zf2 zcw mkV zdj zbk zbu mapEff zdY zfQ Key.kk shiftI arith unD convD zdH loadD cellsAt fieldAddrD fieldD indexAddrD indexD sliceD cutD lenD minmaxD nilCheckD buildD fillD zbP zdb zeC setAll zcK zeO zco zg0 zcm St.add zaO zbF rowsOf zdA zcH zam zac zaa za7 zcC zaQ entry zbE zbO valD zb4 zcy zgh zdh zdi zbT zbK zaw zaW zbo delAll effD St.effS zcU za8 zaY zcV za9 za0 zb9 zaZ zaT zca zcS zbD zb8 zbl zb6 zb7 zaL mkD zbL zbv zbJ zaw zcn D.ids Op.operands Call.operands zby makeIfD makeFuncD typeAssertD zg9 zdw zdx zg1 zcv IntKind.bits zcN List.take_of_length_le List.range_succ
attribute [local irreducible] V G H HD HD2 HD4 zjP RetX zao Eff CallP CallV EndOK Fun Ret FinOK LoopI LoopW EndW
abbrev zee (e : Exp) : D := .u (.agg e.row)
abbrev zid (n : Int) : D := .u (.int .i64 n)
theorem zaE {i nx : Nat} (h : i < nx) : ¬ i = nx /\ ¬ nx = i /\ (∀ k, ¬ i = nx + k) /\ ∀ k, ¬ nx + k = i := ⟨by omega, by omega, fun k => by omega, fun k => by omega⟩
theorem znF (l : List Tok) (p : Nat) (i nx : Nat) (hi : i < nx) (hp : p < l.length) (hl : TokOK l) :
  RetX Tryz.prog 143 [.ptr i 0] [(i, pOb l p)] nx (PPost l i nx zid (zk9 l p)) := by
 have hne := zaE hi;have hh1 := fun nx' (h : nx <= nx') => zbj l p [99, 111, 105, 110, 115] i nx' (by omega) hp hl.len;have hh2 := fun nx' (h : nx <= nx') => zbj l p [100, 97, 121, 115] i nx' (by omega) hp hl.len;have hh3 := fun nx' (h : nx <= nx') => zbj l p [112, 101, 114] i nx' (by omega) hp hl.len;unfold zk9;by_cases h1 : isB l p [99, 111, 105, 110, 115] = true
 ·simp only [h1, if_true] at hh1 ⊢
  (refine RetX.of_bodyW Tryz.func143 rfl (by simp) fun Γ hn hpan => ?_); simp only [entry, ziC, ziN, maC, maN, oA, Tryz.ntmps143]
  repeat' (first
  | ((first | refine zaf ?_ | refine zaj ?_ | refine zag ?_ | refine zai ?_ | fail); simp [hne])
  | (refine zap ?_; simp only [zao])
  | (refine CallP.ok1 (hh1 _ (by first | omega | simp <;> omega | fail)) (by first | (simp [hne, zaa, getK, zab, zac]; done) | fail) (by rfl) (by rfl) ?_; (try simp [hne]))
  | fail)
  (refine EndW.here ?_; (first | (refine EndOK.fin (.inr rfl) ?_) | (refine EndOK.fin (.inl rfl) ?_)); simp [zay, zae, Tryz.results143]; refine FinOK.here (by simp) ?_; try simp)
  exact PPost.zct rfl rfl (by first | rfl | simp [del])
 ·simp only [h1, Bool.false_eq_true, if_false] at hh1 ⊢;by_cases h2 : isB l p [100, 97, 121, 115] = true
  ·simp only [h2, if_true] at hh2 ⊢
   (refine RetX.of_bodyW Tryz.func143 rfl (by simp) fun Γ hn hpan => ?_); simp only [entry, ziC, ziN, maC, maN, oA, Tryz.ntmps143]
   repeat' (first
  | ((first | refine zaf ?_ | refine zaj ?_ | refine zag ?_ | refine zai ?_ | fail); simp [hne])
  | (refine zap ?_; simp only [zao])
  | (refine CallP.ok1 (hh1 _ (by first | omega | simp <;> omega | fail)) (by first | (simp [hne, zaa, getK, zab, zac]; done) | fail) (by rfl) (by rfl) ?_; (try simp [hne]))
  | (refine CallP.ok1 (hh2 _ (by first | omega | simp <;> omega | fail)) (by first | (simp [hne, zaa, getK, zab, zac]; done) | fail) (by rfl) (by rfl) ?_; (try simp [hne]))
  | fail)
   (refine EndW.here ?_; (first | (refine EndOK.fin (.inr rfl) ?_) | (refine EndOK.fin (.inl rfl) ?_)); simp [zay, zae, Tryz.results143]; refine FinOK.here (by simp) ?_; try simp)
   exact PPost.zct rfl rfl (by first | rfl | simp [del])
  ·simp only [h2, Bool.false_eq_true, if_false] at hh2 ⊢;by_cases h3 : isB l p [112, 101, 114] = true
   ·simp only [h3, if_true] at hh3 ⊢;have hw := fun nx' (h : nx <= nx') => zhK l (p + 1) [[109, 105, 108, 108, 101]] i nx' (by omega) (zbc hl h3) hl (by simp);cases hr : zbS l (p + 1) [[109, 105, 108, 108, 101]] with
    | ok a q =>
     simp only [hr, List.map_cons, List.map_nil] at hw
     (refine RetX.of_bodyW Tryz.func143 rfl (by simp) fun Γ hn hpan => ?_); simp only [entry, ziC, ziN, maC, maN, oA, Tryz.ntmps143]
     repeat' (first
  | ((first | refine zaf ?_ | refine zaj ?_ | refine zag ?_ | refine zai ?_ | fail); simp [hne])
  | (refine zap ?_; simp only [zao])
  | (refine CallP.ok1 (hh1 _ (by first | omega | simp <;> omega | fail)) (by first | (simp [hne, zaa, getK, zab, zac]; done) | fail) (by rfl) (by rfl) ?_; (try simp [hne]))
  | (refine CallP.ok1 (hh2 _ (by first | omega | simp <;> omega | fail)) (by first | (simp [hne, zaa, getK, zab, zac]; done) | fail) (by rfl) (by rfl) ?_; (try simp [hne]))
  | (refine CallP.ok1 (hh3 _ (by first | omega | simp <;> omega | fail)) (by first | (simp [hne, zaa, getK, zab, zac]; done) | fail) (by rfl) (by rfl) ?_; (try simp [hne]))
  | (refine CallP.ok1 (hw _ (by first | omega | simp <;> omega | fail)) (by first | (simp [hne, zaa, getK, zab, zac]; done) | fail) (by rfl) (by rfl) ?_; (try simp [hne]))
  | (refine zau (by first | rfl | fail) ?_; simp [hne, frzN, frz1, zaC, zaB, St.frz, St.frzS, frzS, fv, zaJ, za6, zba, zaG, zav, zan, del, frz, zbb])
  | fail)
     (refine EndW.wk { n := _, env := [(2, zid 4)], obs := [(i, pOb l q)], next := nx } (Wk.cut rfl (by simp [hn]) (by simp [wkO, zaa, getK, zab, zac, Ob.under, D.under, zad, zah, hne, hi]) (by simp [wkU, zak, zaa, getK, D.under, hne, hi]) (by simp [wkE, zak, zaa, getK, hne, hi])) (EndW.here ?_); (first | (refine EndOK.fin (.inr rfl) ?_) | (refine EndOK.fin (.inl rfl) ?_)); simp [zay, zae, Tryz.results143]; refine FinOK.here (by simp) ?_; try simp)
     exact PPost.zct rfl rfl (by first | rfl | simp [del])
    | stop pos e =>
     simp only [hr, List.map_cons, List.map_nil] at hw
     (refine RetX.of_bodyW Tryz.func143 rfl (by simp) fun Γ hn hpan => ?_); simp only [entry, ziC, ziN, maC, maN, oA, Tryz.ntmps143]
     repeat' (first
  | ((first | refine zaf ?_ | refine zaj ?_ | refine zag ?_ | refine zai ?_ | fail); simp [hne])
  | (refine CallP.ok1 (hh1 _ (by first | omega | simp <;> omega | fail)) (by first | (simp [hne, zaa, getK, zab, zac]; done) | fail) (by rfl) (by rfl) ?_; (try simp [hne]))
  | (refine CallP.ok1 (hh2 _ (by first | omega | simp <;> omega | fail)) (by first | (simp [hne, zaa, getK, zab, zac]; done) | fail) (by rfl) (by rfl) ?_; (try simp [hne]))
  | (refine CallP.ok1 (hh3 _ (by first | omega | simp <;> omega | fail)) (by first | (simp [hne, zaa, getK, zab, zac]; done) | fail) (by rfl) (by rfl) ?_; (try simp [hne]))
  | (refine CallP.zeg (hw _ (by first | omega | simp <;> omega | fail)) (by first | (simp [hne, zaa, getK, zab, zac]; done) | fail) (by rfl) (by first | assumption | (simp; done) | fail) (by rfl) (by simp) ?_; rintro ob' ⟨q', rfl⟩; refine ⟨_, Wk.refl _, ?_⟩)
  | (refine zau (by first | rfl | fail) ?_; simp [hne, frzN, frz1, zaC, zaB, St.frz, St.frzS, frzS, fv, zaJ, za6, zba, zaG, zav, zan, del, frz, zbb])
  | fail)
     (refine hpan _ _ ⟨{ n := _, env := [], obs := [(i, pOb l q')], next := nx }, (Wk.cut rfl (by simp [hn]) (by simp [wkO, zaa, getK, zab, zac, Ob.under, D.under, zad, zah, hi, zab, zac, zaa, getK]) (by simp [wkU, zak, zaa, getK, D.under, hi, zab, zac, zaa, getK]) (by simp [wkE, zak, zaa, getK, hi, zab, zac, zaa, getK])), by simp [hn], ?_⟩; try simp)
     exact PPost.zaA rfl
   ·simp only [h3, Bool.false_eq_true, if_false] at hh3 ⊢
    (refine RetX.of_bodyW Tryz.func143 rfl (by simp) fun Γ hn hpan => ?_); simp only [entry, ziC, ziN, maC, maN, oA, Tryz.ntmps143]
    repeat' (first
  | ((first | refine zaf ?_ | refine zaj ?_ | refine zag ?_ | refine zai ?_ | fail); simp [hne])
  | ((first | refine zap ?_ | refine zar ?_ | fail); simp only [zao])
  | (refine CallP.ok1 (hh1 _ (by first | omega | simp <;> omega | fail)) (by first | (simp [hne, zaa, getK, zab, zac]; done) | fail) (by rfl) (by rfl) ?_; (try simp [hne]))
  | (refine CallP.ok1 (hh2 _ (by first | omega | simp <;> omega | fail)) (by first | (simp [hne, zaa, getK, zab, zac]; done) | fail) (by rfl) (by rfl) ?_; (try simp [hne]))
  | (refine CallP.ok1 (hh3 _ (by first | omega | simp <;> omega | fail)) (by first | (simp [hne, zaa, getK, zab, zac]; done) | fail) (by rfl) (by rfl) ?_; (try simp [hne]))
  | fail)
    (refine EndW.here ?_; (first | (refine EndOK.fin (.inr rfl) ?_) | (refine EndOK.fin (.inl rfl) ?_)); simp [zay, zae, Tryz.results143]; refine FinOK.here (by simp) ?_; try simp)
    exact PPost.zct rfl rfl (by first | rfl | simp [del])
end Go.Proofs.YthnemhfamhnfjaaGreatDoor
namespace Go.Proofs.YthnemhfamhnfjaaGreatDoor
open Go Go.VL Go.Shelf Go.RowKit
attribute [local simp] HS zc2 zb3 evPure opd uOf zaF St.put St.at getK binD binI binS binB nilD aggD zgQ zha lookD lookR zcu Go.VL.nextD zcx zhu zhc zf2 zcw mkV zdj zbk zbu mapEff zdY zfQ Key.kk shiftI arith unD convD zdH loadD cellsAt fieldAddrD fieldD indexAddrD indexD sliceD cutD lenD minmaxD nilCheckD buildD fillD zbP zdb zeC setAll zcK zeO zco zg0 zcm St.add zaO zbF rowsOf zdA zcH zam zac zaa za7 zcC zaQ entry zbE zbO valD zb4 zcy zgh zdh zdi zbT zbK zaw zaW zbo delAll effD St.effS zcU za8 zaY zcV za9 za0 zb9 zaZ zaT zca zcS zbD zb8 zbl zb6 zb7 zaL mkD zbL zbv zbJ zaw zcn D.ids Op.operands Call.operands zby makeIfD makeFuncD typeAssertD zg9 zdw zdx zg1 zcv IntKind.bits zcN List.take_of_length_le List.range_succ
attribute [local irreducible] V G H HD HD2 HD4 zjP RetX zao Eff CallP CallV EndOK Fun Ret FinOK LoopI LoopW EndW
theorem zkX : zkj Tryz.prog 74 9 = some u8T := by kernel_rfl
theorem zk7 (l s : W8) (i j nx : Nat) (hi : i < nx) (hj : j < nx) (hij : i ≠ j) (hlen : l.length + s.length <= 140737488355328) :
  RetX Tryz.prog 53 [.ptr i 0, .u (.str s)] [(i, .box [.ptr i 0, .vec j l.length]), (j, .vec u8T 1 (zcg l))] nx
   (fun r o n => r = .val (.tup [.u (.int .i64 s.length), .u (.oth .nilIface)]) /\ o = [(i, .box [.ptr i 0, .vec nx (l.length + s.length)]), (nx, .vec u8T 1 (zcg (l ++ s)))] /\ n = nx + 1) := by
 have hne := zaE hi;have hne2 := zaE hj;have hcp := fun nx' (h : nx <= nx') => znf i nx' (by omega) (.vec j l.length);have hbi := zkX;have hca : zal Tryz.prog 108 = true := by kernel_rfl
 have hbl := zlW l;rw [show zcg (l ++ s) = rowsD (zdU l ++ zdU s) by rw [zcg, zlX]]
 (refine RetX.of_bodyW Tryz.func53 rfl (by simp) fun Γ hn hpan => ?_); simp only [entry, ziC, ziN, maC, maN, oA, Tryz.ntmps53]
 repeat' (first
  | (refine zjK ?_; simp [zfp, hne, hne2, hij, Ne.symm hij, del, hbi, hbl, hlen])
  | ((first | refine zaf ?_ | refine zaj ?_ | refine zag ?_ | fail); simp [hne, hne2, hij, Ne.symm hij, del, hbi, hbl, hlen])
  | (refine zap ?_; simp only [zao])
  | (refine CallP.ok1 (hcp _ (by first | omega | simp <;> omega | fail)) (by first | (simp [hne, hne2, hij, Ne.symm hij, del, hbi, hbl, hlen, zaa, getK, zab, zac]; done) | fail) (by rfl) (by rfl) ⟨by first | assumption | (simp; done) | fail, by simp, ?_⟩; (try simp [hne, hne2, hij, Ne.symm hij, del, hbi, hbl, hlen]))
  | fail)
 (refine EndW.here ?_; (first | (refine EndOK.fin (.inr rfl) ?_) | (refine EndOK.fin (.inl rfl) ?_)); simp [zay, zae, Tryz.results53, hne, hne2, hi, hj, hij, Ne.symm hij]; refine FinOK.cut [(i, .box [.ptr i 0, .vec nx (l.length + s.length)]), (nx, .vec u8T 1 (rowsD (zdU l) ++ rowsD (zdU s)))] (nx + 1) (by simp [zaa, getK, zab, zac, Ob.under, D.under, zad, zah, hne, hne2, hi, hj, hij, Ne.symm hij] <;> omega) (by simp [D.under]) (by simp [hn]) ?_; try simp)
theorem zl3 (s : W8) (i nx : Nat) (hi : i < nx) (hlen : s.length <= 140737488355328) :
  RetX Tryz.prog 53 [.ptr i 0, .u (.str s)] [(i, .nw bT)] nx
   (fun r o n => r = .val (.tup [.u (.int .i64 s.length), .u (.oth .nilIface)]) /\ o = [(i, .box [.ptr i 0, .vec (nx + 1) s.length]), (nx + 1, .vec u8T 1 (zcg s))] /\ n = nx + 2) := by
 have hne := zaE hi;have hcp := fun nx' (h : nx <= nx') => zoh i nx' (by omega);have hbi := zkX;have hca : zal Tryz.prog 108 = true := by kernel_rfl
 (refine RetX.of_bodyW Tryz.func53 rfl (by simp) fun Γ hn hpan => ?_); simp only [entry, ziC, ziN, maC, maN, oA, Tryz.ntmps53]
 repeat' (first
  | (refine zjK ?_; simp [zfp, hne, del, hbi, hlen])
  | ((first | refine zaf ?_ | refine zaj ?_ | refine zag ?_ | fail); simp [hne, del, hbi, hlen])
  | (refine zap ?_; simp only [zao])
  | (refine CallP.okL (hcp _ (by first | omega | simp <;> omega | fail)) (by first | (simp [hne, del, hbi, hlen, zaa, getK, zab, zac, zam, zaL, del]; done) | fail) (by rfl) (by rfl) ⟨by first | assumption | (simp; done) | fail, by simp, ?_⟩; (try simp [hne, del, hbi, hlen, zc5, del]))
  | fail)
 (refine EndW.here ?_; (first | (refine EndOK.fin (.inr rfl) ?_) | (refine EndOK.fin (.inl rfl) ?_)); simp [zay, zae, Tryz.results53, hne, hi]; refine FinOK.cut [(i, .box [.ptr i 0, .vec (nx + 1) s.length]), (nx + 1, .vec u8T 1 (zcg s))] (nx + 2) (by simp [zaa, getK, zab, zac, Ob.under, D.under, zad, zah, hne, hi] <;> omega) (by simp [D.under]) (by simp [hn]) ?_; try simp)
def zbM (ws : List W8) : W8 := zbw ws ++ [32, 59, 10]
theorem zmJ (l : W8) (ws : List W8) (i j nx : Nat) (hi : i < nx) (hj : j < nx) (hij : i ≠ j) (hlen : l.length + (zbM ws).length <= 140737488355328) (hN : ws.length <= 140737488355328) :
  RetX Tryz.prog 52 [.u (.sl (ws.map fun w => [.str w])), .ptr i 0] [(i, .box [.ptr i 0, .vec j l.length]), (j, .vec u8T 1 (zcg l))] nx
   (fun r o n => r = .val (.tup []) /\ o = [(i, .box [.ptr i 0, .vec nx (l ++ zbM ws).length]), (nx, .vec u8T 1 (zcg (l ++ zbM ws)))] /\ n = nx + 1) := by
 have hne := zaE hi;have hne2 := zaE hj;have hjl : (zbw ws).length <= 140737488355328 := by simp only [zbM, List.length_append] at hlen; omega
 have hjn := zkI ws hjl hN;have hwr := fun nx' (h : nx <= nx') => zk7 l (zbM ws) i j nx' (by omega) (by omega) hij hlen;have hca : zal Tryz.prog 53 = true := by kernel_rfl
 rw [List.length_append];have hlt : zbw ws ++ [32, 59, 10] = zbM ws := rfl;generalize zbM ws = T at *;clear hlen
 (refine RetX.of_bodyW Tryz.func52 rfl (by simp) fun Γ hn hpan => ?_); simp only [entry, ziC, ziN, maC, maN, oA, Tryz.ntmps52]
 repeat' (first
  | ((first | refine zaf ?_ | refine zaj ?_ | fail); simp [hne, hne2, hij, Ne.symm hij, del, hlt])
  | (refine ⟨by omega, ?_⟩)
  | (refine zat ?_; simp [hne, hne2, hij, Ne.symm hij, del, hlt])
  | (refine CallP.fE (hjn) (by first | rfl | fail) (by first | simp [hne, hne2, hij, Ne.symm hij, del, hlt] <;> rfl | fail) ⟨by first | assumption | (simp; done) | fail, by simp, ?_⟩; (try simp [hne, hne2, hij, Ne.symm hij, del, hlt]))
  | (refine CallP.okL (hwr _ (by first | omega | simp <;> omega | fail)) (by first | (simp [hne, hne2, hij, Ne.symm hij, del, hlt, zaa, getK, zab, zac, zam, zaL, del]; done) | fail) (by rfl) (by rfl) ⟨by first | assumption | (simp; done) | fail, by simp, ?_⟩; (try simp [hne, hne2, hij, Ne.symm hij, del, hlt, zc5, del]))
  | fail)
 (refine EndW.here ?_; (first | (refine EndOK.fin (.inr rfl) ?_) | (refine EndOK.fin (.inl rfl) ?_)); simp [zay, zae, Tryz.results52, hne, hne2, hi, hj, hij, Ne.symm hij]; refine FinOK.cut [(i, .box [.ptr i 0, .vec nx (l.length + T.length)]), (nx, .vec u8T 1 (zcg (l ++ T)))] (nx + 1) (by simp [zaa, getK, zab, zac, Ob.under, D.under, zad, zah, hne, hne2, hi, hj, hij, Ne.symm hij] <;> omega) (by simp [D.under]) (by simp [hn]) ?_; try simp)
theorem zge (ws : List W8) (i nx : Nat) (hi : i < nx) (hlen : (zbM ws).length <= 140737488355328) (hN : ws.length <= 140737488355328) :
  RetX Tryz.prog 52 [.u (.sl (ws.map fun w => [.str w])), .ptr i 0] [(i, .nw bT)] nx
   (fun r o n => r = .val (.tup []) /\ o = [(i, .box [.ptr i 0, .vec (nx + 1) (zbM ws).length]), (nx + 1, .vec u8T 1 (zcg (zbM ws)))] /\ n = nx + 2) := by
 have hne := zaE hi;have hjl : (zbw ws).length <= 140737488355328 := by simp only [zbM, List.length_append] at hlen; omega
 have hjn := zkI ws hjl hN;have hwr := fun nx' (h : nx <= nx') => zl3 (zbM ws) i nx' (by omega) hlen;have hca : zal Tryz.prog 53 = true := by kernel_rfl
 have hlt : zbw ws ++ [32, 59, 10] = zbM ws := rfl;generalize zbM ws = T at *;clear hlen
 (refine RetX.of_bodyW Tryz.func52 rfl (by simp) fun Γ hn hpan => ?_); simp only [entry, ziC, ziN, maC, maN, oA, Tryz.ntmps52]
 repeat' (first
  | ((first | refine zaf ?_ | refine zaj ?_ | fail); simp [hne, del, hlt])
  | (refine ⟨by omega, ?_⟩)
  | (refine zat ?_; simp [hne, del, hlt])
  | (refine CallP.fE (hjn) (by first | rfl | fail) (by first | simp [hne, del, hlt] <;> rfl | fail) ⟨by first | assumption | (simp; done) | fail, by simp, ?_⟩; (try simp [hne, del, hlt]))
  | (refine CallP.okL (hwr _ (by first | omega | simp <;> omega | fail)) (by first | (simp [hne, del, hlt, zaa, getK, zab, zac, zam, zaL, del]; done) | fail) (by rfl) (by rfl) ⟨by first | assumption | (simp; done) | fail, by simp, ?_⟩; (try simp [hne, del, hlt, zc5, del]))
  | fail)
 (refine EndW.here ?_; (first | (refine EndOK.fin (.inr rfl) ?_) | (refine EndOK.fin (.inl rfl) ?_)); simp [zay, zae, Tryz.results52, hne, hi]; refine FinOK.cut [(i, .box [.ptr i 0, .vec (nx + 1) T.length]), (nx + 1, .vec u8T 1 (zcg T))] (nx + 2) (by simp [zaa, getK, zab, zac, Ob.under, D.under, zad, zah, hne, hi] <;> omega) (by simp [D.under]) (by simp [hn]) ?_; try simp)
end Go.Proofs.YthnemhfamhnfjaaGreatDoor
namespace Go.Proofs.YthnemhfamhnfjaaGreatDoor
open Go Go.VL
attribute [local simp] HS zc2 zb3 evPure opd uOf zaF St.put St.at getK binD binI binS binB nilD aggD zgQ zha lookD lookR zcu Go.VL.nextD zcx zhu zhc zf2 zcw mkV zdj zbk zbu mapEff zdY zfQ Key.kk shiftI arith unD convD zdH loadD cellsAt fieldAddrD fieldD indexAddrD indexD sliceD cutD lenD minmaxD nilCheckD buildD fillD zbP zdb zeC setAll zcK zeO zco zg0 zcm St.add zaO zbF rowsOf zdA zcH zam zac zaa za7 zcC zaQ entry zbE zbO valD zb4 zcy zgh zdh zdi zbT zbK zaw zaW zbo delAll effD St.effS zcU za8 zaY zcV za9 za0 zb9 zaZ zaT zca zcS zbD zb8 zbl zb6 zb7 zaL mkD zbL zbv zbJ zaw zcn D.ids Op.operands Call.operands zby makeIfD makeFuncD typeAssertD zg9 zdw zdx zg1 zcv IntKind.bits zcN List.take_of_length_le List.range_succ
attribute [local irreducible] V G H HD HD2 HD4 zjP RetX zao Eff CallP CallV EndOK Fun Ret FinOK LoopI LoopW EndW
abbrev zja (e : Exp × Int) : D := .tup [.u (.agg e.1.row), .u (.int .i64 e.2)]
def zf4 (l : List Tok) (f : Nat) : Prop := ∀ (p : Nat) (form : Int) (i nx : Nat), i < nx -> p < l.length -> 4 * (l.length - p) + 3 <= f -> 0 <= form -> form <= 7 ->
 RetX Tryz.prog 41 [.ptr i 0, zid form] [(i, pOb l p)] nx (PPost l i nx zee (zed l f p form))
def zpq (l : List Tok) (f : Nat) : Prop := ∀ (p : Nat) (form : Int) (i nx : Nat), i < nx -> p < l.length -> 4 * (l.length - p) + 2 <= f -> 0 <= form -> form <= 7 ->
 RetX Tryz.prog 95 [.ptr i 0, zid form] [(i, pOb l p)] nx (PPost l i nx zja (zbt l f p form))
def zhI (l : List Tok) (f : Nat) : Prop := ∀ (p : Nat) (i nx : Nat), i < nx -> p < l.length -> 4 * (l.length - p) + 1 <= f ->
 RetX Tryz.prog 133 [.ptr i 0] [(i, pOb l p)] nx (PPost l i nx zee (za3 l f p))
theorem zeS {l : List Tok} (hl : TokOK l) (w : List UInt8) {q i nx : Nat} (hi : i < nx) (hq : q < l.length) :
  RetX Tryz.prog 83 [.ptr i 0, .u (.sl [[.str w]])] [(i, pOb l q)] nx (PPost l i nx (fun _ => .tup []) (zbS l q [w])) := zhK l q [w] i nx hi hq hl (by simp)
theorem zjW {l : List Tok} (hl : TokOK l) {f p : Nat} {t : Tok} (ht : l[p]? = some t) (hk : t.kind = 2) {i nx : Nat} (hi : i < nx) :
  RetX Tryz.prog 133 [.ptr i 0] [(i, pOb l p)] nx (PPost l i nx zee (za3 l (f + 1) p)) := by
 have hne := zaE hi;have hp := (lGE.1 ht).1;have hnx := zb1 l p t ht hl.len;have hp2 := hl.fin p t ht (by omega);have hll := hl.len;rw [za3, ht];simp only [hk, if_true] at hnx ⊢;have hu := fun nx' (h : nx <= nx') => znF l (p + 1) i nx' (by omega) hp2 hl;cases hr : zk9 l (p + 1) with
 | ok a q =>
  simp only [hr] at hu
  (refine RetX.of_bodyW Tryz.func133 rfl (by simp) fun Γ hn hpan => ?_); simp only [entry, ziC, ziN, maC, maN, oA, Tryz.ntmps133]
  repeat' (first
  | (refine zgY (fun nx' h' => hu nx' (by simp at h'; omega)) (by first | (simp [hne, zaa, getK, zab, zac, zam, zaL]; done) | fail) (by rfl) (by first | assumption | simp) (by rfl) (by simp [D.under, Ob.under]) (by simp) ?_; (try simp [hne]))
  | ((first | refine zaf ?_ | refine zaR rfl ?_ | refine zcb rfl ?_ | refine zaj ?_ | fail); simp [hne])
  | (refine ⟨by omega, ?_⟩)
  | ((first | refine zag ?_ | refine zai ?_ | fail); simp [hne])
  | (refine zaX (hC _ (zcj [i] nx (by simp <;> omega) (by simp <;> omega) (by apply Exists.intro; apply And.intro; (focus (repeat' (first | exact KF.nil | exact KL.nil | apply KF.cons | apply KL.cons 0 rfl | apply KL.cons 1 rfl | apply KL.cons 2 rfl | apply KL.cons 3 rfl | apply KL.cons 4 rfl | apply KL.cons 5 rfl | apply KL.cons 6 rfl | apply KL.cons 7 rfl | apply KL.cons 8 rfl | apply KL.cons 9 rfl))); kernel_rfl))) (hk _ ?_); clear hC hk C k; simp only [zao])
  | (refine za2 rfl (by kernel_rfl) (by first | (simp [hn]; done) | (simp [hn]; omega) | fail) fun C k hC hk => ?_; simp [hne])
  | (refine zap ?_; simp only [zao])
  | (refine CallP.fE (hnx) (by first | rfl | fail) (by first | simp [hne] <;> rfl | fail) ?_; (try simp [hne]))
  | fail)
  refine EndW.norm ?_;simp [St.norm, zbi, zb2, zcq, zcr, hne]
  (refine EndW.here ?_; (first | (refine EndOK.fin (.inr rfl) ?_) | (refine EndOK.fin (.inl rfl) ?_)); simp [zay, zae, Tryz.results133, hne, hi]; refine FinOK.cut [(i, pOb l q)] (nx) (by simp [zaa, getK, zab, zac, Ob.under, D.under, zad, zah, hne, hi] <;> omega) (by simp [D.under]) (by simp [hn]) ?_; try simp)
  exact PPost.zct rfl (by simp [Exp.row]) rfl
 | stop pos e =>
  simp only [hr] at hu
  (refine RetX.of_bodyW Tryz.func133 rfl (by simp) fun Γ hn hpan => ?_); simp only [entry, ziC, ziN, maC, maN, oA, Tryz.ntmps133]
  repeat' (first
  | (refine zfq (fun nx' h' => hu nx' (by simp at h'; omega)) (by first | (simp [hne, zaa, getK, zab, zac, zam, zaL]; done) | fail) (by rfl) (by first | assumption | simp) (by rfl) (by simp) ?_ ?_; rintro env' ob' n' hn' ⟨q', rfl⟩; refine ⟨_, Wk.refl _, ?_⟩)
  | (refine zeA rfl (by simp) ?_; simp)
  | ((first | refine zaf ?_ | refine zaR rfl ?_ | refine zaj ?_ | fail); simp [hne])
  | (refine ⟨by omega, ?_⟩)
  | ((first | refine zag ?_ | refine zai ?_ | fail); simp [hne])
  | (refine zfr (hC _ (zcj [i] nx (by simp <;> omega) (by simp <;> omega) (by apply Exists.intro; apply And.intro; (focus (repeat' (first | exact KF.nil | exact KL.nil | apply KF.cons | apply KL.cons 0 rfl | apply KL.cons 1 rfl | apply KL.cons 2 rfl | apply KL.cons 3 rfl | apply KL.cons 4 rfl | apply KL.cons 5 rfl | apply KL.cons 6 rfl | apply KL.cons 7 rfl | apply KL.cons 8 rfl | apply KL.cons 9 rfl))); kernel_rfl))) rfl; done)
  | (refine za2 rfl (by kernel_rfl) (by first | (simp [hn]; done) | (simp [hn]; omega) | fail) fun C k hC hk => ?_; simp [hne])
  | (refine CallP.fE (hnx) (by first | rfl | fail) (by first | simp [hne] <;> rfl | fail) ?_; (try simp [hne]))
  | fail)
  (refine hpan _ _ ⟨{ n := _, env := [], obs := [(i, pOb l q')], next := nx }, (Wk.cut rfl (by simp [hn]) (by simp [wkO, zaa, getK, zab, zac, Ob.under, D.under, zad, zah, hi, hne, zab, zac, zaa, getK]) (by simp [wkU, zak, zaa, getK, D.under, hi, hne, zab, zac, zaa, getK]) (by simp [wkE, zak, zaa, getK, hi, hne, zab, zac, zaa, getK])), by simp [hn], ?_⟩; try simp)
  exact PPost.zaA (by simp [PR.bind])
theorem ziY {l : List Tok} (hl : TokOK l) {f p : Nat} {t : Tok} (ht : l[p]? = some t) (hk : ¬ t.kind = 2) (h1 : isB l p [116, 114, 117, 101] = true) {i nx : Nat} (hi : i < nx) :
  RetX Tryz.prog 133 [.ptr i 0] [(i, pOb l p)] nx (PPost l i nx zee (za3 l (f + 1) p)) := by
 have hne := zaE hi;have hp := (lGE.1 ht).1;have hnx := zb1 l p t ht hl.len;have hll := hl.len;rw [za3, ht];have hh1 := fun nx' (h : nx <= nx') => zbj l p [116, 114, 117, 101] i nx' (by omega) hp hl.len;simp only [hk, h1, if_false, if_true] at hh1 ⊢
 (refine RetX.of_bodyW Tryz.func133 rfl (by simp) fun Γ hn hpan => ?_); simp only [entry, ziC, ziN, maC, maN, oA, Tryz.ntmps133]
 repeat' (first
  | ((first | refine zaf ?_ | refine zaj ?_ | refine zag ?_ | refine zai ?_ | fail); simp [hne, hk, del])
  | (refine zap ?_; simp only [zao])
  | (refine CallP.fE (hnx) (by first | rfl | fail) (by first | simp [hne, hk, del] <;> rfl | fail) ?_; (try simp [hne, hk, del]))
  | (refine CallP.ok1 (hh1 _ (by first | omega | simp <;> omega | fail)) (by first | (simp [hne, hk, del, zaa, getK, zab, zac]; done) | fail) (by rfl) (by rfl) ?_; (try simp [hne, hk, del]))
  | fail)
 refine EndW.norm ?_;simp [St.norm, zbi, zb2, zcq, zcr, hne]
 (refine EndW.here ?_; (first | (refine EndOK.fin (.inr rfl) ?_) | (refine EndOK.fin (.inl rfl) ?_)); simp [zay, zae, Tryz.results133, hne, hi]; refine FinOK.cut [(i, pOb l (p + 1))] (nx) (by simp [zaa, getK, zab, zac, Ob.under, D.under, zad, zah, hne, hi] <;> omega) (by simp [D.under]) (by simp [hn]) ?_; try simp)
 exact PPost.zct rfl (by simp [Exp.row]) rfl
theorem zhY {l : List Tok} (hl : TokOK l) {f p : Nat} {t : Tok} (ht : l[p]? = some t) (hk : ¬ t.kind = 2) (h1 : isB l p [116, 114, 117, 101] = false) (h2 : isB l p [102, 97, 108, 115, 101] = true) {i nx : Nat} (hi : i < nx) :
  RetX Tryz.prog 133 [.ptr i 0] [(i, pOb l p)] nx (PPost l i nx zee (za3 l (f + 1) p)) := by
 have hne := zaE hi;have hp := (lGE.1 ht).1;have hnx := zb1 l p t ht hl.len;have hll := hl.len;rw [za3, ht];have hh1 := fun nx' (h : nx <= nx') => zbj l p [116, 114, 117, 101] i nx' (by omega) hp hl.len;have hh2 := fun nx' (h : nx <= nx') => zbj l p [102, 97, 108, 115, 101] i nx' (by omega) hp hl.len;simp only [hk, h1, h2, if_false, if_true, Bool.false_eq_true] at hh1 hh2 ⊢
 (refine RetX.of_bodyW Tryz.func133 rfl (by simp) fun Γ hn hpan => ?_); simp only [entry, ziC, ziN, maC, maN, oA, Tryz.ntmps133]
 repeat' (first
  | ((first | refine zaf ?_ | refine zaj ?_ | refine zag ?_ | refine zai ?_ | fail); simp [hne, hk, del])
  | (refine zap ?_; simp only [zao])
  | (refine CallP.fE (hnx) (by first | rfl | fail) (by first | simp [hne, hk, del] <;> rfl | fail) ?_; (try simp [hne, hk, del]))
  | (refine CallP.ok1 (hh1 _ (by first | omega | simp <;> omega | fail)) (by first | (simp [hne, hk, del, zaa, getK, zab, zac]; done) | fail) (by rfl) (by rfl) ?_; (try simp [hne, hk, del]))
  | (refine CallP.ok1 (hh2 _ (by first | omega | simp <;> omega | fail)) (by first | (simp [hne, hk, del, zaa, getK, zab, zac]; done) | fail) (by rfl) (by rfl) ?_; (try simp [hne, hk, del]))
  | fail)
 refine EndW.norm ?_;simp [St.norm, zbi, zb2, zcq, zcr, hne]
 (refine EndW.here ?_; (first | (refine EndOK.fin (.inr rfl) ?_) | (refine EndOK.fin (.inl rfl) ?_)); simp [zay, zae, Tryz.results133, hne, hi]; refine FinOK.cut [(i, pOb l (p + 1))] (nx) (by simp [zaa, getK, zab, zac, Ob.under, D.under, zad, zah, hne, hi] <;> omega) (by simp [D.under]) (by simp [hn]) ?_; try simp)
 exact PPost.zct rfl (by simp [Exp.row]) rfl
theorem zdk {l : List Tok} {F : FuncId} {r : PR Exp} {e : Exp} {q i nx : Nat} {ds : List D} {obs : List (Nat × Ob)} (h : RetX Tryz.prog F ds obs nx (PPost l i nx zee r)) (hr : r = .ok e q) :
  RetX Tryz.prog F ds obs nx fun r o n => r = .val (.u (.agg [.int .i64 e.op, .int .i64 e.n, .int .i64 e.unit, .str e.s, .sl (e.args.map Exp.row)])) /\ o = [(i, pOb l q)] /\ n = nx := by
 subst hr;rw [<- Exp.row_eq];exact h
theorem zhX {l : List Tok} (hl : TokOK l) {f p : Nat} (hE : zf4 l f) (hf : 4 * (l.length - p) <= f) {t : Tok} (ht : l[p]? = some t) (hk : ¬ t.kind = 2) (h1 : isB l p [116, 114, 117, 101] = false) (h2 : isB l p [102, 97, 108, 115, 101] = false)
  (h3 : isB l p [109, 105, 110] = false) (h4 : isB l p [109, 97, 120] = false) (h5 : isB l p [40] = true) {i nx : Nat} (hi : i < nx) :
  RetX Tryz.prog 133 [.ptr i 0] [(i, pOb l p)] nx (PPost l i nx zee (za3 l (f + 1) p)) := by
 have hne := zaE hi;have hp := (lGE.1 ht).1;have hnx := zb1 l p t ht hl.len;have hll := hl.len;have hp2 := zbc hl h5;rw [za3, ht];have hh1 := fun nx' (h : nx <= nx') => zbj l p [116, 114, 117, 101] i nx' (by omega) hp hl.len;have hh2 := fun nx' (h : nx <= nx') => zbj l p [102, 97, 108, 115, 101] i nx' (by omega) hp hl.len;have hm1 := zec l p [109, 105, 110] hp hl.len;have hm2 := zec l p [109, 97, 120] hp hl.len;have hh3 := fun nx' (h : nx <= nx') => zbj l p [40] i nx' (by omega) hp hl.len;simp only [hk, h1, h2, h3, h4, h5, if_false, if_true, Bool.false_eq_true, or_self] at hh1 hh2 hm1 hm2 hh3 ⊢;have he := fun nx' (h : nx <= nx') => hE (p + 1) 0 i nx' (by omega) hp2 (by omega) (by omega) (by omega);cases hr : zed l f (p + 1) 0 with
 | stop pos e =>
  simp only [hr] at he
  (refine RetX.of_bodyW Tryz.func133 rfl (by simp) fun Γ hn hpan => ?_); simp only [entry, ziC, ziN, maC, maN, oA, Tryz.ntmps133]
  repeat' (first
  | ((first | refine zaf ?_ | refine zaj ?_ | refine zag ?_ | refine zai ?_ | fail); simp [hne, hk, del, nAA])
  | (refine CallP.fE (hnx) (by first | rfl | fail) (by first | simp [hne, hk, del, nAA] <;> rfl | fail) ?_; (try simp [hne, hk, del, nAA]))
  | (refine CallP.fE (hm1) (by first | rfl | fail) (by first | simp [hne, hk, del, nAA] <;> rfl | fail) ?_; (try simp [hne, hk, del, nAA]))
  | (refine CallP.fE (hm2) (by first | rfl | fail) (by first | simp [hne, hk, del, nAA] <;> rfl | fail) ?_; (try simp [hne, hk, del, nAA]))
  | (refine CallP.ok1 (hh1 _ (by first | omega | simp <;> omega | fail)) (by first | (simp [hne, hk, del, nAA, zaa, getK, zab, zac]; done) | fail) (by rfl) (by rfl) ?_; (try simp [hne, hk, del, nAA]))
  | (refine CallP.ok1 (hh2 _ (by first | omega | simp <;> omega | fail)) (by first | (simp [hne, hk, del, nAA, zaa, getK, zab, zac]; done) | fail) (by rfl) (by rfl) ?_; (try simp [hne, hk, del, nAA]))
  | (refine CallP.ok1 (hh3 _ (by first | omega | simp <;> omega | fail)) (by first | (simp [hne, hk, del, nAA, zaa, getK, zab, zac]; done) | fail) (by rfl) (by rfl) ?_; (try simp [hne, hk, del, nAA]))
  | (refine CallP.zeg (he _ (by first | omega | simp <;> omega | fail)) (by first | (simp [hne, hk, del, nAA, zaa, getK, zab, zac]; done) | fail) (by rfl) (by first | assumption | (simp; done) | fail) (by rfl) (by simp) ?_; rintro ob' ⟨q', rfl⟩; refine ⟨_, Wk.refl _, ?_⟩)
  | fail)
  (refine hpan _ _ ⟨{ n := _, env := [], obs := [(i, pOb l q')], next := nx }, (Wk.cut rfl (by simp [hn]) (by simp [wkO, zaa, getK, zab, zac, Ob.under, D.under, zad, zah, hi, hne, zab, zac, zaa, getK]) (by simp [wkU, zak, zaa, getK, D.under, hi, hne, zab, zac, zaa, getK]) (by simp [wkE, zak, zaa, getK, hi, hne, zab, zac, zaa, getK])), by simp [hn], ?_⟩; try simp)
  exact PPost.zaA (by simp [PR.bind, *])
 | ok e1 q1 =>
  have he := fun nx' h => zdk (he nx' h) hr;obtain ⟨g1, g2⟩ := (zci hl f).1 _ _ _ _ hr hp2;have hw := fun nx' (h : nx <= nx') => zeS hl [41] (q := q1) (i := i) (nx := nx') (by omega) g2;cases hr2 : zbS l q1 [[41]] with
  | stop pos e =>
   simp only [hr2] at hw
   (refine RetX.of_bodyW Tryz.func133 rfl (by simp) fun Γ hn hpan => ?_); simp only [entry, ziC, ziN, maC, maN, oA, Tryz.ntmps133]
   repeat' (first
  | ((first | refine zaf ?_ | refine zaj ?_ | refine zag ?_ | refine zai ?_ | fail); simp [hne, hk, del, nAA])
  | (refine CallP.fE (hnx) (by first | rfl | fail) (by first | simp [hne, hk, del, nAA] <;> rfl | fail) ?_; (try simp [hne, hk, del, nAA]))
  | (refine CallP.fE (hm1) (by first | rfl | fail) (by first | simp [hne, hk, del, nAA] <;> rfl | fail) ?_; (try simp [hne, hk, del, nAA]))
  | (refine CallP.fE (hm2) (by first | rfl | fail) (by first | simp [hne, hk, del, nAA] <;> rfl | fail) ?_; (try simp [hne, hk, del, nAA]))
  | (refine CallP.ok1 (hh1 _ (by first | omega | simp <;> omega | fail)) (by first | (simp [hne, hk, del, nAA, zaa, getK, zab, zac]; done) | fail) (by rfl) (by rfl) ?_; (try simp [hne, hk, del, nAA]))
  | (refine CallP.ok1 (hh2 _ (by first | omega | simp <;> omega | fail)) (by first | (simp [hne, hk, del, nAA, zaa, getK, zab, zac]; done) | fail) (by rfl) (by rfl) ?_; (try simp [hne, hk, del, nAA]))
  | (refine CallP.ok1 (hh3 _ (by first | omega | simp <;> omega | fail)) (by first | (simp [hne, hk, del, nAA, zaa, getK, zab, zac]; done) | fail) (by rfl) (by rfl) ?_; (try simp [hne, hk, del, nAA]))
  | (refine CallP.ok1 (he _ (by first | omega | simp <;> omega | fail)) (by first | (simp [hne, hk, del, nAA, zaa, getK, zab, zac]; done) | fail) (by rfl) (by rfl) ?_; (try simp [hne, hk, del, nAA]))
  | (refine CallP.zeg (hw _ (by first | omega | simp <;> omega | fail)) (by first | (simp [hne, hk, del, nAA, zaa, getK, zab, zac]; done) | fail) (by rfl) (by first | assumption | (simp; done) | fail) (by rfl) (by simp) ?_; rintro ob' ⟨q', rfl⟩; refine ⟨_, Wk.refl _, ?_⟩)
  | (refine zau (by first | rfl | fail) ?_; simp [hne, hk, del, nAA, frzN, frz1, zaC, zaB, St.frz, St.frzS, frzS, fv, zaJ, za6, zba, zaG, zav, zan, del, frz, zbb])
  | fail)
   (refine hpan _ _ ⟨{ n := _, env := [], obs := [(i, pOb l q')], next := nx }, (Wk.cut rfl (by simp [hn]) (by simp [wkO, zaa, getK, zab, zac, Ob.under, D.under, zad, zah, hi, hne, zab, zac, zaa, getK]) (by simp [wkU, zak, zaa, getK, D.under, hi, hne, zab, zac, zaa, getK]) (by simp [wkE, zak, zaa, getK, hi, hne, zab, zac, zaa, getK])), by simp [hn], ?_⟩; try simp)
   exact PPost.zaA (by simp [PR.bind, *])
  | ok u2 q =>
   simp only [hr2] at hw
   (refine RetX.of_bodyW Tryz.func133 rfl (by simp) fun Γ hn hpan => ?_); simp only [entry, ziC, ziN, maC, maN, oA, Tryz.ntmps133]
   repeat' (first
  | ((first | refine zaf ?_ | refine zaj ?_ | refine zag ?_ | refine zai ?_ | fail); simp [hne, hk, del, nAA])
  | (refine zap ?_; simp only [zao])
  | (refine CallP.fE (hnx) (by first | rfl | fail) (by first | simp [hne, hk, del, nAA] <;> rfl | fail) ?_; (try simp [hne, hk, del, nAA]))
  | (refine CallP.fE (hm1) (by first | rfl | fail) (by first | simp [hne, hk, del, nAA] <;> rfl | fail) ?_; (try simp [hne, hk, del, nAA]))
  | (refine CallP.fE (hm2) (by first | rfl | fail) (by first | simp [hne, hk, del, nAA] <;> rfl | fail) ?_; (try simp [hne, hk, del, nAA]))
  | (refine CallP.ok1 (hh1 _ (by first | omega | simp <;> omega | fail)) (by first | (simp [hne, hk, del, nAA, zaa, getK, zab, zac]; done) | fail) (by rfl) (by rfl) ?_; (try simp [hne, hk, del, nAA]))
  | (refine CallP.ok1 (hh2 _ (by first | omega | simp <;> omega | fail)) (by first | (simp [hne, hk, del, nAA, zaa, getK, zab, zac]; done) | fail) (by rfl) (by rfl) ?_; (try simp [hne, hk, del, nAA]))
  | (refine CallP.ok1 (hh3 _ (by first | omega | simp <;> omega | fail)) (by first | (simp [hne, hk, del, nAA, zaa, getK, zab, zac]; done) | fail) (by rfl) (by rfl) ?_; (try simp [hne, hk, del, nAA]))
  | (refine CallP.ok1 (he _ (by first | omega | simp <;> omega | fail)) (by first | (simp [hne, hk, del, nAA, zaa, getK, zab, zac]; done) | fail) (by rfl) (by rfl) ?_; (try simp [hne, hk, del, nAA]))
  | (refine CallP.ok1 (hw _ (by first | omega | simp <;> omega | fail)) (by first | (simp [hne, hk, del, nAA, zaa, getK, zab, zac]; done) | fail) (by rfl) (by rfl) ?_; (try simp [hne, hk, del, nAA]))
  | (refine zau (by first | rfl | fail) ?_; simp [hne, hk, del, nAA, frzN, frz1, zaC, zaB, St.frz, St.frzS, frzS, fv, zaJ, za6, zba, zaG, zav, zan, del, frz, zbb])
  | fail)
   refine EndW.norm ?_;simp [St.norm, zbi, zb2, zcq, zcr, hne]
   (refine EndW.here ?_; (first | (refine EndOK.fin (.inr rfl) ?_) | (refine EndOK.fin (.inl rfl) ?_)); simp [zay, zae, Tryz.results133, hne, hi]; refine FinOK.cut [(i, pOb l q)] (nx) (by simp [zaa, getK, zab, zac, Ob.under, D.under, zad, zah, hne, hi] <;> omega) (by simp [D.under]) (by simp [hn]) ?_; try simp)
   exact PPost.zct (by simp [PR.bind, *]; rfl) (by simp [Exp.row_eq]) rfl
end Go.Proofs.YthnemhfamhnfjaaGreatDoor
