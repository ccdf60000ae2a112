import Derived.Test.YtepiegcjnaohjaaGreatDoorP3
import Derived.Lib.ItoaNum
set_option linter.all false
set_option maxRecDepth 100000
set_option maxHeartbeats 8000000
namespace Go.Proofs.YtepiegcjnaohjaaGreatDoor
open Go Go.VL
attribute [local simp] zc6 zb2 evPure opd uOf zaC St.put St.at getK binD binI binS binB nilD aggD zhd zir lookD lookR zcB rangeS Go.VL.nextD Go.VL.nextS zcD ziF ziE zgE zbX mkV za8 zbj zbi zbh zc0 zbc zbq zbC mapEff zdd zf0 Key.kk shiftI arith unD convD zd4 loadD cellsAt fieldAddrD fieldD indexAddrD indexSlD arrAddr indexD sliceD cutD lenD minmaxD nilCheckD buildD fillD zbS zde zeV setAll zcM zeM zcv zhH zcr St.add zaS zbP rowsOf zdS zcw zak zac zaa zbm zcX zaQ entry zbI zbR valD zbU zcx zg2 zdv zdw zbZ zbO zaw zaR zbs delAll effD St.effS zdb zbk za1 zdc zbl za3 zcf za2 zaV zcg zc7 zbJ zcd zbt zcb zcc zau mkD zbw zbD zbN zaw zcu D.ids Op.operands Call.operands zbz makeIfD makeFuncD typeAssertD zio zdI zdJ zhX zcC IntKind.bits zcG List.take_of_length_le List.range_succ
attribute [local irreducible] V G H HD HD2 zap Eff CallP CallV EndOK Fun Ret FinOK LoopI LoopW EndW
inductive Exp where
 | mk (op n unit : Int) (s : List UInt8) (args : List Exp)
 deriving Inhabited
def Exp.row : Exp -> List U
 | .mk op n u s args => [.int .i64 op, .int .i64 n, .int .i64 u, .str s, .sl (args.map fun e => e.row)]
def Exp.op : Exp -> Int | .mk op _ _ _ _ => op
def Exp.n : Exp -> Int | .mk _ n _ _ _ => n
def Exp.unit : Exp -> Int | .mk _ _ u _ _ => u
def Exp.s : Exp -> List UInt8 | .mk _ _ _ s _ => s
def Exp.args : Exp -> List Exp | .mk _ _ _ _ args => args
theorem Exp.row_eq (e : Exp) : e.row = [.int .i64 e.op, .int .i64 e.n, .int .i64 e.unit, .str e.s, .sl (e.args.map Exp.row)] := by
 cases e with
 | mk op n u s args => rw [Exp.row]; rfl
structure Var where
 name : List UInt8
 unit : Int
 n : Int
 deriving DecidableEq, Inhabited
structure Let where
 name : List UInt8
 body : Exp
 deriving Inhabited
def Var.row (v : Var) : List U := [.str v.name, .int .i64 v.unit, .int .i64 v.n]
def Let.row (l : Let) : List U := .str l.name :: l.body.row
def vars (l : List Var) : U := .sl (l.map Var.row)
def lets (l : List Let) : U := .sl (l.map Let.row)
def zcU (c : UInt8) : Bool := decide (97 <= c.toNat) && decide (c.toNat <= 122)
def zbe (c : UInt8) : Bool := decide (48 <= c.toNat) && decide (c.toNat <= 57)
theorem zdT (c : UInt8) : Fun Tryz.prog 220 [.u (.int .u8 c.toNat)] (· = .u (.bool (zcU c))) := by
 unfold zcU
 (refine Fun.of_body Tryz.func220 rfl (by simp) fun Γ hn => ?_); simp only [entry, ziC, ziN, maC, maN, oA, Tryz.ntmps220]
 repeat' (first
  | ((first | refine zag ?_ | refine zaj ?_ | refine zah ?_ | fail); simp)
  | (refine zar ?_; simp only [zap])
  | (refine ⟨fun hc => ?_, fun hc => ?_⟩ <;> (try (exfalso; omega)))
  | fail)
 all_goals
  (refine EndOK.val (.inr rfl) ?_; simp [zaz, zaf, zas, Tryz.results220])
 all_goals first | omega | (simp; omega) | (rw [Bool.eq_iff_iff]; simp; omega)
theorem zev (c : UInt8) : Fun Tryz.prog 222 [.u (.int .u8 c.toNat)] (· = .u (.bool (zbe c))) := by
 unfold zbe
 (refine Fun.of_body Tryz.func222 rfl (by simp) fun Γ hn => ?_); simp only [entry, ziC, ziN, maC, maN, oA, Tryz.ntmps222]
 repeat' (first
  | ((first | refine zag ?_ | refine zaj ?_ | refine zah ?_ | fail); simp)
  | (refine zar ?_; simp only [zap])
  | (refine ⟨fun hc => ?_, fun hc => ?_⟩ <;> (try (exfalso; omega)))
  | fail)
 all_goals
  (refine EndOK.val (.inr rfl) ?_; simp [zaz, zaf, zas, Tryz.results222])
 all_goals first | omega | (simp; omega) | (rw [Bool.eq_iff_iff]; simp; omega)
theorem zmj (c : UInt8) : Fun Tryz.prog 221 [.u (.int .u8 c.toNat)] (· = .u (.bool (zcU c || zbe c))) := by
 (refine Fun.of_body Tryz.func221 rfl (by simp) fun Γ hn => ?_); simp only [entry, ziC, ziN, maC, maN, oA, Tryz.ntmps221]
 repeat' (first
  | ((first | refine zag ?_ | refine zaj ?_ | refine zah ?_ | fail); simp)
  | (refine zar ?_; simp only [zap])
  | (refine ⟨fun hc => ?_, fun hc => ?_⟩ <;> (try (exfalso; omega)))
  | (refine CallP.fE (zdT c) (by first | rfl | fail) (by first | (simp; done) | (simp; rfl) | fail) ?_; (try simp))
  | (refine CallP.fE (zev c) (by first | rfl | fail) (by first | (simp; done) | (simp; rfl) | fail) ?_; (try simp))
  | fail)
 all_goals
  (refine EndOK.val (.inr rfl) ?_; simp [zaz, zaf, zas, Tryz.results221])
 all_goals simp_all
def zce (p : UInt8 -> Bool) (l : List UInt8) : Nat := (l.takeWhile p).length
theorem zkD {p : UInt8 -> Bool} {l : List UInt8} {i : Nat} (h : ∀ c ∈ l.take i, p c = true) (hi : i <= l.length) (he : i = l.length \/ ∃ c, l[i]? = some c /\ p c = false) : zce p l = i := by
 unfold zce
 induction l generalizing i with
 | nil => simp at hi; simp [hi]
 | cons a l ih =>
  cases i with
  | zero =>
   rcases he with he | ⟨c, h1, h2⟩
   ·simp at he
   ·simp at h1; subst h1; simp [h2]
  | succ i =>
   have ha : p a = true := h a (by simp);rw [List.takeWhile_cons, if_pos ha, List.length_cons];rw [ih (i := i) (fun c hc => h c (by simp [hc])) (by simpa using hi) (by simpa using he)]
def zhz {α : Type} (p : α -> Bool) : List α -> Int -> Int
 | [], _ => -1
 | x :: l, i => if p x = true then i else zhz p l (i + 1)
theorem zif {α : Type} {p : α -> Bool} {l : List α} {i : Nat} {x : α} {k : Int} (h : ∀ c ∈ l.take i, p c = false) (hx : l[i]? = some x) (hp : p x = true) : zhz p l k = k + i := by
 induction l generalizing i k with
 | nil => simp at hx
 | cons s l ih =>
  cases i with
  | zero => simp at hx; simp [zhz, hx, hp]
  | succ i =>
   rw [zhz, if_neg (by rw [h s (by simp)]; simp), ih (i := i) (fun c hc => h c (by simp [hc])) (by simpa using hx)];omega
theorem zfd {α : Type} {p : α -> Bool} {l : List α} {k : Int} (h : ∀ c ∈ l, p c = false) : zhz p l k = -1 := by
 induction l generalizing k with
 | nil => rfl
 | cons s l ih => rw [zhz, if_neg (by rw [h s (by simp)]; simp), ih fun c hc => h c (by simp [hc])]
theorem zig {α : Type} (p : α -> Bool) (l : List α) : ∀ k : Int, 0 <= k -> (0 <= zhz p l k ↔ l.any p = true) := by
 induction l with
 | nil => intro k hk; simp [zhz]
 | cons s l ih =>
  intro k hk;by_cases h : p s = true
  ·simp [zhz, h, hk]
  ·rw [zhz, if_neg h, ih (k + 1) (by omega)];simp [h]
theorem za0 {α : Type} {p : α -> Prop} {l : List α} {i : Nat} {x : α} (hx : l[i]? = some x) (h : ∀ c ∈ l.take i, p c) (hp : p x) : ∀ c ∈ l.take (i + 1), p c := by
 obtain ⟨hi, rfl⟩ := lGE.1 hx;rw [List.take_succ_eq_append_getElem hi];intro c hc;rcases List.mem_append.1 hc with hc | hc
 ·exact h c hc
 ·simp at hc; subst hc; exact hp
theorem zfa (l : List UInt8) (hl : l.length <= 1000000) (f : FuncId) (p : UInt8 -> Bool) (hf : ∀ c ∈ l, Fun Tryz.prog f [.u (.int .u8 c.toNat)] (· = .u (.bool (p c)))) (hcl : zal Tryz.prog f = true) :
  Fun Tryz.prog 197 [.u (.str l), .fnc (.func f) []] (· = .u (.int .i64 (zce p l))) := by
 (refine Fun.of_body Tryz.func197 rfl (by simp) fun Γ hn => ?_); simp only [entry, ziC, ziN, maC, maN, oA, Tryz.ntmps197]
 repeat' (first
  | ((first | refine zag ?_ | refine zaj ?_ | refine zah ?_ | fail); simp)
  | fail)
 refine zbH (α := { i : Nat // i <= l.length /\ ∀ c ∈ l.take i, p c = true }) [0, 1] (fun i => [(5, .u (.int .i64 i.1))]) (fun i => l.length - i.1) ⟨0, by omega, by simp⟩ ?_ ?_
 ·exact (Wk.env rfl rfl rfl (by simp [wkE, St.lp, zam, zaa, getK] <;> (try (intros; simp_all; done)) <;> (try (intros; omega)) <;> (try grind)))
 rintro ⟨i, hi, hb⟩;simp [St.lp, St.only, zam, zaa, getK];rcases hx : l[i]? with _ | c
 ·have hge : l.length <= i := by simpa using hx
  repeat' (first
  | ((first | refine zag ?_ | refine zaj ?_ | fail); simp [hx])
  | (refine ⟨by omega, ?_⟩)
  | ((first | refine zah ?_ | refine zai ?_ | fail); simp [hx])
  | (refine zar ?_; simp only [zap])
  | (refine zaZ ?_; simp [zap])
  | (intro hc <;> (try (exfalso; omega)))
  | fail)
  (refine EndOK.val (.inr rfl) ?_; simp [zaz, zaf, zas, Tryz.results197])
  rw [zkD hb hi (.inl (by omega))]
 ·have hlt := (lGE.1 hx).1;have h1 := hf c (List.mem_of_getElem? hx)
  repeat' (first
  | ((first | refine zag ?_ | refine zaj ?_ | fail); simp [hx])
  | (refine ⟨by omega, ?_⟩)
  | ((first | refine zah ?_ | refine zai ?_ | refine zao ?_ | fail); simp [hx])
  | ((first | refine zar ?_ | refine zaq ?_ | fail); simp only [zap])
  | (refine zaZ ?_; simp [zap])
  | (refine ⟨?_, by omega⟩)
  | (refine ⟨fun hc => ?_, fun hc => ?_⟩ <;> (try (exfalso; omega)))
  | (intro hc <;> (try (exfalso; omega)))
  | (refine CallP.fE (h1) (by first | rfl | fail) (by first | simp [hx] <;> rfl | fail) ?_; (try simp [hcl, hx]))
  | fail)
  ·refine LoopW.next ⟨i + 1, by omega, za0 hx hb (by assumption)⟩ (by simp; omega) ?_
   exact (Wk.env rfl rfl rfl (by simp [wkE, St.lp, zam, zaa, getK] <;> (try (intros; simp_all; done)) <;> (try (intros; omega)) <;> (try grind)))
  ·(refine EndOK.val (.inr rfl) ?_; simp [zaz, zaf, zas, Tryz.results197])
   rw [zkD hb hi (.inr ⟨c, hx, by assumption⟩)]
def ziH (s : List UInt8) : Bool := match s with
 | [] => false
 | c :: _ => zcU c && decide (s.length <= 20) && decide (zce (fun c => zcU c || zbe c) s = s.length)
theorem zkx (s : List UInt8) : Fun Tryz.prog 167 [.u (.str s)] (· = .u (.bool (ziH s))) := by
 cases s with
 | nil =>
  (refine Fun.of_body Tryz.func167 rfl (by simp) fun Γ hn => ?_); simp only [entry, ziC, ziN, maC, maN, oA, Tryz.ntmps167]
  repeat' (first
  | ((first | refine zag ?_ | refine zaj ?_ | refine zah ?_ | refine zai ?_ | fail); simp)
  | (refine zar ?_; simp only [zap])
  | fail)
  all_goals
   (refine EndOK.val (.inr rfl) ?_; simp [zaz, zaf, zas, Tryz.results167])
  all_goals simp [ziH]
 | cons c s =>
  by_cases hl : s.length + 1 <= 20
  ·have hs := zfa (c :: s) (by simp; omega) 221 _ (fun c _ => zmj c) (by simp)
   (refine Fun.of_body Tryz.func167 rfl (by simp) fun Γ hn => ?_); simp only [entry, ziC, ziN, maC, maN, oA, Tryz.ntmps167]
   repeat' (first
  | ((first | refine zag ?_ | refine zaj ?_ | fail); simp)
  | (refine ⟨by omega, ?_⟩)
  | ((first | refine zah ?_ | refine zai ?_ | fail); simp)
  | ((first | refine zar ?_ | refine zaq ?_ | fail); simp only [zap])
  | (refine ⟨fun hc => ?_, fun hc => ?_⟩ <;> (try (exfalso; omega)))
  | (intro hc <;> (try (exfalso; omega)))
  | (refine CallP.fE (zdT c) (by first | rfl | fail) (by first | (simp; done) | (simp; rfl) | fail) ?_; (try simp))
  | (refine CallP.fE (hs) (by first | rfl | fail) (by first | (simp; done) | (simp; rfl) | fail) ?_; (try simp))
  | fail)
   all_goals
    (refine EndOK.val (.inr rfl) ?_; simp [zaz, zaf, zas, Tryz.results167])
   all_goals
    simp [ziH, *]
    try omega
  ·(refine Fun.of_body Tryz.func167 rfl (by simp) fun Γ hn => ?_); simp only [entry, ziC, ziN, maC, maN, oA, Tryz.ntmps167]
   repeat' (first
  | ((first | refine zag ?_ | refine zaj ?_ | refine zah ?_ | refine zai ?_ | fail); simp)
  | (refine zar ?_; simp only [zap])
  | (refine ⟨?_, by omega⟩)
  | (refine ⟨fun hc => ?_, fun hc => ?_⟩ <;> (try (exfalso; omega)))
  | (intro hc <;> (try (exfalso; omega)))
  | (refine CallP.fE (zdT c) (by first | rfl | fail) (by first | (simp; done) | (simp; rfl) | fail) ?_; (try simp))
  | fail)
   all_goals
     (refine EndOK.val (.inr rfl) ?_; simp [zaz, zaf, zas, Tryz.results167])
   all_goals
     simp [ziH, *]
     try omega
def zp0 (l : List (List UInt8)) : U := .sl (l.map fun s => [.str s])
def znH : List (List UInt8) -> List UInt8 -> Int -> Int
 | [], _, _ => -1
 | s :: l, x, i => if x = s then i else znH l x (i + 1)
theorem zqf {l : List (List UInt8)} {x : List UInt8} {i : Nat} {k : Int} (h : ∀ c ∈ l.take i, ¬ x = c) (hx : l[i]? = some x) : znH l x k = k + i := by
 induction l generalizing i k with
 | nil => simp at hx
 | cons s l ih =>
  cases i with
  | zero => simp at hx; simp [znH, hx]
  | succ i =>
   rw [znH, if_neg (h s (by simp)), ih (i := i) (fun c hc => h c (by simp [hc])) (by simpa using hx)];omega
theorem znG {l : List (List UInt8)} {x : List UInt8} {k : Int} (h : ∀ c ∈ l, ¬ x = c) : znH l x k = -1 := by
 induction l generalizing k with
 | nil => rfl
 | cons s l ih => rw [znH, if_neg (h s (by simp)), ih fun c hc => h c (by simp [hc])]
theorem zlR (l : List (List UInt8)) (x : List UInt8) : Fun Tryz.prog 223 [.u (zp0 l), .u (.str x)] (· = .u (.int .i64 (znH l x 0))) := by
 (refine Fun.of_body Tryz.func223 rfl (by simp) fun Γ hn => ?_); simp only [entry, ziC, ziN, maC, maN, oA, Tryz.ntmps223]
 simp only [zp0];refine zgW (x := 0) rfl fun hl => ?_;simp at hl
 repeat' (first
  | ((first | refine zag ?_ | refine zaj ?_ | refine zah ?_ | refine zao ?_ | fail); simp)
  | fail)
 refine zbH (α := { i : Nat // i <= l.length /\ ∀ c ∈ l.take i, ¬ x = c }) [0, 1, 7] (fun i => [(8, .u (.int .i64 i.1))]) (fun i => l.length - i.1) ⟨0, by omega, by simp⟩ ?_ ?_
 ·exact (Wk.env rfl rfl rfl (by simp [wkE, St.lp, zam, zaa, getK] <;> (try (intros; simp_all; done)) <;> (try (intros; omega)) <;> (try grind)))
 rintro ⟨i, hi, hb⟩;simp [St.lp, St.only, zam, zaa, getK];rcases hx : l[i]? with _ | c
 ·have hge : l.length <= i := by simpa using hx
  repeat' (first
  | ((first | refine zag ?_ | refine zaj ?_ | fail); simp [hx])
  | (refine ⟨by omega, ?_⟩)
  | (refine zah ?_; simp [hx])
  | (refine zar ?_; simp only [zap])
  | (refine zaZ ?_; simp [zap])
  | (intro hc <;> (try (exfalso; omega)))
  | fail)
  (refine EndOK.val (.inr rfl) ?_; simp [zaz, zaf, zas, Tryz.results223])
  rw [List.take_of_length_le hge] at hb;exact (znG hb).symm
 ·have hlt := (lGE.1 hx).1;by_cases hxc : x = c
  ·subst hxc
   repeat' (first
  | ((first | refine zag ?_ | refine zaj ?_ | refine zah ?_ | refine zai ?_ | fail); simp [hx])
  | ((first | refine zar ?_ | refine zaq ?_ | fail); simp only [zap])
  | (refine ⟨?_, by omega⟩)
  | (intro hc <;> (try (exfalso; omega)))
  | fail)
   (refine EndOK.val (.inr rfl) ?_; simp [zaz, zaf, zas, Tryz.results223])
   rw [zqf hb hx];omega
  ·repeat' (first
  | ((first | refine zag ?_ | refine zaj ?_ | fail); simp [hx, hxc])
  | (refine ⟨by omega, ?_⟩)
  | ((first | refine zah ?_ | refine zai ?_ | refine zat ?_ | fail); simp [hx, hxc])
  | (refine zaq ?_; simp only [zap])
  | (refine ⟨?_, by omega⟩)
  | (intro hc <;> (try (exfalso; omega)))
  | fail)
   refine LoopW.next ⟨i + 1, by omega, za0 hx hb hxc⟩ (by simp; omega) ?_
   exact (Wk.env rfl rfl rfl (by simp [wkE, St.lp, zam, zaa, getK] <;> (try (intros; simp_all; done)) <;> (try (intros; omega)) <;> (try grind)))
theorem zo5 (l : List (List UInt8)) (x : List UInt8) : ∀ k : Int, 0 <= k -> decide (0 <= znH l x k) = l.contains x := by
 induction l with
 | nil => intro k hk; simp [znH]
 | cons s l ih =>
  intro k hk;by_cases h : x = s
  ·subst h; simp [znH, hk]
  ·rw [znH, if_neg h, ih (k + 1) (by omega)];simp [h]
theorem zim (l : List (List UInt8)) (x : List UInt8) : Fun Tryz.prog 168 [.u (zp0 l), .u (.str x)] (· = .u (.bool (l.contains x))) := by
 have h1 := zlR l x
 (refine Fun.of_body Tryz.func168 rfl (by simp) fun Γ hn => ?_); simp only [entry, ziC, ziN, maC, maN, oA, Tryz.ntmps168]
 simp only [zp0] at h1 ⊢
 repeat' (first
  | ((first | refine zag ?_ | refine zaj ?_ | refine zah ?_ | fail); simp)
  | (refine zar ?_; simp only [zap])
  | (refine CallP.fE (h1) (by first | rfl | fail) (by first | (simp; done) | (simp; rfl) | fail) ?_; (try simp))
  | fail)
 (refine EndOK.val (.inr rfl) ?_; simp [zaz, zaf, zas, Tryz.results168])
 have h2 := zo5 l x 0 (by omega);simpa using h2
def words : List (List UInt8) := [[97, 110, 100], [98, 97, 99, 107, 115], [98, 105, 100, 100, 105, 110, 103], [99, 105, 114, 99, 108, 101], [99, 111, 105, 110, 115], [99, 111, 118, 101, 114], [100, 97, 121, 115], [100, 114, 97, 119], [100, 117, 101], [101, 108, 115, 101], [102, 97, 108, 115, 101], [102, 105, 110, 101], [102, 117, 110, 100], [103, 114, 97, 99, 101], [104, 111, 108, 100], [105, 102], [106, 111, 105, 110], [106, 117, 114, 121], [108, 101, 116], [109, 97, 120], [109, 105, 108, 108, 101], [109, 105, 110], [110, 101, 101, 100], [110, 111, 116], [111, 114], [111, 114, 100, 101, 114], [112, 97, 121], [112, 101, 114], [114, 111, 116, 97, 116, 105, 110, 103], [115, 97, 118, 105, 110, 103], [115, 101, 97, 108, 101, 100], [116, 104, 101, 110], [116, 114, 117, 101], [118, 111, 105, 99, 101, 115], [119, 97, 105, 116]]
set_option maxHeartbeats 4000000 in
set_option maxRecDepth 100000 in
theorem ziX : Fun Tryz.prog 169 [] (· = .u (zp0 words)) := by
 (refine Fun.of_bodyW Tryz.func169 rfl (by simp) fun Γ hn => ?_); simp only [entry, ziC, ziN, maC, maN, oA, Tryz.ntmps169]
 simp only [zp0, words, List.map_cons, List.map_nil]
 repeat' (first
  | ((first | refine zag ?_ | refine zaj ?_ | refine zah ?_ | fail); simp [zbR, zbI])
  | (refine zar ?_; simp only [zap])
  | fail)
 (refine EndW.frzN 1 ?_; simp [frzN, frz1, zaE, zaD, St.frz, St.frzS, frzS, fv, za5, za6, za7, zaH, zay, zav, del, frz, zbg])
 refine EndW.here ?_
 (refine EndOK.val (.inr rfl) ?_; simp [zaz, zaf, zas, Tryz.results169])
def zkP (l : Let) : List U := [.str l.name, .int .i64 l.body.op, .int .i64 l.body.n, .int .i64 l.body.unit, .str l.body.s, .sl (l.body.args.map Exp.row)]
def zoZ (l : Let) : D := .u (.agg [.str l.name, .int .i64 l.body.op, .int .i64 l.body.n, .int .i64 l.body.unit, .str l.body.s, .sl (l.body.args.map Exp.row)])
def zax (l : List Let) : U := .sl (l.map fun l => [.str l.name, .int .i64 l.body.op, .int .i64 l.body.n, .int .i64 l.body.unit, .str l.body.s, .sl (l.body.args.map Exp.row)])
theorem zlV (l : List (Let)) (f : FuncId) (caps : List U) (p : Let -> Bool) (hf : ∀ n ∈ l, Fun Tryz.prog f (zoZ n :: caps.map .u) (· = .u (.bool (p n)))) (hcl : zal Tryz.prog f = true)
  (hca : ∀ o, zcx o (caps.map .u) = some (caps.map .u, [])) : Fun Tryz.prog 151 [.u (zax l), .fnc (.func f) (caps.map .u)] (· = .u (.int .i64 (zhz p l 0))) := by
 (refine Fun.of_body Tryz.func151 rfl (by simp) fun Γ hn => ?_); simp only [entry, ziC, ziN, maC, maN, oA, Tryz.ntmps151]
 simp only [zax];refine zgW (x := 0) rfl fun hl => ?_;simp at hl
 repeat' (first
  | ((first | refine zag ?_ | refine zaj ?_ | refine zah ?_ | refine zao ?_ | fail); simp)
  | fail)
 refine zbH (α := { i : Nat // i <= l.length /\ ∀ c ∈ l.take i, p c = false }) [0, 1, 7] (fun i => [(8, .u (.int .i64 i.1))]) (fun i => l.length - i.1) ⟨0, by omega, by simp⟩ ?_ ?_
 ·exact (Wk.env rfl rfl rfl (by simp [wkE, St.lp, zam, zaa, getK] <;> (try (intros; simp_all; done)) <;> (try (intros; omega)) <;> (try grind)))
 rintro ⟨i, hi, hb⟩;simp [St.lp, St.only, zam, zaa, getK];rcases hx : l[i]? with _ | n
 ·have hge : l.length <= i := by simpa using hx
  repeat' (first
  | ((first | refine zag ?_ | refine zaj ?_ | fail); simp [hx])
  | (refine ⟨by omega, ?_⟩)
  | (refine zah ?_; simp [hx])
  | (refine zar ?_; simp only [zap])
  | (refine zaZ ?_; simp [zap])
  | (intro hc <;> (try (exfalso; omega)))
  | fail)
  (refine EndOK.val (.inr rfl) ?_; simp [zaz, zaf, zas, Tryz.results151])
  rw [List.take_of_length_le hge] at hb;exact (zfd hb).symm
 ·have hlt : i < l.length := (lGE.1 hx).1;have h1 := hf n (List.mem_of_getElem? hx);simp only [zoZ] at h1;cases hp : p n
  ·rw [hp] at h1
   repeat' (first
  | ((first | refine zag ?_ | refine zaj ?_ | fail); simp [hx, hca])
  | (refine ⟨by omega, ?_⟩)
  | ((first | refine zah ?_ | refine zai ?_ | refine zat ?_ | fail); simp [hx, hca])
  | (refine zaq ?_; simp only [zap])
  | (refine ⟨?_, by omega⟩)
  | (intro hc <;> (try (exfalso; omega)))
  | (refine CallP.fE (h1) (by first | rfl | fail) (by first | simp [hx, hca] <;> rfl | fail) ?_; (try simp [hcl, hx, hca]))
  | fail)
   refine LoopW.next ⟨i + 1, by omega, za0 hx hb hp⟩ (by simp; omega) ?_
   exact (Wk.env rfl rfl rfl (by simp [wkE, St.lp, zam, zaa, getK] <;> (try (intros; simp_all; done)) <;> (try (intros; omega)) <;> (try grind)))
  ·rw [hp] at h1
   repeat' (first
  | ((first | refine zag ?_ | refine zaj ?_ | refine zah ?_ | refine zai ?_ | fail); simp [hx, hca])
  | ((first | refine zar ?_ | refine zaq ?_ | fail); simp only [zap])
  | (refine ⟨?_, by omega⟩)
  | (intro hc <;> (try (exfalso; omega)))
  | (refine CallP.fE (h1) (by first | rfl | fail) (by first | simp [hx, hca] <;> rfl | fail) ?_; (try simp [hcl, hx, hca]))
  | fail)
   (refine EndOK.val (.inr rfl) ?_; simp [zaz, zaf, zas, Tryz.results151])
   rw [zif hb hx hp];omega
theorem zeb (l : List (Let)) (f : FuncId) (caps : List U) (p : Let -> Bool) (hf : ∀ n ∈ l, Fun Tryz.prog f (zoZ n :: caps.map .u) (· = .u (.bool (p n)))) (hcl : zal Tryz.prog f = true)
  (hca : ∀ o, zcx o (caps.map .u) = some (caps.map .u, [])) (hcb : ∀ o, zbO o (caps.map .u) = some (caps, [])) : Fun Tryz.prog 90 [.u (zax l), .fnc (.func f) (caps.map .u)] (· = .u (.bool (l.any p))) := by
 have h1 := zlV l f caps p hf hcl hca
 (refine Fun.of_body Tryz.func90 rfl (by simp) fun Γ hn => ?_); simp only [entry, ziC, ziN, maC, maN, oA, Tryz.ntmps90]
 simp only [zax] at h1 ⊢
 repeat' (first
  | ((first | refine zag ?_ | refine zaj ?_ | refine zah ?_ | fail); simp [hcb])
  | (refine zar ?_; simp only [zap])
  | (refine CallP.fE (h1) (by first | rfl | fail) (by first | simp [hcb] <;> rfl | fail) ?_; (try simp [hcl, hcb]))
  | fail)
 (refine EndOK.val (.inr rfl) ?_; simp [zaz, zaf, zas, Tryz.results90])
 have h2 := zig p l 0 (by omega);rw [Bool.eq_iff_iff];simpa using h2
def zqg (n : Int) : D := .u (.int .i64 n)
def zcO (l : List Int) : U := .sl (l.map fun n => [.int .i64 n])
theorem zlW (l : List (Int)) (f : FuncId) (caps : List U) (p : Int -> Bool) (hf : ∀ n ∈ l, Fun Tryz.prog f (zqg n :: caps.map .u) (· = .u (.bool (p n)))) (hcl : zal Tryz.prog f = true)
  (hca : ∀ o, zcx o (caps.map .u) = some (caps.map .u, [])) : Fun Tryz.prog 147 [.u (zcO l), .fnc (.func f) (caps.map .u)] (· = .u (.int .i64 (zhz p l 0))) := by
 (refine Fun.of_body Tryz.func147 rfl (by simp) fun Γ hn => ?_); simp only [entry, ziC, ziN, maC, maN, oA, Tryz.ntmps147]
 simp only [zcO];refine zgW (x := 0) rfl fun hl => ?_;simp at hl
 repeat' (first
  | ((first | refine zag ?_ | refine zaj ?_ | refine zah ?_ | refine zao ?_ | fail); simp)
  | fail)
 refine zbH (α := { i : Nat // i <= l.length /\ ∀ c ∈ l.take i, p c = false }) [0, 1, 7] (fun i => [(8, .u (.int .i64 i.1))]) (fun i => l.length - i.1) ⟨0, by omega, by simp⟩ ?_ ?_
 ·exact (Wk.env rfl rfl rfl (by simp [wkE, St.lp, zam, zaa, getK] <;> (try (intros; simp_all; done)) <;> (try (intros; omega)) <;> (try grind)))
 rintro ⟨i, hi, hb⟩;simp [St.lp, St.only, zam, zaa, getK];rcases hx : l[i]? with _ | n
 ·have hge : l.length <= i := by simpa using hx
  repeat' (first
  | ((first | refine zag ?_ | refine zaj ?_ | fail); simp [hx])
  | (refine ⟨by omega, ?_⟩)
  | (refine zah ?_; simp [hx])
  | (refine zar ?_; simp only [zap])
  | (refine zaZ ?_; simp [zap])
  | (intro hc <;> (try (exfalso; omega)))
  | fail)
  (refine EndOK.val (.inr rfl) ?_; simp [zaz, zaf, zas, Tryz.results147])
  rw [List.take_of_length_le hge] at hb;exact (zfd hb).symm
 ·have hlt : i < l.length := (lGE.1 hx).1;have h1 := hf n (List.mem_of_getElem? hx);simp only [zqg] at h1;cases hp : p n
  ·rw [hp] at h1
   repeat' (first
  | ((first | refine zag ?_ | refine zaj ?_ | fail); simp [hx, hca])
  | (refine ⟨by omega, ?_⟩)
  | ((first | refine zah ?_ | refine zai ?_ | refine zat ?_ | fail); simp [hx, hca])
  | (refine zaq ?_; simp only [zap])
  | (refine ⟨?_, by omega⟩)
  | (intro hc <;> (try (exfalso; omega)))
  | (refine CallP.fE (h1) (by first | rfl | fail) (by first | simp [hx, hca] <;> rfl | fail) ?_; (try simp [hcl, hx, hca]))
  | fail)
   refine LoopW.next ⟨i + 1, by omega, za0 hx hb hp⟩ (by simp; omega) ?_
   exact (Wk.env rfl rfl rfl (by simp [wkE, St.lp, zam, zaa, getK] <;> (try (intros; simp_all; done)) <;> (try (intros; omega)) <;> (try grind)))
  ·rw [hp] at h1
   repeat' (first
  | ((first | refine zag ?_ | refine zaj ?_ | refine zah ?_ | refine zai ?_ | fail); simp [hx, hca])
  | ((first | refine zar ?_ | refine zaq ?_ | fail); simp only [zap])
  | (refine ⟨?_, by omega⟩)
  | (intro hc <;> (try (exfalso; omega)))
  | (refine CallP.fE (h1) (by first | rfl | fail) (by first | simp [hx, hca] <;> rfl | fail) ?_; (try simp [hcl, hx, hca]))
  | fail)
   (refine EndOK.val (.inr rfl) ?_; simp [zaz, zaf, zas, Tryz.results147])
   rw [zif hb hx hp];omega
theorem zfk (l : List (Int)) (f : FuncId) (caps : List U) (p : Int -> Bool) (hf : ∀ n ∈ l, Fun Tryz.prog f (zqg n :: caps.map .u) (· = .u (.bool (p n)))) (hcl : zal Tryz.prog f = true)
  (hca : ∀ o, zcx o (caps.map .u) = some (caps.map .u, [])) (hcb : ∀ o, zbO o (caps.map .u) = some (caps, [])) : Fun Tryz.prog 82 [.u (zcO l), .fnc (.func f) (caps.map .u)] (· = .u (.bool (l.any p))) := by
 have h1 := zlW l f caps p hf hcl hca
 (refine Fun.of_body Tryz.func82 rfl (by simp) fun Γ hn => ?_); simp only [entry, ziC, ziN, maC, maN, oA, Tryz.ntmps82]
 simp only [zcO] at h1 ⊢
 repeat' (first
  | ((first | refine zag ?_ | refine zaj ?_ | refine zah ?_ | fail); simp [hcb])
  | (refine zar ?_; simp only [zap])
  | (refine CallP.fE (h1) (by first | rfl | fail) (by first | simp [hcb] <;> rfl | fail) ?_; (try simp [hcl, hcb]))
  | fail)
 (refine EndOK.val (.inr rfl) ?_; simp [zaz, zaf, zas, Tryz.results82])
 have h2 := zig p l 0 (by omega);rw [Bool.eq_iff_iff];simpa using h2
end Go.Proofs.YtepiegcjnaohjaaGreatDoor
namespace Go.Proofs.YtepiegcjnaohjaaGreatDoor
open Go Go.VL
structure Vo where
 mark : Int
 who : Int
 yes : Bool
 day : Int
def voU (l : List Vo) : U := .sl (l.map fun v => [.int .i64 v.mark, .int .i64 v.who, .bool v.yes, .int .i64 v.day])
def voR (l : List Vo) : List (List D) := l.map fun v => [.u (.int .i64 v.mark), .u (.int .i64 v.who), .u (.bool v.yes), .u (.int .i64 v.day)]
theorem zc1 (l : List Vo) : (voR l).length = l.length := by simp [voR]
theorem zky (l : List Vo) : rowsD (l.map fun v => [U.int .i64 v.mark, .int .i64 v.who, .bool v.yes, .int .i64 v.day]) = voR l := by simp [rowsD, voR, Function.comp_def]
theorem zgh (l : List Vo) : zcG (voR l) = some (l.map fun v => [U.int .i64 v.mark, .int .i64 v.who, .bool v.yes, .int .i64 v.day]) := by rw [<- zky]; simp
theorem zbB (l) : zbp (voR l) = True := by rw [<- zky]; simp
theorem zbo (n : Nat) (l) : (∀ x ∈ voR l, ∀ y ∈ x, D.under n y = true) ↔ True := by
 refine ⟨fun _ => trivial, fun _ x hx y hy => ?_⟩;obtain ⟨b, _, rfl⟩ := List.mem_map.1 hx;simp at hy;rcases hy with rfl | rfl | rfl | rfl <;> simp [D.under]
theorem zhR (l : List Vo) : zjO 4 (voR l) := fun r hr => by obtain ⟨t, _, rfl⟩ := List.mem_map.1 hr; rfl
theorem zhQ (l : List Vo) (v : Vo) : voR l ++ [[.u (.int .i64 v.mark), .u (.int .i64 v.who), .u (.bool v.yes), .u (.int .i64 v.day)]] = voR (l ++ [v]) := by simp [voR]
theorem zjQ (S : D -> Option U) (l : List Vo) : (voR l).map (fun r => r.map (frzS S)) = voR l := by simp [voR, frzS]
def zc8 (l : List Int) : Bool := decide (l ≠ []) && decide (l.length <= 60) && decide l.Nodup && l.all fun x => decide (0 <= x) && decide (x < 200)
theorem zgj {l : List Int} (h0 : l ≠ []) (h1 : l.length <= 60) (h2 : l.Nodup) (h3 : ∀ y ∈ l, 0 <= y /\ y < 200) : zc8 l = true := by
 simp only [zc8, Bool.and_eq_true, decide_eq_true_eq, List.all_eq_true];exact ⟨⟨⟨h0, h1⟩, h2⟩, h3⟩
theorem zlf {l : List Int} (h : zc8 l = true) : l ≠ [] /\ l.length <= 60 /\ l.Nodup /\ ∀ y ∈ l, 0 <= y /\ y < 200 := by
 simp only [zc8, Bool.and_eq_true, decide_eq_true_eq, List.all_eq_true] at h;exact ⟨h.1.1.1, h.1.1.2, h.1.2, h.2⟩
theorem zex {l : List Int} {i : Nat} {x : Int} (hx : l[i]? = some x) (h : (x < 0 \/ 200 <= x) \/ x ∈ l.take i) : zc8 l = false := by
 cases hv : zc8 l with
 | false => rfl
 | true =>
  obtain ⟨_, _, h2, h3⟩ := zlf hv;exfalso;rcases h with h | h
  ·have := h3 x (List.mem_of_getElem? hx); omega
  ·obtain ⟨hi, rfl⟩ := lGE.1 hx;have e := List.take_append_drop i l;rw [<- e, List.nodup_append] at h2;exact h2.2.2 _ h _ (List.mem_iff_getElem?.2 ⟨0, by rw [List.getElem?_drop]; exact List.getElem?_eq_getElem hi⟩) rfl
def zrc (l : List Int) (x : Int) : Int := match l.findIdx? (· = x) with | none => -1 | some i => i
theorem zjq {l : List Int} {x : Int} (h : x ∉ l) : l.findIdx? (· = x) = none := by
 rw [List.findIdx?_eq_none_iff]; intro y hy; simp; intro e; exact h (e ▸ hy)
theorem zo7 {l : List Int} {x : Int} {i : Nat} (hx : l[i]? = some x) (h : x ∉ l.take i) : l.findIdx? (· = x) = some i := by
 rw [List.findIdx?_eq_some_iff_getElem];obtain ⟨hi, e⟩ := lGE.1 hx;refine ⟨hi, by simp [e], fun j hj => ?_⟩;simp;intro e2;exact h (List.mem_iff_getElem?.2 ⟨j, by rw [List.getElem?_take_of_lt hj, List.getElem?_eq_getElem (by omega), e2]⟩)
def cnt (members : List Int) (until_ : Int) : List Int -> List Vo -> List Vo
 | _, [] => []
 | seen, v :: r => if until_ < v.day \/ v.who ∈ seen \/ v.who ∉ members then cnt members until_ seen r else v :: cnt members until_ (seen ++ [v.who]) r
def znW (members : List Int) (until_ : Int) (l : List Vo) : List Vo := if zc8 members = true then cnt members until_ [] l else []
theorem zkl (members : List Int) (u : Int) : ∀ (a b : List Vo) (seen : List Int), cnt members u seen (a ++ b) = cnt members u seen a ++ cnt members u (seen ++ (cnt members u seen a).map (·.who)) b
 | [], b, seen => by simp [cnt]
 | v :: a, b, seen => by
  rw [List.cons_append, cnt, cnt];split
  ·exact zkl members u a b seen
  ·rw [zkl members u a b]; simp
def zg4 (l : List Int) : List (Key × List U) := l.map fun g => (Key.i .i64 g, [U.bool true])
theorem zhv (g : Int) : ∀ l : List Int, zbX (zg4 l) (.i .i64 g) = if g ∈ l then some [U.bool true] else none
 | [] => rfl
 | a :: l => by
  have := zhv g l;simp only [zg4] at this;simp only [zg4, List.map_cons, zbX, this, List.mem_cons, Key.i.injEq, true_and];by_cases h : g = a <;> simp [h]
theorem zmz {g : Int} {l : List Int} (h : g ∉ l) : zdd (zg4 l) (.i .i64 g) [U.bool true] = zg4 (l ++ [g]) := by
 rw [zgk]
 ·simp [zg4]
 ·intro p hp;obtain ⟨a, ha, rfl⟩ := List.mem_map.1 hp;intro e;simp at e;exact h (e ▸ ha)
def zjP (l : List Vo) : Nat := (l.filter (·.yes)).length
end Go.Proofs.YtepiegcjnaohjaaGreatDoor
namespace Go.Proofs.YtepiegcjnaohjaaGreatDoor
open Go Go.VL
theorem zpf {members : List Int} {u : Int} {l : List Vo} {i : Nat} {v : Vo} (h : l[i]? = some v) : cnt members u [] (l.take (i + 1)) = cnt members u [] (l.take i) ++ (if u < v.day \/ v.who ∈ (cnt members u [] (l.take i)).map (·.who) \/ v.who ∉ members then [] else [v]) := by
 obtain ⟨hi, rfl⟩ := lGE.1 h;rw [List.take_succ_eq_append_getElem hi, zkl, List.nil_append]
 congr 1
theorem zkk (members : List Int) (u : Int) : ∀ (l : List Vo) (seen : List Int), (cnt members u seen l).length <= l.length
 | [], _ => by simp [cnt]
 | v :: l, seen => by
  rw [cnt];split
  ·have := zkk members u l seen; simp; omega
  ·have := zkk members u l (seen ++ [v.who]); simp; omega
theorem zoi {l : List Vo} {i : Nat} {v : Vo} (h : l[i]? = some v) : zjP (l.take (i + 1)) = zjP (l.take i) + (if v.yes = true then 1 else 0) := by
 obtain ⟨hi, rfl⟩ := lGE.1 h;rw [List.take_succ_eq_append_getElem hi, zjP, zjP, List.filter_append, List.length_append];split <;> simp_all
theorem zpF (l : List Vo) : zjP l <= l.length := List.length_filter_le _ _
end Go.Proofs.YtepiegcjnaohjaaGreatDoor
namespace Go.Proofs.YtepiegcjnaohjaaGreatDoor
open Go Go.VL
structure Sp where
 mark : Int
 frm : Int
 to : Int
structure En where
 author : Int
 seq : Int
 day : Int
 knows : List Int
 kind : Int
 circle : Int
 who : Int
 n : Int
 m : Int
 ref : Int
 keys : List Int
 spans : List Sp
 text : List UInt8
def zd8 (e : En) : List U := [.int .i64 e.author, .int .i64 e.seq, .int .i64 e.day, .sl (e.knows.map fun x => [.int .i64 x]), .int .i64 e.kind, .int .i64 e.circle, .int .i64 e.who, .int .i64 e.n, .int .i64 e.m, .int .i64 e.ref,
 .sl (e.keys.map fun x => [.int .i64 x]), .sl (e.spans.map fun s => [.int .i64 s.mark, .int .i64 s.frm, .int .i64 s.to]), .str e.text]
def zp8 (n : Int) : Bool := decide (0 <= n) && decide (n <= 1073741824)
def zrC (n : Int) : Bool := decide (0 <= n) && decide (n < 200)
def zih (s : List UInt8) (r : Nat) : Bool := decide (0 <= Lib.indexByte s r.toUInt8)
theorem Fun.zry {P : Program} {f : FuncId} {ds : List D} {u : U} (h : ∀ (k : Kr) (own : Nat -> Prop) (w : World) (vs : Array Value), Sat k own [] w -> RepL k ds vs -> ∃ v, RepU k.mem u v /\ Calls P f vs w fun e w' => e = .returned v /\ w' = w) :
  Fun P f ds (· = .u u) := by
 intro k own w vs hsat hhdr hown hrep;obtain ⟨v, hv, hc⟩ := h k own w vs hsat hrep;refine hc.mono ?_;rintro e w' ⟨rfl, rfl⟩;exact ⟨v, .u u, [], 0, k, rfl, ⟨.refl _, fun i hi => hhdr i hi, fun _ _ _ e => .inl e, hown, rfl, rfl, rfl, Nat.le_refl _, fun x hx => rfl⟩, ⟨fun x o v hm => hsat.mem x o v hm, fun j ob hj => by simp [getK] at hj, fun x y ox oy g g' z hx => by simp [getK] at hx⟩, hhdr, Nat.le_refl _, .u _ _ hv, by simp [zas], rfl⟩
theorem zmC {k : Kr} {d e : D} {vs : Array Value} (h : RepL k [d, e] vs) : ∃ v u, vs = #[v, u] /\ Rep k d v /\ Rep k e u := by
 obtain ⟨h1, h2⟩ := h;have hs : vs.size = 2 := by simpa using h1
 refine ⟨vs.getD 0 undef, vs.getD 1 undef, ?_, h2 0 d rfl, h2 1 e rfl⟩;apply Array.ext_getElem?;intro i
 match i with
 | 0 => simp [show 0 < vs.size by omega]
 | 1 => simp [show 1 < vs.size by omega]
 | i + 2 => rw [Array.getElem?_eq_none (by omega), Array.getElem?_eq_none (by simp)]
theorem zoC (s : List UInt8) (r : Nat) (hr : r < 128) : Fun Tryz.prog 224 [.u (.str s), .u (.int .i32 r)] (· = .u (.bool (zih s r))) :=
 Fun.zry fun k own w vs hsat hrep => by
  obtain ⟨v1, v2, rfl, h1, h2⟩ := zmC hrep;have h1 := zel h1;have h2 := zbv h2;subst h1 h2;exact ⟨_, .bool _, Tryz.strings_ContainsRune_ascii ⟨s.toArray⟩ r w (by omega) (by omega)⟩
def zrE (l : List Int) : Bool := decide (∀ i : Fin (l.length - 1), l.getD i 0 < l.getD (i + 1) 0)
def zS : List UInt8 := [99, 119, 110, 109, 114, 107, 115, 116]
def usesL : List (List UInt8) := [[107, 116], [99], [99], [99, 119, 110, 109], [110, 114], [119, 115], [119, 109, 115], [99, 119, 109, 114, 115], [99, 110, 109, 114], [110, 114], [99, 110, 109, 116], [114, 116], [110, 114], [114], [99, 116], [119, 110], [99, 109], [99, 107], [110, 109, 114], [110, 109, 114], [110, 109, 114]]
def zkU (e : En) : List Bool := [decide (e.circle = 0), decide (e.who = 0), decide (e.n = 0), decide (e.m = 0), decide (e.ref = -1), decide ((e.keys.length : Int) = 0), decide ((e.spans.length : Int) = 0), decide (e.text = [])]
def zoI (e : En) (i : Nat) : Bool := (zkU e).getD i true || zih (usesL.getD e.kind.toNat []) (zS.getD i 0).toNat
def zgt (e : En) : Bool := (List.range 8).all (zoI e)
theorem zmT {e : En} {i : Nat} (hi : i < 8) (h : zoI e i = false) : zgt e = false := by
 rw [zgt, List.all_eq_false];exact ⟨i, List.mem_range.2 hi, by simp [h]⟩
theorem zlw {e : En} (h : ∀ j, j < 8 -> zoI e j = true) : zgt e = true := by
 rw [zgt, List.all_eq_true];exact fun i hi => h i (List.mem_range.1 hi)
end Go.Proofs.YtepiegcjnaohjaaGreatDoor
namespace Go.Proofs.YtepiegcjnaohjaaGreatDoor
open Go Go.VL
structure Tok where
 kind : Int
 text : List UInt8
 n : Int
 pos : Int
 deriving DecidableEq, Inhabited
def Tok.row (t : Tok) : List U := [.int .i64 t.kind, .str t.text, .int .i64 t.n, .int .i64 t.pos]
def zbT (c : UInt8) : Bool := decide (c.toNat = 32) || decide (c.toNat = 9) || decide (c.toNat = 10)
def zcN (c : UInt8) : Bool := zcU c || zbe c
def zbd (s : List UInt8) : Int := s.foldl (fun n c => 10 * n + ((c.toNat : Int) - 48)) 0
def zfw (s : List UInt8) : Option Int :=
 if s = [] \/ zce zbe s ≠ s.length \/ (s.head? = some 48 /\ s ≠ [48]) \/ 13 < s.length then none else if 1099511627776 < zbd s then none else some (zbd s)
theorem zeu (s : List UInt8) (c : UInt8) : zbd (s ++ [c]) = 10 * zbd s + ((c.toNat : Int) - 48) := by simp [zbd]
theorem zfj : ∀ (n : Nat) (s : List UInt8), s.length = n -> (∀ c ∈ s, zbe c = true) -> 0 <= zbd s /\ zbd s < 10 ^ n
 | 0, s, h, _ => by have := List.eq_nil_of_length_eq_zero h; subst this; simp [zbd]
 | n + 1, s, h, hd => by
  have hne : s ≠ [] := fun e => by rw [e] at h; simp at h
  obtain ⟨t, c, rfl⟩ : ∃ t c, s = t ++ [c] := ⟨s.dropLast, s.getLast hne, (List.dropLast_concat_getLast hne).symm⟩;have h1 := zfj n t (by simpa using h) (fun x hx => hd x (by simp [hx]));have h2 := hd c (by simp);simp only [zbe, Bool.and_eq_true, decide_eq_true_eq] at h2;rw [zeu];have : (10 : Int) ^ (n + 1) = 10 * 10 ^ n := by rw [Int.pow_succ]; omega
  omega
end Go.Proofs.YtepiegcjnaohjaaGreatDoor
namespace Go.Proofs.YtepiegcjnaohjaaGreatDoor
open Go Go.VL
def signsL : List (List UInt8) := [[61, 61], [59], [44], [61], [60], [43], [45], [42], [47], [40], [41]]
def zg6 (s : List UInt8) : Except Int Tok := match s with
 | [] => .error 0
 | c :: r => if zcU c = true then
   if ziH ((c :: r).take (zce zcN (c :: r))) = true then .ok ⟨1, (c :: r).take (zce zcN (c :: r)), 0, 0⟩ else .error 13
  else if zbe c = true then
   match zfw ((c :: r).take (zce zbe (c :: r))) with | some n => .ok ⟨2, (c :: r).take (zce zbe (c :: r)), n, 0⟩ | none => .error 3
  else match signsL.find? fun x => x.isPrefixOf (c :: r) with | some x => .ok ⟨3, x, 0, 0⟩ | none => .error 11
def nextD (s : List UInt8) : D := match zg6 s with | .ok t => .tup [.u (.agg [.int .i64 t.kind, .str t.text, .int .i64 t.n, .int .i64 t.pos]), .u (.int .i64 0)] | .error e => .tup [.u (.agg [.int .i64 0, .str [], .int .i64 0, .int .i64 0]), .u (.int .i64 e)]
end Go.Proofs.YtepiegcjnaohjaaGreatDoor
namespace Go.Proofs.YtepiegcjnaohjaaGreatDoor
open Go Go.VL Go.ChangeShapes Go.WideShapes Go.ChangeAt Go.RowKit
theorem Tryz.own : ownKnob Tryz.prog.godebug = none := by kernel_rfl
theorem Tryz.zqB : laidOutB Tryz.prog = true := by kernel_rfl
theorem Tryz.zvJ : zhn Tryz.prog = true := by kernel_rfl
theorem zpM : ∀ (m : Nat) (r : List U), SizeOf.sizeOf r <= m -> HasRow Tryz.prog 55 r -> ∃ e : Exp, r = e.row
 | 0, r, hm, _ => by cases r <;> simp at hm
 | m + 1, r, hm, h => by
  obtain ⟨rs, hr, h⟩ := h.of_struct ztP
  match rs, h with
  | [a, b, c, d, f], h =>
   obtain ⟨h1, h2, h3, h4, h5, _⟩ := h;obtain ⟨x, rfl, _⟩ := h1.of_int io3;obtain ⟨y, rfl, _⟩ := h2.of_int io3;obtain ⟨z, rfl, _⟩ := h3.of_int io3;obtain ⟨s, rfl, _⟩ := h4.of_str (by simp);obtain ⟨rows, rfl, _, h6⟩ := h5.of_slice zt9;have hsz : ∀ q ∈ rows, SizeOf.sizeOf q <= m := fun q hq => by
    have := List.sizeOf_lt_of_mem hq;rw [hr] at hm;simp at hm;omega
   obtain ⟨l, rfl, _⟩ := rows_list Exp.row (fun _ => True) (rows := rows) fun q hq => by
    obtain ⟨e, he⟩ := zpM m q (hsz q hq) (h6 q hq);exact ⟨e, he, trivial⟩
   exact ⟨.mk x y z s l, by rw [hr, Exp.row_eq]; rfl⟩
theorem zfE {r : List U} (h : HasRow Tryz.prog 55 r) : ∃ e : Exp, r = [.int .i64 e.op, .int .i64 e.n, .int .i64 e.unit, .str e.s, .sl (e.args.map Exp.row)] := by
 obtain ⟨e, rfl⟩ := zpM _ r (Nat.le_refl _) h;exact ⟨e, e.row_eq⟩
theorem zq9 {r : List U} (h : HasRow Tryz.prog 137 r) : ∃ l : Let, r = [.str l.name, .int .i64 l.body.op, .int .i64 l.body.n, .int .i64 l.body.unit, .str l.body.s, .sl (l.body.args.map Exp.row)] /\ True := by
 obtain ⟨rs, hr, h⟩ := h.of_struct zrI
 match rs, h with
 | [a, b], h =>
  obtain ⟨h1, h2, _⟩ := h;obtain ⟨x, rfl, _⟩ := h1.of_str (by simp);obtain ⟨e, rfl⟩ := zfE h2;exact ⟨⟨x, e⟩, by rw [hr]; rfl, trivial⟩
theorem zjg {u : U} (h : ArgU Tryz.prog 3 u) : ∃ n, u = .int .i64 n := by
 obtain ⟨n, h1, _⟩ := (h.one (by simp) (by simp)).of_int io3;exact ⟨n, by simpa using h1⟩
end Go.Proofs.YtepiegcjnaohjaaGreatDoor
namespace Go.Proofs.YtepiegcjnaohjaaGreatDoor
open Go Go.VL
attribute [local simp] zc6 zb2 evPure opd uOf zaC St.put St.at getK binD binI binS binB nilD aggD zhd zir lookD lookR zcB rangeS Go.VL.nextD Go.VL.nextS zcD ziF ziE zgE zbX mkV za8 zbj zbi zbh zc0 zbc zbq zbC mapEff zdd zf0 Key.kk shiftI arith unD convD zd4 loadD cellsAt fieldAddrD fieldD indexAddrD indexSlD arrAddr indexD sliceD cutD lenD minmaxD nilCheckD buildD fillD zbS zde zeV setAll zcM zeM zcv zhH zcr St.add zaS zbP rowsOf zdS zcw zak zac zaa zbm zcX zaQ entry zbI zbR valD zbU zcx zg2 zdv zdw zbZ zbO zaw zaR zbs delAll effD St.effS zdb zbk za1 zdc zbl za3 zcf za2 zaV zcg zc7 zbJ zcd zbt zcb zcc zau mkD zbw zbD zbN zaw zcu D.ids Op.operands Call.operands zbz makeIfD makeFuncD typeAssertD zio zdI zdJ zhX zcC IntKind.bits zcG List.take_of_length_le List.range_succ
attribute [local irreducible] V G H HD HD2 zap Eff CallP CallV EndOK Fun Ret FinOK LoopI LoopW EndW
theorem zlU (l : List Int) (v : Int) (hl : l.length <= 1000000) : Fun Tryz.prog 196 [.u (zcO l), .u (.int .i64 v)] (· = .u (.int .i64 (zrc l v))) := by
 obtain ⟨R, hR⟩ : ∃ R, R = zrc l v := ⟨_, rfl⟩;rw [<- hR];unfold zcO
 (refine Fun.of_body Tryz.func196 rfl (by simp) fun Γ hn => ?_); simp only [entry, ziC, ziN, maC, maN, oA, Tryz.ntmps196]
 repeat' (first
  | ((first | refine zag ?_ | refine zaj ?_ | refine zah ?_ | refine zao ?_ | fail); simp)
  | fail)
 refine zbH (α := { i : Nat // i <= l.length /\ v ∉ l.take i }) [0, 1, 7] (fun i => [(8, .u (.int .i64 i.1))]) (fun i => l.length - i.1) ⟨0, by omega, by simp⟩ ?_ ?_
 ·exact (Wk.env rfl rfl rfl (by simp [wkE, St.lp, zam, zaa, getK] <;> (try (intros; simp_all; done)) <;> (try (intros; omega)) <;> (try grind)))
 rintro ⟨i, hi, hb⟩;simp [St.lp, St.only, zam, zaa, getK];rcases hx : l[i]? with _ | x
 ·have hge : l.length <= i := by simpa using hx
  obtain rfl : i = l.length := by omega
  rw [List.take_length] at hb;have e : R = -1 := by rw [hR, zrc, zjq hb]
  rw [e]
  repeat' (first
  | ((first | refine zag ?_ | refine zaj ?_ | refine zah ?_ | fail); simp [hx])
  | (refine zar ?_; simp only [zap])
  | (refine zaZ ?_; simp [zap])
  | fail)
  (refine EndOK.val (.inr rfl) ?_; simp [zaz, zaf, zas, Tryz.results196])
 ·have hlt : i < l.length := (lGE.1 hx).1;by_cases he : v = x
  ·have e : R = i := by rw [hR, zrc, zo7 (he ▸ hx) hb]
   rw [e]
   repeat' (first
  | ((first | refine zag ?_ | refine zaj ?_ | refine zah ?_ | refine zai ?_ | fail); simp [hx, he])
  | ((first | refine zar ?_ | refine zaq ?_ | fail); simp only [zap])
  | (refine ⟨?_, by omega⟩)
  | (intro hc <;> (try (exfalso; omega)))
  | fail)
   (refine EndOK.val (.inr rfl) ?_; simp [zaz, zaf, zas, Tryz.results196])
  ·have he' : ¬ x = v := fun h => he h.symm
   repeat' (first
  | ((first | refine zag ?_ | refine zaj ?_ | fail); simp [hx, he, he'])
  | (refine ⟨by omega, ?_⟩)
  | ((first | refine zah ?_ | refine zai ?_ | refine zat ?_ | fail); simp [hx, he, he'])
  | (refine zaq ?_; simp only [zap])
  | (refine ⟨?_, by omega⟩)
  | (intro hc <;> (try (exfalso; omega)))
  | fail)
   refine LoopW.next ⟨i + 1, by omega, fun hm => ?_⟩ (by simp; omega) ?_
   ·rw [List.take_succ, hx] at hm;rcases List.mem_append.1 hm with h | h
    ·exact hb h
    ·simp at h; exact he h
   exact (Wk.env rfl rfl rfl (by simp [wkE, St.lp, zam, zaa, getK] <;> (try (intros; simp_all; done)) <;> (try (intros; omega)) <;> (try grind)))
theorem zfl (l : List Int) (v : Int) (hl : l.length <= 1000000) : Fun Tryz.prog 120 [.u (zcO l), .u (.int .i64 v)] (· = .u (.bool (decide (v ∈ l)))) := by
 have h := zlU l v hl;unfold zrc at h;by_cases hm : v ∈ l
 ·obtain ⟨i, hi⟩ : ∃ i, l.findIdx? (· = v) = some i := by
   cases hf : l.findIdx? (· = v) with
   | none => rw [List.findIdx?_eq_none_iff] at hf; have := hf v hm; simp at this
   | some i => exact ⟨i, rfl⟩
  rw [hi] at h;rw [decide_eq_true hm]
  (refine Fun.of_body Tryz.func120 rfl (by simp) fun Γ hn => ?_); simp only [entry, ziC, ziN, maC, maN, oA, Tryz.ntmps120]
  repeat' (first
  | ((first | refine zag ?_ | refine zaj ?_ | refine zah ?_ | fail); simp)
  | (refine zar ?_; simp only [zap])
  | (refine CallP.fE (h) (by first | rfl | fail) (by first | (simp; done) | (simp; rfl) | fail) ?_; (try simp))
  | fail)
  (refine EndOK.val (.inr rfl) ?_; simp [zaz, zaf, zas, Tryz.results120])
 ·rw [zjq hm] at h;rw [decide_eq_false hm]
  (refine Fun.of_body Tryz.func120 rfl (by simp) fun Γ hn => ?_); simp only [entry, ziC, ziN, maC, maN, oA, Tryz.ntmps120]
  repeat' (first
  | ((first | refine zag ?_ | refine zaj ?_ | refine zah ?_ | fail); simp)
  | (refine zar ?_; simp only [zap])
  | (refine CallP.fE (h) (by first | rfl | fail) (by first | (simp; done) | (simp; rfl) | fail) ?_; (try simp))
  | fail)
  (refine EndOK.val (.inr rfl) ?_; simp [zaz, zaf, zas, Tryz.results120])
theorem zld (l : List Int) (hl : l.length <= 1000000) : Fun Tryz.prog 58 [.u (zcO l)] (· = .u (.bool (zc8 l))) := by
 obtain ⟨R, hR⟩ : ∃ R, R = zc8 l := ⟨_, rfl⟩;rw [<- hR];by_cases h0 : l.length = 0
 ·have e : l = [] := List.eq_nil_of_length_eq_zero h0;subst e;have e2 : R = false := by rw [hR]; rfl
  rw [e2];simp only [zcO, List.map_nil]
  (refine Fun.of_body Tryz.func58 rfl (by simp) fun Γ hn => ?_); simp only [entry, ziC, ziN, maC, maN, oA, Tryz.ntmps58]
  repeat' (first
  | ((first | refine zag ?_ | refine zaj ?_ | refine zah ?_ | refine zai ?_ | fail); simp)
  | (refine zar ?_; simp only [zap])
  | fail)
  (refine EndOK.val (.inr rfl) ?_; simp [zaz, zaf, zas, Tryz.results58])
 have h0' : ¬ (l.length : Int) = 0 := by omega
 have hne0 : l ≠ [] := fun e => h0 (by rw [e]; rfl);unfold zcO;by_cases h60 : 60 < l.length
 ·have h60' : (60 : Int) < l.length := by omega
  have e2 : R = false := by rw [hR, zc8]; simp; omega
  rw [e2]
  (refine Fun.of_body Tryz.func58 rfl (by simp) fun Γ hn => ?_); simp only [entry, ziC, ziN, maC, maN, oA, Tryz.ntmps58]
  repeat' (first
  | ((first | refine zag ?_ | refine zaj ?_ | refine zah ?_ | refine zai ?_ | fail); simp [h0, h0', h60', hne0])
  | (refine zar ?_; simp only [zap])
  | fail)
  (refine EndOK.val (.inr rfl) ?_; simp [zaz, zaf, zas, Tryz.results58])
 have h60' : ¬ (60 : Int) < l.length := by omega
 (refine Fun.of_body Tryz.func58 rfl (by simp) fun Γ hn => ?_); simp only [entry, ziC, ziN, maC, maN, oA, Tryz.ntmps58]
 repeat' (first
  | ((first | refine zag ?_ | refine zaj ?_ | refine zah ?_ | refine zai ?_ | refine zao ?_ | fail); simp [h0, h0', h60', hne0])
  | (refine zaq ?_; simp only [zap])
  | fail)
 refine zbH (α := { i : Nat // i <= l.length /\ (l.take i).Nodup /\ ∀ y ∈ l.take i, 0 <= y /\ y < 200 }) [0, 13, 14] (fun i => [(15, .u (.int .i64 i.1))]) (fun i => l.length - i.1) ⟨0, by omega, by simp, by simp⟩ ?_ ?_
 ·exact (Wk.env rfl rfl rfl (by simp [wkE, St.lp, zam, zaa, getK] <;> (try (intros; simp_all; done)) <;> (try (intros; omega)) <;> (try grind)))
 rintro ⟨i, hi, hd, hb⟩;simp [St.lp, St.only, zam, zaa, getK];rcases hx : l[i]? with _ | x
 ·have hge : l.length <= i := by simpa using hx
  obtain rfl : i = l.length := by omega
  rw [List.take_length] at hd hb;have e2 : R = true := by rw [hR]; exact zgj hne0 (by omega) hd hb
  rw [e2]
  repeat' (first
  | ((first | refine zag ?_ | refine zaj ?_ | refine zah ?_ | fail); simp [hx])
  | (refine zar ?_; simp only [zap])
  | (refine zaZ ?_; simp [zap])
  | fail)
  (refine EndOK.val (.inr rfl) ?_; simp [zaz, zaf, zas, Tryz.results58])
 ·have hlt : i < l.length := (lGE.1 hx).1;have hle : (i : Int) <= l.length := by omega
  have hct := zfl (l.take i) x (by rw [List.length_take]; omega);simp only [zcO, List.map_take] at hct;by_cases hr : x < 0 \/ 200 <= x
  ·have e2 : R = false := by rw [hR]; exact zex hx (.inl hr)
   rw [e2];rcases hr with hr | hr
   ·repeat' (first
  | ((first | refine zag ?_ | refine zaj ?_ | refine zah ?_ | refine zai ?_ | fail); simp [hx, hr])
  | ((first | refine zar ?_ | refine zaq ?_ | fail); simp only [zap])
  | (refine ⟨?_, by omega⟩)
  | (intro hc <;> (try (exfalso; omega)))
  | fail)
    (refine EndOK.val (.inr rfl) ?_; simp [zaz, zaf, zas, Tryz.results58])
   ·have hr2 : ¬ x < 0 := by omega
    repeat' (first
  | ((first | refine zag ?_ | refine zaj ?_ | refine zah ?_ | refine zai ?_ | fail); simp [hx, hr, hr2])
  | ((first | refine zar ?_ | refine zaq ?_ | fail); simp only [zap])
  | (refine ⟨?_, by omega⟩)
  | (intro hc <;> (try (exfalso; omega)))
  | fail)
    (refine EndOK.val (.inr rfl) ?_; simp [zaz, zaf, zas, Tryz.results58])
  ·have hr1 : ¬ x < 0 := by omega
   have hr2 : ¬ 200 <= x := by omega
   by_cases hm : x ∈ l.take i
   ·rw [decide_eq_true hm] at hct;have e2 : R = false := by rw [hR]; exact zex hx (.inr hm)
    rw [e2]
    repeat' (first
  | ((first | refine zag ?_ | refine zaj ?_ | refine zah ?_ | refine zai ?_ | fail); simp [hx, hr1, hr2, hle])
  | ((first | refine zar ?_ | refine zaq ?_ | fail); simp only [zap])
  | (refine ⟨?_, by omega⟩)
  | (intro hc <;> (try (exfalso; omega)))
  | (refine CallP.fE (hct) (by first | rfl | fail) (by first | simp [hx, hr1, hr2, hle] <;> rfl | fail) ?_; (try simp [hx, hr1, hr2, hle]))
  | fail)
    (refine EndOK.val (.inr rfl) ?_; simp [zaz, zaf, zas, Tryz.results58])
   ·rw [decide_eq_false hm] at hct
    repeat' (first
  | ((first | refine zag ?_ | refine zaj ?_ | fail); simp [hx, hr1, hr2, hle])
  | (refine ⟨by omega, ?_⟩)
  | ((first | refine zah ?_ | refine zai ?_ | refine zat ?_ | fail); simp [hx, hr1, hr2, hle])
  | (refine zaq ?_; simp only [zap])
  | (refine ⟨?_, by omega⟩)
  | (intro hc <;> (try (exfalso; omega)))
  | (refine CallP.fE (hct) (by first | rfl | fail) (by first | simp [hx, hr1, hr2, hle] <;> rfl | fail) ?_; (try simp [hx, hr1, hr2, hle]))
  | fail)
    refine LoopW.next ⟨i + 1, by omega, ?_, fun y hy => ?_⟩ (by simp; omega) ?_
    ·rw [List.take_succ, hx, List.nodup_append];exact ⟨hd, by simp, fun a h1 b h2 => by simp at h2; subst h2; intro e; exact hm (e ▸ h1)⟩
    ·rw [List.take_succ, hx] at hy;rcases List.mem_append.1 hy with h | h
     ·exact hb y h
     ·simp at h; subst h; omega
    exact (Wk.env rfl rfl rfl (by simp [wkE, St.lp, zam, zaa, getK] <;> (try (intros; simp_all; done)) <;> (try (intros; omega)) <;> (try grind)))
theorem zkj (members : List Int) (l : List Vo) (u : Int) (hm : members.length <= 1000000) (hl : l.length <= 1000000) : Fun Tryz.prog 60 [.u (zcO members), .u (voU l), .u (.int .i64 u)] (· = .u (voU (znW members u l))) := by
 have hv := zld members hm;unfold znW;cases hvm : zc8 members with
 | false =>
  rw [hvm] at hv;rw [if_neg (by simp)];simp only [zcO, voU, List.map_nil] at hv ⊢
  (refine Fun.of_bodyW Tryz.func60 rfl (by simp) fun Γ hn => ?_); simp only [entry, ziC, ziN, maC, maN, oA, Tryz.ntmps60]
  repeat' (first
  | ((first | refine zag ?_ | refine zaj ?_ | refine zah ?_ | refine zai ?_ | fail); simp)
  | (refine zar ?_; simp only [zap])
  | (refine CallP.fE (hv) (by first | rfl | fail) (by first | (simp; done) | (simp; rfl) | fail) ?_; (try simp))
  | fail)
  refine EndW.norm (EndW.here ?_)
  (refine EndOK.val (.inr rfl) ?_; simp [zaz, zaf, zas, Tryz.results60, zaD, zaE, zcS, zcT, frz, zbg, frzS, fv, za5, za6, za7, zaH, zay, zav, zbG, zb1, zbV, za9])
 | true =>
  rw [hvm] at hv;rw [if_pos rfl];have hct := fun x => zfl members x hm;simp only [zcO, voU] at hv hct ⊢
  (refine Fun.of_bodyW Tryz.func60 rfl (by simp) fun Γ hn => ?_); simp only [entry, ziC, ziN, maC, maN, oA, Tryz.ntmps60]
  repeat' (first
  | ((first | refine zag ?_ | refine zaj ?_ | refine zah ?_ | refine zai ?_ | refine zao ?_ | fail); simp)
  | (refine zaq ?_; simp only [zap])
  | (refine CallP.fE (hv) (by first | rfl | fail) (by first | (simp; done) | (simp; rfl) | fail) ?_; (try simp))
  | fail)
  refine zqY _ (Wk.own 8 49 4 (by decide) rfl) ?_;simp [St.own];refine zcq (α := { i : Nat // i <= l.length }) [0, 2, 7, 15, 16] (fun i => [(8, .vec 1 (cnt members u [] (l.take i.1)).length), (17, .u (.int .i64 i.1))])
   (fun i => [(0, .map (.i .i64) false (zfW (zg4 ((cnt members u [] (l.take i.1)).map (·.who))))), (1, .vec 49 4 (voR (cnt members u [] (l.take i.1))))]) 2 (fun i => l.length - i.1) ⟨0, by omega⟩ ?_ ?_
  ·exact (Wk.cut rfl (by simp [hn, St.lp]) (by simp [wkO, St.lp, zaa, getK, Ob.under, D.under, zad, zae, cnt, voR, zg4, zfW]) (by simp [wkU, St.lp, zam, zaa, getK, D.under, cnt, voR, zg4, zfW]) (by simp [wkE, St.lp, zam, zaa, getK, cnt, voR, zg4, zfW] <;> (try (intros; simp_all; done)) <;> (try (intros; omega)) <;> (try grind)))
  rintro ⟨i, hi⟩;simp [St.lp, St.only, zam, zaa, getK];rcases hx : l[i]? with _ | v
  ·have hge : l.length <= i := by simpa using hx
   obtain rfl : i = l.length := by omega
   simp only [List.take_length]
   repeat' (first
  | ((first | refine zag ?_ | refine zaj ?_ | refine zah ?_ | fail); simp [hx])
  | (refine zar ?_; simp only [zap])
  | (refine zaZ ?_; simp [zap])
  | fail)
   (refine EndW.frzN 2 ?_; simp [frzN, frz1, zaE, zaD, St.frz, St.frzS, frzS, fv, za5, za6, za7, zaH, zay, zav, del, frz, zbg, zjQ, zgh, zc1])
   refine EndW.norm (EndW.here ?_)
   (refine EndOK.val (.inr rfl) ?_; simp [zaz, zaf, zas, Tryz.results60, zaD, zaE, zcS, zcT, frz, zbg, frzS, fv, za5, za6, za7, zaH, zay, zav, zbG, zb1, zbV, za9, zgh, zc1])
  ·have hlt : i < l.length := (lGE.1 hx).1;have hst := zpf (members := members) (u := u) hx;have hcl := zkk members u (l.take i) [];have hcv := hct v.who;have hlook := zhv v.who ((cnt members u [] (l.take i)).map (·.who));rw [List.length_take] at hcl;have hcl2 : (cnt members u [] (l.take i)).length <= 1000000 := by omega
   generalize cnt members u [] (l.take i) = O at *;have hlr := zhR O;have hsn := zhQ O v;by_cases c1 : u < v.day
   ·rw [if_pos (.inl c1), List.append_nil] at hst
    repeat' (first
  | ((first | refine zag ?_ | refine zaj ?_ | fail); simp [hx, c1])
  | (refine ⟨by omega, ?_⟩)
  | ((first | refine zah ?_ | refine zai ?_ | refine zat ?_ | fail); simp [hx, c1])
  | (refine zaq ?_; simp only [zap])
  | (refine zaZ ?_; simp [zap])
  | (refine ⟨?_, by omega⟩)
  | (intro hc <;> (try (exfalso; omega)))
  | fail)
    refine LoopW.next ⟨i + 1, by omega⟩ (by simp; omega) ?_
    exact (Wk.cut rfl (by simp [hn, St.lp]) (by simp [wkO, St.lp, zaa, getK, Ob.under, D.under, zad, zae, hst, zbB, zbo, zae]) (by simp [wkU, St.lp, zam, zaa, getK, D.under, hst, zbB, zbo, zae]) (by simp [wkE, St.lp, zam, zaa, getK, hst, zbB, zbo, zae] <;> (try (intros; simp_all; done)) <;> (try (intros; omega)) <;> (try grind)))
   ·by_cases c2 : v.who ∈ O.map (·.who)
    ·rw [if_pos (.inr (.inl c2)), List.append_nil] at hst;rw [if_pos c2] at hlook
     repeat' (first
  | ((first | refine zag ?_ | refine zaj ?_ | fail); simp [hx, c1, hlook])
  | (refine ⟨by omega, ?_⟩)
  | ((first | refine zah ?_ | refine zai ?_ | refine zat ?_ | fail); simp [hx, c1, hlook])
  | (refine zaq ?_; simp only [zap])
  | (refine zaZ ?_; simp [zap])
  | (refine ⟨?_, by omega⟩)
  | (intro hc <;> (try (exfalso; omega)))
  | fail)
     refine LoopW.next ⟨i + 1, by omega⟩ (by simp; omega) ?_
     exact (Wk.cut rfl (by simp [hn, St.lp]) (by simp [wkO, St.lp, zaa, getK, Ob.under, D.under, zad, zae, hst, zbB, zbo, zae]) (by simp [wkU, St.lp, zam, zaa, getK, D.under, hst, zbB, zbo, zae]) (by simp [wkE, St.lp, zam, zaa, getK, hst, zbB, zbo, zae] <;> (try (intros; simp_all; done)) <;> (try (intros; omega)) <;> (try grind)))
    ·rw [if_neg c2] at hlook;have hupd := zmz (g := v.who) c2;by_cases c3 : v.who ∈ members
     ·rw [if_neg (fun h => by rcases h with h | h | h; exact c1 h; exact c2 h; exact h c3)] at hst;rw [decide_eq_true c3] at hcv
      repeat' (first
  | ((first | refine zag ?_ | refine zaj ?_ | fail); simp [hx, c1, hlook, hupd, zc1, hlr, hsn])
  | (refine ⟨by omega, ?_⟩)
  | ((first | refine zah ?_ | refine zai ?_ | refine zat ?_ | fail); simp [hx, c1, hlook, hupd, zc1, hlr, hsn])
  | (refine zaq ?_; simp only [zap])
  | (refine ⟨?_, by omega⟩)
  | (intro hc <;> (try (exfalso; omega)))
  | (refine CallP.fE (hcv) (by first | rfl | fail) (by first | simp [hx, c1, hlook, hupd, zc1, hlr, hsn] <;> rfl | fail) ?_; (try simp [hx, c1, hlook, hupd, zc1, hlr, hsn]))
  | fail)
      refine LoopW.next ⟨i + 1, by omega⟩ (by simp; omega) ?_
      exact (Wk.ren ((fun i => if i = 1 then 4 else i)) rfl (by first | (simp [hn]; done) | (intro i hi; rw [hn] at hi; constructor <;> (try simp) <;> (try (intro _)) <;> omega)) (by simp [zoj, St.lp, zam, zaa, getK, zac, zak, D.under, D.le, D.ren, hst, zbB, zbo, zae] <;> (try (intros; simp_all; done)) <;> (try omega)) (by simp [wkR, St.lp, zaa, getK, zac, zak, obR, leU, zcL, zbp, Ob.under, D.under, D.le, D.ren, hst, zbB, zbo, zae] <;> (try (intros; simp_all; done)) <;> (try omega)) (by simp [hst, zbB, zbo, zae]))
     ·rw [if_pos (.inr (.inr c3)), List.append_nil] at hst;rw [decide_eq_false c3] at hcv
      repeat' (first
  | ((first | refine zag ?_ | refine zaj ?_ | fail); simp [hx, c1, hlook])
  | (refine ⟨by omega, ?_⟩)
  | ((first | refine zah ?_ | refine zai ?_ | refine zat ?_ | fail); simp [hx, c1, hlook])
  | (refine zaq ?_; simp only [zap])
  | (refine zaZ ?_; simp [zap])
  | (refine ⟨?_, by omega⟩)
  | (intro hc <;> (try (exfalso; omega)))
  | (refine CallP.fE (hcv) (by first | rfl | fail) (by first | simp [hx, c1, hlook] <;> rfl | fail) ?_; (try simp [hx, c1, hlook]))
  | fail)
      refine LoopW.next ⟨i + 1, by omega⟩ (by simp; omega) ?_
      exact (Wk.cut rfl (by simp [hn, St.lp]) (by simp [wkO, St.lp, zaa, getK, Ob.under, D.under, zad, zae, hst, zbB, zbo, zae]) (by simp [wkU, St.lp, zam, zaa, getK, D.under, hst, zbB, zbo, zae]) (by simp [wkE, St.lp, zam, zaa, getK, hst, zbB, zbo, zae] <;> (try (intros; simp_all; done)) <;> (try (intros; omega)) <;> (try grind)))
theorem zn3 (c : UInt8) : Fun Tryz.prog 198 [.u (.int .u8 c.toNat)] (· = .u (.bool (zbT c))) := by
 unfold zbT
 (refine Fun.of_body Tryz.func198 rfl (by simp) fun Γ hn => ?_); simp only [entry, ziC, ziN, maC, maN, oA, Tryz.ntmps198]
 repeat' (first
  | ((first | refine zag ?_ | refine zaj ?_ | refine zah ?_ | fail); simp)
  | (refine zar ?_; simp only [zap])
  | (refine ⟨fun hc => ?_, fun hc => ?_⟩ <;> (try (exfalso; omega)))
  | fail)
 all_goals
  (refine EndOK.val (.inr rfl) ?_; simp [zaz, zaf, zas, Tryz.results198])
 all_goals first | omega | (rw [Bool.eq_iff_iff]; simp; omega) | (simp; omega)
theorem zne (c : UInt8) : Fun Tryz.prog 244 [.u (.int .u8 c.toNat)] (· = .u (.bool (zcN c))) := by
 unfold zcN
 (refine Fun.of_body Tryz.func244 rfl (by simp) fun Γ hn => ?_); simp only [entry, ziC, ziN, maC, maN, oA, Tryz.ntmps244]
 repeat' (first
  | ((first | refine zag ?_ | refine zaj ?_ | refine zah ?_ | fail); simp)
  | (refine zar ?_; simp only [zap])
  | (refine ⟨fun hc => ?_, fun hc => ?_⟩ <;> (try (exfalso; omega)))
  | (refine CallP.fE (zdT c) (by first | rfl | fail) (by first | (simp; done) | (simp; rfl) | fail) ?_; (try simp))
  | (refine CallP.fE (zev c) (by first | rfl | fail) (by first | (simp; done) | (simp; rfl) | fail) ?_; (try simp))
  | fail)
 all_goals
  (refine EndOK.val (.inr rfl) ?_; simp [zaz, zaf, zas, Tryz.results244])
 all_goals simp_all
theorem zdA (p : UInt8 -> Bool) (l : List UInt8) : zce p l <= l.length := by
 unfold zce;exact (List.takeWhile_sublist p).length_le
theorem zmH {p : UInt8 -> Bool} {l : List UInt8} (h : zce p l = l.length) : ∀ c ∈ l, p c = true := by
 have : l.takeWhile p = l := (List.takeWhile_sublist p).eq_of_length h;intro c hc;rw [<- this] at hc;exact List.all_eq_true.1 (List.all_takeWhile (l := l) (p := p)) c hc
theorem zlB (s : List UInt8) (hl : s.length <= 1000000) : Fun Tryz.prog 245 [.u (.str s)] (· = .tup [.u (.int .i64 ((zfw s).getD 0)), .u (.bool (zfw s).isSome)]) := by
 have hsp := zfa s hl 222 zbe (fun c _ => zev c) (by simp);unfold zfw;cases s with
 | nil =>
  (refine Fun.of_body Tryz.func245 rfl (by simp) fun Γ hn => ?_); simp only [entry, ziC, ziN, maC, maN, oA, Tryz.ntmps245]
  repeat' (first
  | ((first | refine zag ?_ | refine zaj ?_ | refine zah ?_ | refine zai ?_ | fail); simp)
  | (refine zar ?_; simp only [zap])
  | fail)
  all_goals
   (refine EndOK.val (.inr rfl) ?_; simp [zaz, zaf, zas, Tryz.results245])
 | cons c s =>
  by_cases h1 : zce zbe (c :: s) = (c :: s).length
  case neg =>
   rw [if_pos (.inr (.inl h1))];have h1' : ¬ (zce zbe (c :: s) : Int) = s.length + 1 := by simp at h1; omega
   (refine Fun.of_body Tryz.func245 rfl (by simp) fun Γ hn => ?_); simp only [entry, ziC, ziN, maC, maN, oA, Tryz.ntmps245]
   repeat' (first
  | ((first | refine zag ?_ | refine zaj ?_ | refine zah ?_ | refine zai ?_ | fail); simp [h1'])
  | (refine zar ?_; simp only [zap])
  | (refine CallP.fE (hsp) (by first | rfl | fail) (by first | simp [h1'] <;> rfl | fail) ?_; (try simp [h1']))
  | fail)
   all_goals
    (refine EndOK.val (.inr rfl) ?_; simp [zaz, zaf, zas, Tryz.results245])
  have h1' : (zce zbe (c :: s) : Int) = s.length + 1 := by simp at h1; omega
  by_cases h2 : c.toNat = 48 /\ s ≠ []
  ·rw [if_pos (.inr (.inr (.inl ⟨by have := h2.1; simp; exact UInt8.toNat_inj.1 this, by simp; intro _; exact h2.2⟩)))];have h2b := h2.1;have h2a := h2.2
   (refine Fun.of_body Tryz.func245 rfl (by simp) fun Γ hn => ?_); simp only [entry, ziC, ziN, maC, maN, oA, Tryz.ntmps245]
   repeat' (first
  | ((first | refine zag ?_ | refine zaj ?_ | refine zah ?_ | refine zai ?_ | fail); simp [h1', h2a, h2b])
  | (refine zar ?_; simp only [zap])
  | (refine CallP.fE (hsp) (by first | rfl | fail) (by first | simp [h1', h2a, h2b] <;> rfl | fail) ?_; (try simp [h1', h2a, h2b]))
  | fail)
   all_goals
    (refine EndOK.val (.inr rfl) ?_; simp [zaz, zaf, zas, Tryz.results245])
  have h2' : c.toNat = 48 -> s = [] := fun h => by
   by_cases hs : s = []
   ·exact hs
   ·exact absurd ⟨h, hs⟩ h2
  by_cases h3 : 13 < (c :: s).length
  ·rw [if_pos (.inr (.inr (.inr h3)))];have h3' : 13 < (s.length : Int) + 1 := by simp at h3; omega
   have hne : s ≠ [] := fun e => by rw [e] at h3; simp at h3
   have h2'' : ¬ c.toNat = 48 := fun h => hne (h2' h)
   (refine Fun.of_body Tryz.func245 rfl (by simp) fun Γ hn => ?_); simp only [entry, ziC, ziN, maC, maN, oA, Tryz.ntmps245]
   repeat' (first
  | ((first | refine zag ?_ | refine zaj ?_ | fail); simp [h1', h2'', h3'])
  | (refine ⟨by omega, ?_⟩)
  | ((first | refine zah ?_ | refine zai ?_ | fail); simp [h1', h2'', h3'])
  | (refine zar ?_; simp only [zap])
  | (intro hc <;> (try (exfalso; omega)))
  | (refine CallP.fE (hsp) (by first | rfl | fail) (by first | simp [h1', h2'', h3'] <;> rfl | fail) ?_; (try simp [h1', h2'', h3']))
  | fail)
   all_goals
    (refine EndOK.val (.inr rfl) ?_; simp [zaz, zaf, zas, Tryz.results245])
  have hall := zmH h1;rw [if_neg (by
   simp only [not_or];refine ⟨by simp, fun h => h h1, fun h => ?_, h3⟩;have hc48 : c = 48 := by have := h.1; simpa using this
   have := h2' (by rw [hc48]; rfl);rw [this, hc48] at h;exact h.2 rfl)]
  have h3' : ¬ 13 < (s.length : Int) + 1 := by simp at h3; omega
  have hval : ∀ k, k <= (c :: s).length -> 0 <= zbd ((c :: s).take k) /\ zbd ((c :: s).take k) < 10 ^ 13 := fun k hk => by
   have h4 := zfj k ((c :: s).take k) (by simp; simp at hk; omega) (fun x hx => hall x (List.mem_of_mem_take hx));have : (10 : Int) ^ k <= 10 ^ 13 := by
    have := Nat.pow_le_pow_right (n := 10) (by omega) (show k <= 13 by simp at h3 hk; omega)
    exact_mod_cast this
   omega
  have hloop : ∀ (hw : c.toNat = 48 -> s = []), Fun Tryz.prog 245 [.u (.str (c :: s))] (· = .tup [.u (.int .i64 ((if 1099511627776 < zbd (c :: s) then none else some (zbd (c :: s)) : Option Int).getD 0)), .u (.bool (if 1099511627776 < zbd (c :: s) then none else some (zbd (c :: s)) : Option Int).isSome)]) := fun hw => by
   by_cases h48 : c.toNat = 48
   ·have h48' : (c.toNat : Int) = 48 := by omega
    have hc48 : (c = 48) = True := eq_true (UInt8.toNat_inj.1 h48);have hs0 : (s = []) = True := eq_true (hw h48)
    (refine Fun.of_body Tryz.func245 rfl (by simp) fun Γ hn => ?_); simp only [entry, ziC, ziN, maC, maN, oA, Tryz.ntmps245]
    repeat' (first
  | ((first | refine zag ?_ | refine zaj ?_ | refine zah ?_ | refine zai ?_ | refine zao ?_ | fail); simp [h1', h3', h48', hc48, hs0])
  | (refine zaq ?_; simp only [zap])
  | (refine CallP.fE (hsp) (by first | rfl | fail) (by first | simp [h1', h3', h48', hc48, hs0] <;> rfl | fail) ?_; (try simp [h1', h3', h48', hc48, hs0]))
  | fail)
    refine zbH (α := { i : Nat // i <= (c :: s).length }) [0, 30] (fun i => [(4, .u (.int .i64 (zbd ((c :: s).take i.1)))), (31, .u (.int .i64 i.1))]) (fun i => (c :: s).length - i.1) ⟨0, by omega⟩ ?_ ?_
    ·exact (Wk.cut rfl (by simp [hn, St.lp]) (by simp [wkO, St.lp, zaa, getK, Ob.under, D.under, zad, zae, zbd]) (by simp [wkU, St.lp, zam, zaa, getK, D.under, zbd]) (by simp [wkE, St.lp, zam, zaa, getK, zbd] <;> (try (intros; simp_all; done)) <;> (try (intros; omega)) <;> (try grind)))
    rintro ⟨i, hi⟩;simp [St.lp, St.only, zam, zaa, getK];rcases hx : (c :: s)[i]? with _ | a
    ·have hge : (c :: s).length <= i := by simpa using hx
     obtain rfl : i = (c :: s).length := by omega
     rw [List.take_length];have hge2 : ¬ ((c :: s).length : Int) < s.length + 1 := by simp
     by_cases hb : 1099511627776 < zbd (c :: s)
     ·repeat' (first
  | ((first | refine zag ?_ | refine zaj ?_ | refine zah ?_ | refine zai ?_ | fail); simp [hb, hge2])
  | (refine zar ?_; simp only [zap])
  | (refine zaZ ?_; simp [zap])
  | fail)
      (refine EndOK.val (.inr rfl) ?_; simp [zaz, zaf, zas, Tryz.results245])
      try simp [hb]
     ·repeat' (first
  | ((first | refine zag ?_ | refine zaj ?_ | refine zah ?_ | refine zai ?_ | fail); simp [hb, hge2])
  | ((first | refine zar ?_ | refine zaq ?_ | fail); simp only [zap])
  | (refine zaZ ?_; simp [zap])
  | fail)
      (refine EndOK.val (.inr rfl) ?_; simp [zaz, zaf, zas, Tryz.results245])
      try simp [hb]
    ·have hlt : i < (c :: s).length := (lGE.1 hx).1;have hlt2 : (i : Int) < s.length + 1 := by simp at hlt; omega
     have hd := hall a (List.mem_of_getElem? hx);simp only [zbe, Bool.and_eq_true, decide_eq_true_eq] at hd;have hv := hval i hi;have hv2 := hval (i + 1) hlt;have hsn : zbd ((c :: s).take (i + 1)) = 10 * zbd ((c :: s).take i) + ((a.toNat : Int) - 48) := by
      rw [List.take_succ, hx]; exact zeu _ _
     generalize zbd ((c :: s).take i) = dv at hv hsn;have hsn2 := hsn.symm
     repeat' (first
  | ((first | refine zag ?_ | refine zaj ?_ | fail); simp [hx, hlt2, hsn2])
  | (refine ⟨by omega, ?_⟩)
  | ((first | refine zah ?_ | refine zat ?_ | fail); simp [hx, hlt2, hsn2])
  | (refine zaq ?_; simp only [zap])
  | fail)
     refine LoopW.next ⟨i + 1, hlt⟩ (by simp at hlt; simp; omega) ?_
     exact (Wk.cut rfl (by simp [hn, St.lp]) (by simp [wkO, St.lp, zaa, getK, Ob.under, D.under, zad, zae, hsn]) (by simp [wkU, St.lp, zam, zaa, getK, D.under, hsn]) (by simp [wkE, St.lp, zam, zaa, getK, hsn] <;> (try (intros; simp_all; done)) <;> (try (intros; omega)) <;> (try grind)))
   ·(refine Fun.of_body Tryz.func245 rfl (by simp) fun Γ hn => ?_); simp only [entry, ziC, ziN, maC, maN, oA, Tryz.ntmps245]
    repeat' (first
  | ((first | refine zag ?_ | refine zaj ?_ | fail); simp [h1', h3', h48])
  | (refine ⟨by omega, ?_⟩)
  | ((first | refine zah ?_ | refine zai ?_ | refine zao ?_ | fail); simp [h1', h3', h48])
  | (refine zaq ?_; simp only [zap])
  | (intro hc <;> (try (exfalso; omega)))
  | (refine CallP.fE (hsp) (by first | rfl | fail) (by first | simp [h1', h3', h48] <;> rfl | fail) ?_; (try simp [h1', h3', h48]))
  | fail)
    refine zbH (α := { i : Nat // i <= (c :: s).length }) [0, 30] (fun i => [(4, .u (.int .i64 (zbd ((c :: s).take i.1)))), (31, .u (.int .i64 i.1))]) (fun i => (c :: s).length - i.1) ⟨0, by omega⟩ ?_ ?_
    ·exact (Wk.cut rfl (by simp [hn, St.lp]) (by simp [wkO, St.lp, zaa, getK, Ob.under, D.under, zad, zae, zbd]) (by simp [wkU, St.lp, zam, zaa, getK, D.under, zbd]) (by simp [wkE, St.lp, zam, zaa, getK, zbd] <;> (try (intros; simp_all; done)) <;> (try (intros; omega)) <;> (try grind)))
    rintro ⟨i, hi⟩;simp [St.lp, St.only, zam, zaa, getK];rcases hx : (c :: s)[i]? with _ | a
    ·have hge : (c :: s).length <= i := by simpa using hx
     obtain rfl : i = (c :: s).length := by omega
     rw [List.take_length];have hge2 : ¬ ((c :: s).length : Int) < s.length + 1 := by simp
     by_cases hb : 1099511627776 < zbd (c :: s)
     ·repeat' (first
  | ((first | refine zag ?_ | refine zaj ?_ | refine zah ?_ | refine zai ?_ | fail); simp [hb, hge2])
  | (refine zar ?_; simp only [zap])
  | (refine zaZ ?_; simp [zap])
  | fail)
      (refine EndOK.val (.inr rfl) ?_; simp [zaz, zaf, zas, Tryz.results245])
      try simp [hb]
     ·repeat' (first
  | ((first | refine zag ?_ | refine zaj ?_ | refine zah ?_ | refine zai ?_ | fail); simp [hb, hge2])
  | ((first | refine zar ?_ | refine zaq ?_ | fail); simp only [zap])
  | (refine zaZ ?_; simp [zap])
  | fail)
      (refine EndOK.val (.inr rfl) ?_; simp [zaz, zaf, zas, Tryz.results245])
      try simp [hb]
    ·have hlt : i < (c :: s).length := (lGE.1 hx).1;have hlt2 : (i : Int) < s.length + 1 := by simp at hlt; omega
     have hd := hall a (List.mem_of_getElem? hx);simp only [zbe, Bool.and_eq_true, decide_eq_true_eq] at hd;have hv := hval i hi;have hv2 := hval (i + 1) hlt;have hsn : zbd ((c :: s).take (i + 1)) = 10 * zbd ((c :: s).take i) + ((a.toNat : Int) - 48) := by
      rw [List.take_succ, hx]; exact zeu _ _
     generalize zbd ((c :: s).take i) = dv at hv hsn;have hsn2 := hsn.symm
     repeat' (first
  | ((first | refine zag ?_ | refine zaj ?_ | fail); simp [hx, hlt2, hsn2])
  | (refine ⟨by omega, ?_⟩)
  | ((first | refine zah ?_ | refine zat ?_ | fail); simp [hx, hlt2, hsn2])
  | (refine zaq ?_; simp only [zap])
  | fail)
     refine LoopW.next ⟨i + 1, hlt⟩ (by simp at hlt; simp; omega) ?_
     exact (Wk.cut rfl (by simp [hn, St.lp]) (by simp [wkO, St.lp, zaa, getK, Ob.under, D.under, zad, zae, hsn]) (by simp [wkU, St.lp, zam, zaa, getK, D.under, hsn]) (by simp [wkE, St.lp, zam, zaa, getK, hsn] <;> (try (intros; simp_all; done)) <;> (try (intros; omega)) <;> (try grind)))
  exact hloop h2'
theorem zj4 (s p : List UInt8) : Fun Tryz.prog 282 [.u (.str s), .u (.str p)] (· = .u (.bool (p.isPrefixOf s))) := by
 by_cases hl : p.length <= s.length
 ·have hl2 : (p.length : Int) <= s.length := by omega
  by_cases he : s.take p.length = p
  ·have hp : p.isPrefixOf s = true := List.isPrefixOf_iff_prefix.2 (List.prefix_iff_eq_take.2 he.symm)
   (refine Fun.of_body Tryz.func282 rfl (by simp) fun Γ hn => ?_); simp only [entry, ziC, ziN, maC, maN, oA, Tryz.ntmps282]
   repeat' (first
  | ((first | refine zag ?_ | refine zaj ?_ | refine zah ?_ | fail); simp [hl, hl2, he])
  | (refine zar ?_; simp only [zap])
  | fail)
   all_goals
    (refine EndOK.val (.inr rfl) ?_; simp [zaz, zaf, zas, Tryz.results282])
   all_goals first | (rw [hp]; done) | exact List.isPrefixOf_iff_prefix.1 hp | (simp [hp]; done) | rfl
  ·have hp : p.isPrefixOf s = false := by
    cases h : p.isPrefixOf s with
    | false => rfl
    | true => exact absurd (List.prefix_iff_eq_take.1 (List.isPrefixOf_iff_prefix.1 h)).symm he
   (refine Fun.of_body Tryz.func282 rfl (by simp) fun Γ hn => ?_); simp only [entry, ziC, ziN, maC, maN, oA, Tryz.ntmps282]
   repeat' (first
  | ((first | refine zag ?_ | refine zaj ?_ | refine zah ?_ | fail); simp [hl, hl2, he])
  | (refine zar ?_; simp only [zap])
  | fail)
   all_goals
    (refine EndOK.val (.inr rfl) ?_; simp [zaz, zaf, zas, Tryz.results282])
   all_goals first | (rw [hp]; done) | exact List.isPrefixOf_iff_prefix.1 hp | (simp [hp]; done) | rfl
 ·have hl2 : ¬ (p.length : Int) <= s.length := by omega
  have hp : p.isPrefixOf s = false := by
   cases h : p.isPrefixOf s with
   | false => rfl
   | true => exact absurd (List.isPrefixOf_iff_prefix.1 h).length_le hl
  (refine Fun.of_body Tryz.func282 rfl (by simp) fun Γ hn => ?_); simp only [entry, ziC, ziN, maC, maN, oA, Tryz.ntmps282]
  repeat' (first
  | ((first | refine zag ?_ | refine zaj ?_ | refine zah ?_ | fail); simp [hl, hl2])
  | (refine zar ?_; simp only [zap])
  | fail)
  all_goals
   (refine EndOK.val (.inr rfl) ?_; simp [zaz, zaf, zas, Tryz.results282])
  all_goals first | (rw [hp]; done) | exact List.isPrefixOf_iff_prefix.1 hp | (simp [hp]; done) | rfl
theorem zlu (s p : List UInt8) : Fun Tryz.prog 246 [.u (.str s), .u (.str p)] (· = .u (.bool (p.isPrefixOf s))) := by
 have h := zj4 s p
 (refine Fun.of_body Tryz.func246 rfl (by simp) fun Γ hn => ?_); simp only [entry, ziC, ziN, maC, maN, oA, Tryz.ntmps246]
 repeat' (first
  | ((first | refine zag ?_ | refine zaj ?_ | refine zah ?_ | fail); simp)
  | (refine zar ?_; simp only [zap])
  | (refine CallP.fE (h) (by first | rfl | fail) (by first | (simp; done) | (simp; rfl) | fail) ?_; (try simp))
  | fail)
 (refine EndOK.val (.inr rfl) ?_; simp [zaz, zaf, zas, Tryz.results246])
@[local simp] theorem zqW : zkf 1 = .u (.row (signsL.map .str) 0) := by
 simp [zkf, globs, signsL, uOf]
theorem hsl : signsL.length = 11 := rfl
theorem zoL (s : List UInt8) (hs : s ≠ []) (hl : s.length <= 1000000) : Fun Tryz.prog 199 [.u (.str s)] (· = nextD s) := by
 obtain ⟨c, r, rfl⟩ : ∃ c r, s = c :: r := by cases s with | nil => exact absurd rfl hs | cons c r => exact ⟨c, r, rfl⟩
 have h1 := zdT c;have h2 := zev c;have h3 := zfa (c :: r) hl 244 zcN (fun c _ => zne c) (by simp);have h4 := zfa (c :: r) hl 222 zbe (fun c _ => zev c) (by simp);have h5 := zkx ((c :: r).take (zce zcN (c :: r)));have h6 := zlB ((c :: r).take (zce zbe (c :: r))) (by have := zdA zbe (c :: r); rw [List.length_take]; omega);have l1 : (zce zcN (c :: r) : Int) <= r.length + 1 := by have := zdA zcN (c :: r); simp at this; omega
 have l2 : (zce zbe (c :: r) : Int) <= r.length + 1 := by have := zdA zbe (c :: r); simp at this; omega
 have l1' : zce zcN (c :: r) <= r.length + 1 := by omega
 have l2' : zce zbe (c :: r) <= r.length + 1 := by omega
 unfold nextD zg6;cases c1 : zcU c with
 | true =>
  rw [c1] at h1;cases c3 : ziH ((c :: r).take (zce zcN (c :: r))) with
  | true =>
   rw [c3] at h5
   (refine Fun.of_body Tryz.func199 rfl (by simp) fun Γ hn => ?_); simp only [entry, ziC, ziN, maC, maN, oA, Tryz.ntmps199]
   repeat' (first
  | ((first | refine zag ?_ | refine zaj ?_ | refine zah ?_ | refine zai ?_ | fail); simp [l1, l1'])
  | ((first | refine zar ?_ | refine zaq ?_ | fail); simp only [zap])
  | (refine CallP.fE (h1) (by first | rfl | fail) (by first | simp [l1, l1'] <;> rfl | fail) ?_; (try simp [l1, l1']))
  | (refine CallP.fE (h3) (by first | rfl | fail) (by first | simp [l1, l1'] <;> rfl | fail) ?_; (try simp [l1, l1']))
  | (refine CallP.fE (h5) (by first | rfl | fail) (by first | simp [l1, l1'] <;> rfl | fail) ?_; (try simp [l1, l1']))
  | fail)
   (refine EndOK.val (.inr rfl) ?_; simp [zaz, zaf, zas, Tryz.results199])
   simp [c1, c3]
  | false =>
   rw [c3] at h5
   (refine Fun.of_body Tryz.func199 rfl (by simp) fun Γ hn => ?_); simp only [entry, ziC, ziN, maC, maN, oA, Tryz.ntmps199]
   repeat' (first
  | ((first | refine zag ?_ | refine zaj ?_ | refine zah ?_ | refine zai ?_ | fail); simp [l1, l1'])
  | (refine zar ?_; simp only [zap])
  | (refine CallP.fE (h1) (by first | rfl | fail) (by first | simp [l1, l1'] <;> rfl | fail) ?_; (try simp [l1, l1']))
  | (refine CallP.fE (h3) (by first | rfl | fail) (by first | simp [l1, l1'] <;> rfl | fail) ?_; (try simp [l1, l1']))
  | (refine CallP.fE (h5) (by first | rfl | fail) (by first | simp [l1, l1'] <;> rfl | fail) ?_; (try simp [l1, l1']))
  | fail)
   (refine EndOK.val (.inr rfl) ?_; simp [zaz, zaf, zas, Tryz.results199])
   simp [c1, c3]
 | false =>
  rw [c1] at h1;cases c2 : zbe c with
  | true =>
   rw [c2] at h2;cases c3 : zfw ((c :: r).take (zce zbe (c :: r))) with
   | none =>
    rw [c3] at h6
    (refine Fun.of_body Tryz.func199 rfl (by simp) fun Γ hn => ?_); simp only [entry, ziC, ziN, maC, maN, oA, Tryz.ntmps199]
    repeat' (first
  | ((first | refine zag ?_ | refine zaj ?_ | refine zah ?_ | refine zai ?_ | fail); simp [l2, l2'])
  | (refine zar ?_; simp only [zap])
  | (refine CallP.fE (h1) (by first | rfl | fail) (by first | simp [l2, l2'] <;> rfl | fail) ?_; (try simp [l2, l2']))
  | (refine CallP.fE (h2) (by first | rfl | fail) (by first | simp [l2, l2'] <;> rfl | fail) ?_; (try simp [l2, l2']))
  | (refine CallP.fE (h4) (by first | rfl | fail) (by first | simp [l2, l2'] <;> rfl | fail) ?_; (try simp [l2, l2']))
  | (refine CallP.fE (h6) (by first | rfl | fail) (by first | simp [l2, l2'] <;> rfl | fail) ?_; (try simp [l2, l2']))
  | fail)
    (refine EndOK.val (.inr rfl) ?_; simp [zaz, zaf, zas, Tryz.results199])
    simp [c1, c2, c3]
   | some n =>
    rw [c3] at h6
    (refine Fun.of_body Tryz.func199 rfl (by simp) fun Γ hn => ?_); simp only [entry, ziC, ziN, maC, maN, oA, Tryz.ntmps199]
    repeat' (first
  | ((first | refine zag ?_ | refine zaj ?_ | refine zah ?_ | refine zai ?_ | fail); simp [l2, l2'])
  | ((first | refine zar ?_ | refine zaq ?_ | fail); simp only [zap])
  | (refine CallP.fE (h1) (by first | rfl | fail) (by first | simp [l2, l2'] <;> rfl | fail) ?_; (try simp [l2, l2']))
  | (refine CallP.fE (h2) (by first | rfl | fail) (by first | simp [l2, l2'] <;> rfl | fail) ?_; (try simp [l2, l2']))
  | (refine CallP.fE (h4) (by first | rfl | fail) (by first | simp [l2, l2'] <;> rfl | fail) ?_; (try simp [l2, l2']))
  | (refine CallP.fE (h6) (by first | rfl | fail) (by first | simp [l2, l2'] <;> rfl | fail) ?_; (try simp [l2, l2']))
  | fail)
    (refine EndOK.val (.inr rfl) ?_; simp [zaz, zaf, zas, Tryz.results199])
    simp [c1, c2, c3]
  | false =>
   rw [c2] at h2
   (refine Fun.of_body Tryz.func199 rfl (by simp) fun Γ hn => ?_); simp only [entry, ziC, ziN, maC, maN, oA, Tryz.ntmps199]
   repeat' (first
  | ((first | refine zag ?_ | refine zaj ?_ | refine zah ?_ | refine zai ?_ | refine zao ?_ | fail); simp [hsl, List.take_of_length_le])
  | (refine zaq ?_; simp only [zap])
  | (refine CallP.fE (h1) (by first | rfl | fail) (by first | simp [hsl, List.take_of_length_le] <;> rfl | fail) ?_; (try simp [hsl, List.take_of_length_le]))
  | (refine CallP.fE (h2) (by first | rfl | fail) (by first | simp [hsl, List.take_of_length_le] <;> rfl | fail) ?_; (try simp [hsl, List.take_of_length_le]))
  | fail)
   refine zbH (α := { i : Nat // i <= 11 /\ ∀ x ∈ signsL.take i, x.isPrefixOf (c :: r) = false }) [0, 2, 3, 43] (fun i => [(44, .u (.int .i64 i.1))]) (fun i => 11 - i.1) ⟨0, by omega, by simp⟩ ?_ ?_
   ·exact (Wk.cut rfl (by simp [hn, St.lp]) (by simp [wkO, St.lp, zaa, getK, Ob.under, D.under, zad, zae]) (by simp [wkU, St.lp, zam, zaa, getK, D.under]) (by simp [wkE, St.lp, zam, zaa, getK] <;> (try (intros; simp_all; done)) <;> (try (intros; omega)) <;> (try grind)))
   rintro ⟨i, hi, hb⟩;simp [St.lp, St.only, zam, zaa, getK];rcases hx : signsL[i]? with _ | x
   ·have hge : signsL.length <= i := by simpa using hx
    obtain rfl : i = 11 := by rw [hsl] at hge; omega
    have hnone : signsL.find? (fun x => x.isPrefixOf (c :: r)) = none := List.find?_eq_none.2 fun x hx => by
     rw [hb x (by rw [List.take_of_length_le (by rw [hsl]; omega)]; exact hx)]; simp
    repeat' (first
  | ((first | refine zag ?_ | refine zaj ?_ | refine zah ?_ | fail); simp)
  | (refine zar ?_; simp only [zap])
  | (refine zaZ ?_; simp [zap])
  | fail)
    (refine EndOK.val (.inr rfl) ?_; simp [zaz, zaf, zas, Tryz.results199])
    simp [c1, c2, hnone]
   ·have hlt : i < 11 := by have := (lGE.1 hx).1; rw [hsl] at this; exact this
    have hlt2 : (i : Int) < 11 := by omega
    have hp := zlu (c :: r) x;by_cases hpx : x.isPrefixOf (c :: r) = true
    ·have hfind : signsL.find? (fun x => x.isPrefixOf (c :: r)) = some x := by
      have e : signsL = signsL.take i ++ x :: signsL.drop (i + 1) := by
       obtain ⟨h5, h6⟩ := lGE.1 hx;rw [<- h6, List.getElem_cons_drop, List.take_append_drop]
      rw [e, List.find?_append, List.find?_eq_none.2 (fun y hy => by rw [hb y hy]; simp), List.find?_cons, hpx];rfl
     rw [hpx] at hp
     repeat' (first
  | ((first | refine zag ?_ | refine zaj ?_ | refine zah ?_ | refine zai ?_ | fail); simp [hx, hsl, hlt2])
  | ((first | refine zar ?_ | refine zaq ?_ | fail); simp only [zap])
  | (refine CallP.fE (hp) (by first | rfl | fail) (by first | simp [hx, hsl, hlt2] <;> rfl | fail) ?_; (try simp [hx, hsl, hlt2]))
  | fail)
     (refine EndOK.val (.inr rfl) ?_; simp [zaz, zaf, zas, Tryz.results199])
     simp [c1, c2, hfind]
    ·rw [Bool.eq_false_iff.2 hpx] at hp
     repeat' (first
  | ((first | refine zag ?_ | refine zaj ?_ | fail); simp [hx, hsl, hlt2])
  | (refine ⟨by omega, ?_⟩)
  | ((first | refine zah ?_ | refine zai ?_ | refine zat ?_ | fail); simp [hx, hsl, hlt2])
  | (refine zaq ?_; simp only [zap])
  | (refine CallP.fE (hp) (by first | rfl | fail) (by first | simp [hx, hsl, hlt2] <;> rfl | fail) ?_; (try simp [hx, hsl, hlt2]))
  | fail)
     refine LoopW.next ⟨i + 1, by omega, fun y hy => ?_⟩ (by simp; omega) ?_
     ·rw [List.take_succ, hx] at hy;rcases List.mem_append.1 hy with h | h
      ·exact hb y h
      ·simp at h; subst h; exact Bool.eq_false_iff.2 hpx
     ·exact (Wk.cut rfl (by simp [hn, St.lp]) (by simp [wkO, St.lp, zaa, getK, Ob.under, D.under, zad, zae]) (by simp [wkU, St.lp, zam, zaa, getK, D.under]) (by simp [wkE, St.lp, zam, zaa, getK] <;> (try (intros; simp_all; done)) <;> (try (intros; omega)) <;> (try grind)))
end Go.Proofs.YtepiegcjnaohjaaGreatDoor
namespace Go.Proofs.YtepiegcjnaohjaaGreatDoor
open Go Go.VL
def znn : Nat -> List UInt8 -> Nat -> Except (Nat × Int) (List Tok)
 | 0, _, _ => .ok []
 | f + 1, s, p =>
  match (s.drop (p + zce zbT (s.drop p))) with
  | [] => .ok [⟨0, [], 0, ((p + zce zbT (s.drop p) : Nat) : Int)⟩]
  | c :: r => match zg6 (c :: r) with
   | .error e => .error (p + zce zbT (s.drop p), e)
   | .ok t => match znn f s (p + zce zbT (s.drop p) + t.text.length) with
    | .error x => .error x
    | .ok l => .ok ({ t with pos := ((p + zce zbT (s.drop p) : Nat) : Int) } :: l)
def zmh (s : List UInt8) : Except (Nat × Int) (List Tok) := if 2000 < s.length then .error (0, 6) else znn (s.length + 1) s 0
def zhx : Except (Nat × Int) (List Tok) -> D
 | .ok l => .tup [.u (.sl (l.map fun t => [.int .i64 t.kind, .str t.text, .int .i64 t.n, .int .i64 t.pos])), .u (.int .i64 0), .u (.int .i64 0)]
 | .error (p, e) => .tup [.u (.sl []), .u (.int .i64 p), .u (.int .i64 e)]
def zlt (acc : List Tok) : Except (Nat × Int) (List Tok) -> Except (Nat × Int) (List Tok)
 | .ok l => .ok (acc ++ l)
 | .error x => .error x
theorem zmP (x) : zlt [] x = x := by cases x <;> simp [zlt]
theorem ziR {p : UInt8 -> Bool} {c : UInt8} {r : List UInt8} (h : p c = true) : 0 < zce p (c :: r) := by
 unfold zce; rw [List.takeWhile_cons, if_pos h]; simp
theorem zfy {s : List UInt8} {t : Tok} (h : zg6 s = .ok t) : 0 < t.text.length /\ t.text.length <= s.length := by
 unfold zg6 at h;split at h
 ·cases h
 ·rename_i c r;by_cases c1 : zcU c = true
  ·rw [if_pos c1] at h;split at h
   ·cases h;have h1 := ziR (p := zcN) (c := c) (r := r) (by simp [zcN, c1]);have h2 := zdA zcN (c :: r);simp only [List.length_take];omega
   ·cases h
  ·rw [if_neg c1] at h;by_cases c2 : zbe c = true
   ·rw [if_pos c2] at h;split at h
    ·cases h;have h1 := ziR (p := zbe) (c := c) (r := r) c2;have h2 := zdA zbe (c :: r);simp only [List.length_take];omega
    ·cases h
   ·rw [if_neg c2] at h;split at h
    ·rename_i x hx;cases h;have h1 := List.find?_some hx;have h2 := List.mem_of_find?_eq_some hx;refine ⟨?_, (List.isPrefixOf_iff_prefix.1 h1).length_le⟩;simp only [signsL, List.mem_cons, List.not_mem_nil, or_false] at h2;rcases h2 with h | h | h | h | h | h | h | h | h | h | h <;> subst h <;> simp
    ·cases h
def zhZ (l : List Tok) : List (List D) := l.map fun t => [.u (.int .i64 t.kind), .u (.str t.text), .u (.int .i64 t.n), .u (.int .i64 t.pos)]
theorem zck (l : List Tok) : (zhZ l).length = l.length := by simp [zhZ]
theorem ziP (l : List Tok) : rowsD (l.map fun t => [U.int .i64 t.kind, .str t.text, .int .i64 t.n, .int .i64 t.pos]) = zhZ l := by simp [rowsD, zhZ, Function.comp_def]
theorem zkC (l : List Tok) : zcG (zhZ l) = some (l.map fun t => [U.int .i64 t.kind, .str t.text, .int .i64 t.n, .int .i64 t.pos]) := by rw [<- ziP]; simp
theorem zgr (l) : zbp (zhZ l) = True := by rw [<- ziP]; simp
theorem zfr (n : Nat) (l) : (∀ x ∈ zhZ l, ∀ y ∈ x, D.under n y = true) ↔ True := by
 refine ⟨fun _ => trivial, fun _ x hx y hy => ?_⟩;obtain ⟨b, _, rfl⟩ := List.mem_map.1 hx;simp at hy;rcases hy with rfl | rfl | rfl | rfl <;> simp [D.under]
end Go.Proofs.YtepiegcjnaohjaaGreatDoor
namespace Go.Proofs.YtepiegcjnaohjaaGreatDoor
open Go Go.VL
abbrev zmF (l : List Tok) : U := .sl (l.map fun t => [.int .i64 t.kind, .str t.text, .int .i64 t.n, .int .i64 t.pos])
abbrev pOb (l : List Tok) (p : Nat) : Ob := .box [.u (zmF l), .u (.int .i64 p)]
abbrev zpH (l : List Tok) (p : Nat) : U := .row [zmF l, .int .i64 p] 0
structure TokOK (l : List Tok) : Prop where
 fin : ∀ (i : Nat) (t : Tok), l[i]? = some t -> t.kind ≠ 0 -> i + 1 < l.length
 len : l.length <= 1000000
def isB (l : List Tok) (p : Nat) (w : List UInt8) : Bool := match l[p]? with | some t => decide (t.kind ≠ 0) && decide (t.text = w) | none => false
theorem zba {l : List Tok} {p : Nat} {w : List UInt8} (hl : TokOK l) (h : isB l p w = true) : p + 1 < l.length := by
 unfold isB at h;split at h
 ·rename_i t ht;simp only [Bool.and_eq_true, decide_eq_true_eq] at h;exact hl.fin p t ht h.1
 ·cases h
end Go.Proofs.YtepiegcjnaohjaaGreatDoor
namespace Go.Proofs.YtepiegcjnaohjaaGreatDoor
open Go Go.VL
def inR (l : List Int) : List (List D) := l.map fun x => [.u (.int .i64 x)]
theorem zqc (l : List Int) : (inR l).length = l.length := by simp [inR]
theorem zqd (S : D -> Option U) (l : List Int) : (inR l).map (fun r => r.map (frzS S)) = inR l := by simp [inR, frzS]
theorem zh3 (l) : zbp (inR l) = True := by
 have : inR l = rowsD (l.map fun x => [U.int .i64 x]) := by simp [rowsD, inR, Function.comp_def]
 rw [this]; simp
theorem zcy (n : Nat) (l) : (∀ x ∈ inR l, ∀ y ∈ x, D.under n y = true) ↔ True := by
 refine ⟨fun _ => trivial, fun _ x hx y hy => ?_⟩;obtain ⟨b, _, rfl⟩ := List.mem_map.1 hx;simp at hy;subst hy;simp [D.under]
end Go.Proofs.YtepiegcjnaohjaaGreatDoor
namespace Go.Proofs.YtepiegcjnaohjaaGreatDoor
open Go Go.VL
attribute [local simp] HS zc6 zb2 evPure opd uOf zaC St.put St.at getK binD binI binS binB nilD aggD zhd zir lookD lookR zcB rangeS Go.VL.nextD Go.VL.nextS zcD ziF ziE zgE zbX mkV za8 zbj zbi zbh zc0 zbc zbq zbC mapEff zdd zf0 Key.kk shiftI arith unD convD zd4 loadD cellsAt fieldAddrD fieldD indexAddrD indexSlD arrAddr indexD sliceD cutD lenD minmaxD nilCheckD buildD fillD zbS zde zeV setAll zcM zeM zcv zhH zcr St.add zaS zbP rowsOf zdS zcw zak zac zaa zbm zcX zaQ entry zbI zbR valD zbU zcx zg2 zdv zdw zbZ zbO zaw zaR zbs delAll effD St.effS zdb zbk za1 zdc zbl za3 zcf za2 zaV zcg zc7 zbJ zcd zbt zcb zcc zau mkD zbw zbD zbN zaw zcu D.ids Op.operands Call.operands zbz makeIfD makeFuncD typeAssertD zio zdI zdJ zhX zcC IntKind.bits zcG List.take_of_length_le List.range_succ
attribute [local irreducible] V G H HD HD2 HD4 zmf RetX zap Eff CallP CallV EndOK Fun Ret FinOK LoopI LoopW EndW
def zd6 (s : List UInt8) : Bool := ziH s && !words.contains s
set_option maxRecDepth 100000 in
theorem zf5 (s : List UInt8) : Fun Tryz.prog 99 [.u (.str s)] (· = .u (.bool (zd6 s))) := by
 have h1 := zim words s;have h2 := zkx s;have h3 := ziX;generalize hw : words.contains s = w at h1;simp only [zp0] at h1 h3;generalize (words.map fun s => [U.str s]) = W at h1 h3;unfold zd6;rw [hw];clear hw;generalize ziH s = b at h2 ⊢;cases b
 all_goals
  (refine Fun.of_body Tryz.func99 rfl (by simp) fun Γ hn => ?_); simp only [entry, ziC, ziN, maC, maN, oA, Tryz.ntmps99]
  repeat' (first
  | ((first | refine zag ?_ | refine zaj ?_ | refine zah ?_ | fail); simp)
  | (refine zar ?_; simp only [zap])
  | (refine CallP.fE (h1) (by first | rfl | fail) (by first | (simp; done) | (simp; rfl) | fail) ?_; (try simp))
  | (refine CallP.fE (h2) (by first | rfl | fail) (by first | (simp; done) | (simp; rfl) | fail) ?_; (try simp))
  | (refine CallP.fE (h3) (by first | rfl | fail) (by first | (simp; done) | (simp; rfl) | fail) ?_; (try simp))
  | fail)
  (refine EndOK.val (.inr rfl) ?_; simp [zaz, zaf, zas, Tryz.results99])
def zbb (op : Int) : Int := if op = 0 \/ op = 1 then 0 else if op = 12 then 1 else if op = 13 then 3 else if op < 0 \/ 14 <= op then -1 else 2
theorem zi9 (op : Int) : Fun Tryz.prog 213 [.u (.int .i64 op)] (· = .u (.int .i64 (zbb op))) := by
 unfold zbb
 (refine Fun.of_body Tryz.func213 rfl (by simp) fun Γ hn => ?_); simp only [entry, ziC, ziN, maC, maN, oA, Tryz.ntmps213]
 repeat' (first
  | ((first | refine zag ?_ | refine zaj ?_ | refine zah ?_ | refine zai ?_ | refine zao ?_ | refine zat ?_ | fail); simp)
  | ((first | refine zar ?_ | refine zaq ?_ | fail); simp only [zap])
  | (refine ⟨?_, by omega⟩)
  | (refine ⟨fun hc => ?_, fun hc => ?_⟩ <;> (try (exfalso; omega)))
  | (intro hc <;> (try (exfalso; omega)))
  | fail)
 all_goals
  (refine EndOK.val (.inr rfl) ?_; simp [zaz, zaf, zas, Tryz.results213])
 all_goals (repeat' split) <;> first | rfl | omega | simp_all
theorem zqm : Exp.row = fun e => [.int .i64 e.op, .int .i64 e.n, .int .i64 e.unit, .str e.s, .sl (e.args.map Exp.row)] := funext fun e => e.row_eq
def zb7 (e : Exp) : D := .u (.agg [.int .i64 e.op, .int .i64 e.n, .int .i64 e.unit, .str e.s, .sl (e.args.map Exp.row)])
def zqX (l : List Exp) : U := .sl (l.map fun e => [.int .i64 e.op, .int .i64 e.n, .int .i64 e.unit, .str e.s, .sl (e.args.map Exp.row)])
theorem zql (l : List Exp) : zqX l = .sl (l.map Exp.row) := by rw [zqX, <- zqm]
theorem zlX (l : List (Exp)) (f : FuncId) (caps : List U) (p : Exp -> Bool) (hf : ∀ n ∈ l, Fun Tryz.prog f (zb7 n :: caps.map .u) (· = .u (.bool (p n)))) (hcl : zal Tryz.prog f = true)
  (hca : ∀ o, zcx o (caps.map .u) = some (caps.map .u, [])) : Fun Tryz.prog 272 [.u (zqX l), .fnc (.func f) (caps.map .u)] (· = .u (.int .i64 (zhz p l 0))) := by
 (refine Fun.of_body Tryz.func272 rfl (by simp) fun Γ hn => ?_); simp only [entry, ziC, ziN, maC, maN, oA, Tryz.ntmps272]
 simp only [zqX];refine zgW (x := 0) rfl fun hl => ?_;simp at hl
 repeat' (first
  | ((first | refine zag ?_ | refine zaj ?_ | refine zah ?_ | refine zao ?_ | fail); simp)
  | fail)
 refine zbH (α := { i : Nat // i <= l.length /\ ∀ c ∈ l.take i, p c = false }) [0, 1, 7] (fun i => [(8, .u (.int .i64 i.1))]) (fun i => l.length - i.1) ⟨0, by omega, by simp⟩ ?_ ?_
 ·exact (Wk.env rfl rfl rfl (by simp [wkE, St.lp, zam, zaa, getK] <;> (try (intros; simp_all; done)) <;> (try (intros; omega)) <;> (try grind)))
 rintro ⟨i, hi, hb⟩;simp [St.lp, St.only, zam, zaa, getK];rcases hx : l[i]? with _ | n
 ·have hge : l.length <= i := by simpa using hx
  repeat' (first
  | ((first | refine zag ?_ | refine zaj ?_ | fail); simp [hx])
  | (refine ⟨by omega, ?_⟩)
  | (refine zah ?_; simp [hx])
  | (refine zar ?_; simp only [zap])
  | (refine zaZ ?_; simp [zap])
  | (intro hc <;> (try (exfalso; omega)))
  | fail)
  (refine EndOK.val (.inr rfl) ?_; simp [zaz, zaf, zas, Tryz.results272])
  rw [List.take_of_length_le hge] at hb;exact (zfd hb).symm
 ·have hlt : i < l.length := (lGE.1 hx).1;have h1 := hf n (List.mem_of_getElem? hx);simp only [zb7] at h1;cases hp : p n
  ·rw [hp] at h1
   repeat' (first
  | ((first | refine zag ?_ | refine zaj ?_ | fail); simp [hx, hca])
  | (refine ⟨by omega, ?_⟩)
  | ((first | refine zah ?_ | refine zai ?_ | refine zat ?_ | fail); simp [hx, hca])
  | (refine zaq ?_; simp only [zap])
  | (refine ⟨?_, by omega⟩)
  | (intro hc <;> (try (exfalso; omega)))
  | (refine CallP.fE (h1) (by first | rfl | fail) (by first | simp [hx, hca] <;> rfl | fail) ?_; (try simp [hcl, hx, hca]))
  | fail)
   refine LoopW.next ⟨i + 1, by omega, za0 hx hb hp⟩ (by simp; omega) ?_
   exact (Wk.env rfl rfl rfl (by simp [wkE, St.lp, zam, zaa, getK] <;> (try (intros; simp_all; done)) <;> (try (intros; omega)) <;> (try grind)))
  ·rw [hp] at h1
   repeat' (first
  | ((first | refine zag ?_ | refine zaj ?_ | refine zah ?_ | refine zai ?_ | fail); simp [hx, hca])
  | ((first | refine zar ?_ | refine zaq ?_ | fail); simp only [zap])
  | (refine ⟨?_, by omega⟩)
  | (intro hc <;> (try (exfalso; omega)))
  | (refine CallP.fE (h1) (by first | rfl | fail) (by first | simp [hx, hca] <;> rfl | fail) ?_; (try simp [hcl, hx, hca]))
  | fail)
   (refine EndOK.val (.inr rfl) ?_; simp [zaz, zaf, zas, Tryz.results272])
   rw [zif hb hx hp];omega
theorem zin (l : List (Exp)) (f : FuncId) (caps : List U) (p : Exp -> Bool) (hf : ∀ n ∈ l, Fun Tryz.prog f (zb7 n :: caps.map .u) (· = .u (.bool (p n)))) (hcl : zal Tryz.prog f = true)
  (hca : ∀ o, zcx o (caps.map .u) = some (caps.map .u, [])) (hcb : ∀ o, zbO o (caps.map .u) = some (caps, [])) : Fun Tryz.prog 214 [.u (zqX l), .fnc (.func f) (caps.map .u)] (· = .u (.bool (l.any p))) := by
 have h1 := zlX l f caps p hf hcl hca
 (refine Fun.of_body Tryz.func214 rfl (by simp) fun Γ hn => ?_); simp only [entry, ziC, ziN, maC, maN, oA, Tryz.ntmps214]
 simp only [zqX] at h1 ⊢
 repeat' (first
  | ((first | refine zag ?_ | refine zaj ?_ | refine zah ?_ | fail); simp [hcb])
  | (refine zar ?_; simp only [zap])
  | (refine CallP.fE (h1) (by first | rfl | fail) (by first | simp [hcb] <;> rfl | fail) ?_; (try simp [hcl, hcb]))
  | fail)
 (refine EndOK.val (.inr rfl) ?_; simp [zaz, zaf, zas, Tryz.results214])
 have h2 := zig p l 0 (by omega);rw [Bool.eq_iff_iff];simpa using h2
def zsK (e : Exp) : Bool := decide (e.s = []) && decide (0 <= e.unit) && decide (e.unit < 5) && decide (0 <= e.n) && decide (e.n <= if e.unit = 0 then 1 else 1099511627776)
def zaO : Nat -> Exp -> Bool
 | 0, _ => false
 | d + 1, e => decide ((e.args.length : Int) = zbb e.op) && (if e.op = 0 then zsK e else if e.n ≠ 0 \/ e.unit ≠ 0 then false else if e.op = 1 then zd6 e.s else decide (e.s = []) && !e.args.any (fun x => !zaO d x))
set_option maxRecDepth 100000 in
set_option maxHeartbeats 4000000 in
theorem ziV : ∀ (d : Nat) (e : Exp), (d : Int) <= 100 -> Fun Tryz.prog 150 [zb7 e, .u (.int .i64 d)] (· = .u (.bool (zaO d e)))
 | 0, e, _ => by
  (refine Fun.of_body Tryz.func150 rfl (by simp) fun Γ hn => ?_); simp only [entry, ziC, ziN, maC, maN, oA, Tryz.ntmps150]
  simp only [zb7]
  repeat' (first
  | ((first | refine zag ?_ | refine zaN rfl ?_ | refine zaj ?_ | refine zah ?_ | refine zai ?_ | fail); simp)
  | (refine za4 (hC _ (by kernel_rfl)) (hk _ ?_); clear hC hk C k; simp only [zap])
  | (refine zaM rfl (by kernel_rfl) (by first | (simp [hn]; done) | (simp [hn]; omega) | fail) fun C k hC hk => ?_; simp)
  | (refine zbQ rfl (by simp) (fun hc => ?_) (fun hc => ?_) <;> (try simp at hc) <;> (try (exfalso; omega)) <;> (try simp))
  | (refine zar ?_; simp only [zap])
  | fail)
  (refine EndOK.val (.inr rfl) ?_; simp [zaz, zaf, zas, Tryz.results150])
  rfl
 | d + 1, e, hd => by
  have hr : ∀ x : Exp, Fun Tryz.prog 215 (zb7 x :: [U.row [.int .i64 ((d + 1 : Nat) : Int)] 0].map .u) (· = .u (.bool (!zaO d x))) := fun x => by
   have h1 := ziV d x (by omega)
   (refine Fun.of_body Tryz.func215 rfl (by simp) fun Γ hn => ?_); simp only [entry, ziC, ziN, maC, maN, oA, Tryz.ntmps215]
   simp only [zb7] at h1 ⊢
   repeat' (first
  | ((first | refine zag ?_ | refine zaj ?_ | fail); simp)
  | (refine ⟨by omega, ?_⟩)
  | (refine zah ?_; simp)
  | (refine zar ?_; simp only [zap])
  | (refine CallP.fE (h1) (by first | rfl | fail) (by first | (simp; done) | (simp; rfl) | fail) ?_; (try simp))
  | fail)
   (refine EndOK.val (.inr rfl) ?_; simp [zaz, zaf, zas, Tryz.results215])
  have hcon := zin e.args 215 [U.row [.int .i64 ((d + 1 : Nat) : Int)] 0] (fun x => !zaO d x) (fun x _ => hr x) (by simp) (fun _ => rfl) (fun _ => rfl);have hnam := zf5 e.s;have hopr := zi9 e.op;simp only [List.map_cons, List.map_nil] at hcon;rw [zaO];unfold zsK;generalize (e.args.any fun x => !zaO d x) = z at hcon ⊢;generalize zd6 e.s = nm at hnam ⊢;generalize hop : zbb e.op = oi at hopr ⊢
  (refine Fun.of_body Tryz.func150 rfl (by simp) fun Γ hn => ?_); simp only [entry, ziC, ziN, maC, maN, oA, Tryz.ntmps150]
  rw [zql] at hcon;simp only [zb7];by_cases hlen : (e.args.length : Int) = oi
  case neg =>
   repeat' (first
  | ((first | refine zag ?_ | refine zaN rfl ?_ | refine zcF rfl ?_ | refine zaj ?_ | refine zah ?_ | refine zai ?_ | fail); simp [hlen])
  | (refine za4 (hC _ (by kernel_rfl)) (hk _ ?_); clear hC hk C k; simp only [zap])
  | (refine zaM rfl (by kernel_rfl) (by first | (simp [hn]; done) | (simp [hn]; omega) | fail) fun C k hC hk => ?_; simp [hlen])
  | (refine zbQ rfl (by simp [hlen]) (fun hc => ?_) (fun hc => ?_) <;> (try simp [hlen] at hc) <;> (try (exfalso; omega)) <;> (try simp [hlen]))
  | (refine zar ?_; simp only [zap])
  | (refine CallV.fun_ (hopr) (by first | rfl | fail) (by first | simp [hlen] <;> rfl | fail) ?_ <;> (try simp [hlen]))
  | fail)
   (refine EndOK.val (.inr rfl) ?_; simp [zaz, zaf, zas, Tryz.results150])
   try (simp_all; done)
  by_cases h0 : e.op = 0
  case pos =>
   by_cases hu : e.unit = 0
   all_goals
    repeat' (first
  | ((first | refine zag ?_ | refine zaN rfl ?_ | refine zcF rfl ?_ | refine zaj ?_ | refine zah ?_ | refine zai ?_ | fail); simp [hlen, h0, hu])
  | (refine za4 (hC _ (by kernel_rfl)) (hk _ ?_); clear hC hk C k; simp only [zap])
  | (refine zaM rfl (by kernel_rfl) (by first | (simp [hn]; done) | (simp [hn]; omega) | fail) fun C k hC hk => ?_; simp [hlen, h0, hu])
  | (refine zbQ rfl (by simp [hlen, h0, hu]) (fun hc => ?_) (fun hc => ?_) <;> (try simp [hlen, h0, hu] at hc) <;> (try (exfalso; omega)) <;> (try simp [hlen, h0, hu]))
  | (refine zat ?_; simp [hlen, h0, hu])
  | ((first | refine zar ?_ | refine zaq ?_ | fail); simp only [zap])
  | (refine ⟨fun hc => ?_, fun hc => ?_⟩ <;> (try (exfalso; omega)))
  | (refine CallV.fun_ (hopr) (by first | rfl | fail) (by first | simp [hlen, h0, hu] <;> rfl | fail) ?_ <;> (try simp [hlen, h0, hu]))
  | fail)
    all_goals
     (refine EndOK.val (.inr rfl) ?_; simp [zaz, zaf, zas, Tryz.results150])
   all_goals clear hr hopr hcon hnam
   all_goals grind
  by_cases hnu : e.n ≠ 0 \/ e.unit ≠ 0
  case pos =>
   repeat' (first
  | ((first | refine zag ?_ | refine zaN rfl ?_ | refine zcF rfl ?_ | refine zaj ?_ | refine zah ?_ | refine zai ?_ | fail); simp [hlen, h0])
  | (refine za4 (hC _ (by kernel_rfl)) (hk _ ?_); clear hC hk C k; simp only [zap])
  | (refine zaM rfl (by kernel_rfl) (by first | (simp [hn]; done) | (simp [hn]; omega) | fail) fun C k hC hk => ?_; simp [hlen, h0])
  | (refine zbQ rfl (by simp [hlen, h0]) (fun hc => ?_) (fun hc => ?_) <;> (try simp [hlen, h0] at hc) <;> (try (exfalso; omega)) <;> (try simp [hlen, h0]))
  | ((first | refine zar ?_ | refine zaq ?_ | fail); simp only [zap])
  | (refine ⟨?_, by omega⟩)
  | (refine ⟨fun hc => ?_, fun hc => ?_⟩ <;> (try (exfalso; omega)))
  | (intro hc <;> (try (exfalso; omega)))
  | (refine CallV.fun_ (hopr) (by first | rfl | fail) (by first | simp [hlen, h0] <;> rfl | fail) ?_ <;> (try simp [hlen, h0]))
  | fail)
   all_goals
    (refine EndOK.val (.inr rfl) ?_; simp [zaz, zaf, zas, Tryz.results150])
   all_goals clear hr hopr hcon hnam
   all_goals grind
  by_cases h1 : e.op = 1
  case pos =>
   repeat' (first
  | ((first | refine zag ?_ | refine zaN rfl ?_ | refine zcF rfl ?_ | refine zaj ?_ | fail); simp [hlen, h0, h1])
  | (refine ⟨by omega, ?_⟩)
  | ((first | refine zah ?_ | refine zai ?_ | fail); simp [hlen, h0, h1])
  | (refine za4 (hC _ (by kernel_rfl)) (hk _ ?_); clear hC hk C k; simp only [zap])
  | (refine zaM rfl (by kernel_rfl) (by first | (simp [hn]; done) | (simp [hn]; omega) | fail) fun C k hC hk => ?_; simp [hlen, h0, h1])
  | (refine zbQ rfl (by simp [hlen, h0, h1]) (fun hc => ?_) (fun hc => ?_) <;> (try simp [hlen, h0, h1] at hc) <;> (try (exfalso; omega)) <;> (try simp [hlen, h0, h1]))
  | ((first | refine zar ?_ | refine zaq ?_ | fail); simp only [zap])
  | (refine ⟨?_, by omega⟩)
  | (intro hc <;> (try (exfalso; omega)))
  | (refine CallV.fun_ (hopr) (by first | rfl | fail) (by first | simp [hlen, h0, h1] <;> rfl | fail) ?_ <;> (try simp [hlen, h0, h1]))
  | (refine CallP.fE (hnam) (by first | rfl | fail) (by first | simp [hlen, h0, h1] <;> rfl | fail) ?_; (try simp [hlen, h0, h1]))
  | fail)
   all_goals
    (refine EndOK.val (.inr rfl) ?_; simp [zaz, zaf, zas, Tryz.results150])
   all_goals clear hr hopr hcon hnam
   all_goals grind
  by_cases hs : e.s = []
  all_goals
   repeat' (first
  | ((first | refine zag ?_ | refine zaN rfl ?_ | refine zcF rfl ?_ | refine zaj ?_ | fail); simp [hlen, h0, h1, hs])
  | (refine ⟨by omega, ?_⟩)
  | ((first | refine zah ?_ | refine zai ?_ | fail); simp [hlen, h0, h1, hs])
  | (refine za4 (hC _ (by kernel_rfl)) (hk _ ?_); clear hC hk C k; simp only [zap])
  | (refine zaM rfl (by kernel_rfl) (by first | (simp [hn]; done) | (simp [hn]; omega) | fail) fun C k hC hk => ?_; simp [hlen, h0, h1, hs])
  | (refine zbQ rfl (by simp [hlen, h0, h1, hs]) (fun hc => ?_) (fun hc => ?_) <;> (try simp [hlen, h0, h1, hs] at hc) <;> (try (exfalso; omega)) <;> (try simp [hlen, h0, h1, hs]))
  | ((first | refine zar ?_ | refine zaq ?_ | fail); simp only [zap])
  | (refine ⟨?_, by omega⟩)
  | (intro hc <;> (try (exfalso; omega)))
  | (refine CallV.fun_ (hopr) (by first | rfl | fail) (by first | simp [hlen, h0, h1, hs] <;> rfl | fail) ?_ <;> (try simp [hlen, h0, h1, hs]))
  | (refine CallP.fE (hcon) (by first | rfl | fail) (by first | simp [hlen, h0, h1, hs] <;> rfl | fail) ?_; (try simp [hlen, h0, h1, hs]))
  | fail)
   all_goals
    (refine EndOK.val (.inr rfl) ?_; simp [zaz, zaf, zas, Tryz.results150])
  all_goals clear hr hopr hcon hnam
  all_goals grind
theorem zcY (e : Exp) : Fun Tryz.prog 89 [zb7 e] (· = .u (.bool (zaO 12 e))) := by
 have h1 := ziV 12 e (by omega)
 (refine Fun.of_body Tryz.func89 rfl (by simp) fun Γ hn => ?_); simp only [entry, ziC, ziN, maC, maN, oA, Tryz.ntmps89]
 simp only [zb7] at h1 ⊢
 repeat' (first
  | ((first | refine zag ?_ | refine zaj ?_ | refine zah ?_ | fail); simp)
  | (refine zar ?_; simp only [zap])
  | (refine CallP.fE (h1) (by first | rfl | fail) (by first | (simp; done) | (simp; rfl) | fail) ?_; (try simp))
  | fail)
 (refine EndOK.val (.inr rfl) ?_; simp [zaz, zaf, zas, Tryz.results89])
theorem zb4 (l : List Tok) (p : Nat) (t : Tok) (hp : l[p]? = some t) (hl : l.length <= 1000000) : Fun Tryz.prog 127 [.u (zpH l p)] (· = .u (.agg [.int .i64 t.kind, .str t.text, .int .i64 t.n, .int .i64 t.pos])) := by
 have hlt := (lGE.1 hp).1;unfold zpH zmF
 (refine Fun.of_body Tryz.func127 rfl (by simp) fun Γ hn => ?_); simp only [entry, ziC, ziN, maC, maN, oA, Tryz.ntmps127]
 repeat' (first
  | ((first | refine zag ?_ | refine zaN rfl ?_ | refine zci rfl ?_ | refine zaj ?_ | refine zah ?_ | fail); simp [hp])
  | (refine za4 (hC _ (by kernel_rfl)) (hk _ ?_); clear hC hk C k; simp only [zap])
  | (refine zaM rfl (by kernel_rfl) (by first | (simp [hn]; done) | (simp [hn]; omega) | fail) fun C k hC hk => ?_; simp [hp])
  | (refine zar ?_; simp only [zap])
  | fail)
 (refine EndOK.val (.inr rfl) ?_; simp [zaz, zaf, zas, Tryz.results127])
theorem zeg (l : List Tok) (p : Nat) (w : List UInt8) (hp : p < l.length) (hl : l.length <= 1000000) : Fun Tryz.prog 124 [.u (zpH l p), .u (.str w)] (· = .u (.bool (isB l p w))) := by
 obtain ⟨t, ht⟩ : ∃ t, l[p]? = some t := ⟨_, List.getElem?_eq_getElem hp⟩;have hnx := zb4 l p t ht hl;unfold isB;rw [ht];unfold zpH zmF at *;by_cases h1 : t.kind = 0
 ·(refine Fun.of_body Tryz.func124 rfl (by simp) fun Γ hn => ?_); simp only [entry, ziC, ziN, maC, maN, oA, Tryz.ntmps124]
  repeat' (first
  | ((first | refine zag ?_ | refine zaj ?_ | refine zah ?_ | fail); simp [h1])
  | (refine zar ?_; simp only [zap])
  | (refine CallP.fE (hnx) (by first | rfl | fail) (by first | simp [h1] <;> rfl | fail) ?_; (try simp [h1]))
  | fail)
  all_goals
    (refine EndOK.val (.inr rfl) ?_; simp [zaz, zaf, zas, Tryz.results124])
  all_goals simp [h1]
 ·(refine Fun.of_body Tryz.func124 rfl (by simp) fun Γ hn => ?_); simp only [entry, ziC, ziN, maC, maN, oA, Tryz.ntmps124]
  repeat' (first
  | ((first | refine zag ?_ | refine zaj ?_ | refine zah ?_ | fail); simp [h1])
  | (refine zar ?_; simp only [zap])
  | (refine CallP.fE (hnx) (by first | rfl | fail) (by first | simp [h1] <;> rfl | fail) ?_; (try simp [h1]))
  | fail)
  all_goals
    (refine EndOK.val (.inr rfl) ?_; simp [zaz, zaf, zas, Tryz.results124])
  all_goals simp [h1]
theorem zbf (l : List Tok) (p : Nat) (w : List UInt8) (i nx : Nat) (hi : i < nx) (hp : p < l.length) (hl : l.length <= 1000000) :
  RetX Tryz.prog 200 [.ptr i 0, .u (.str w)] [(i, pOb l p)] nx (fun r o n => r = .val (.u (.bool (isB l p w))) /\ o = [(i, pOb l (if isB l p w = true then p + 1 else p))] /\ n = nx) := by
 have h1 := zeg l p w hp hl;unfold pOb zpH zmF at *;cases hb : isB l p w with
 | false =>
  rw [hb] at h1
  (refine RetX.of_bodyW Tryz.func200 rfl (by simp) fun Γ hn hpan => ?_); simp only [entry, ziC, ziN, maC, maN, oA, Tryz.ntmps200]
  repeat' (first
  | ((first | refine zag ?_ | refine zaj ?_ | refine zah ?_ | refine zai ?_ | fail); simp)
  | (refine zar ?_; simp only [zap])
  | (refine CallP.fE (h1) (by first | rfl | fail) (by first | (simp; done) | (simp; rfl) | fail) ?_; (try simp))
  | fail)
  (refine EndW.here ?_; (first | (refine EndOK.fin (.inr rfl) ?_) | (refine EndOK.fin (.inl rfl) ?_)); simp [zaz, zaf, Tryz.results200]; refine FinOK.here (by simp) ?_; try simp)
 | true =>
  rw [hb] at h1
  (refine RetX.of_bodyW Tryz.func200 rfl (by simp) fun Γ hn hpan => ?_); simp only [entry, ziC, ziN, maC, maN, oA, Tryz.ntmps200]
  repeat' (first
  | ((first | refine zag ?_ | refine zaj ?_ | fail); simp)
  | (refine ⟨by omega, ?_⟩)
  | ((first | refine zah ?_ | refine zai ?_ | fail); simp)
  | ((first | refine zar ?_ | refine zaq ?_ | fail); simp only [zap])
  | (refine CallP.fE (h1) (by first | rfl | fail) (by first | (simp; done) | (simp; rfl) | fail) ?_; (try simp))
  | fail)
  (refine EndW.here ?_; (first | (refine EndOK.fin (.inr rfl) ?_) | (refine EndOK.fin (.inl rfl) ?_)); simp [zaz, zaf, Tryz.results200]; refine FinOK.here (by simp) ?_; try simp)
def chP (pos e : Int) : List PanicEntry := [{ v := .iface 194 (.agg #[.int .i64 pos, .int .i64 e]), recovered := false }]
def isP (l : List Tok) (ob : Ob) : Prop := ∃ q : Nat, ob = pOb l q
theorem zeL (l : List Tok) (p : Nat) (e : Int) (i nx : Nat) (hi : i < nx) :
  RetX Tryz.prog 123 [.ptr i 0, .u (.bool true), .u (.int .i64 e)] [(i, pOb l p)] nx (fun r o n => r = .val (.tup []) /\ o = [(i, pOb l p)] /\ n = nx) := by
 (refine RetX.of_bodyW Tryz.func123 rfl (by simp) fun Γ hn hpan => ?_); simp only [entry, ziC, ziN, maC, maN, oA, Tryz.ntmps123]
 repeat' (first
  | ((first | refine zag ?_ | refine zaj ?_ | refine zah ?_ | refine zai ?_ | fail); simp)
  | (refine zaq ?_; simp only [zap])
  | fail)
 (refine EndW.here ?_; (first | (refine EndOK.fin (.inr rfl) ?_) | (refine EndOK.fin (.inl rfl) ?_)); simp [zaz, zaf, Tryz.results123]; refine FinOK.here (by simp) ?_; try simp)
theorem zdt (l : List Tok) (p : Nat) (t : Tok) (e : Int) (i nx : Nat) (hi : i < nx) (hp : l[p]? = some t) (hl : l.length <= 1000000) :
  RetX Tryz.prog 123 [.ptr i 0, .u (.bool false), .u (.int .i64 e)] [(i, pOb l p)] nx (fun r o n => r = .pan (chP t.pos e) /\ (∃ ob', isP l ob' /\ o = [(i, ob')]) /\ n = nx) := by
 have h1 := zb4 l p t hp hl
 (refine RetX.of_bodyW Tryz.func123 rfl (by simp) fun Γ hn hpan => ?_); simp only [entry, ziC, ziN, maC, maN, oA, Tryz.ntmps123]
 repeat' (first
  | ((first | refine zag ?_ | refine zaj ?_ | refine zah ?_ | refine zai ?_ | refine zat ?_ | fail); simp)
  | (refine CallP.fE (h1) (by first | rfl | fail) (by first | (simp; done) | (simp; rfl) | fail) ?_; (try simp))
  | fail)
 all_goals
  (refine hpan _ _ ⟨{ n := _, env := [], obs := [(i, pOb l p)], next := nx }, (Wk.cut rfl (by simp [hn]) (by simp [wkO, zaa, getK, zab, zac, Ob.under, D.under, zad, zae, hi]) (by simp [wkU, zam, zaa, getK, D.under, hi]) (by simp [wkE, zam, zaa, getK, hi])), by simp [hn], ?_⟩; try simp)
  all_goals exact ⟨rfl, p, rfl⟩
inductive PR (α : Type) where
 | ok (a : α) (p : Nat)
 | stop (pos e : Int)
def zdo (l : List Tok) (p : Nat) : Int := match l[p]? with | some t => t.pos | none => 0
def zbL (l : List Tok) : Nat -> List (List UInt8) -> PR Unit
 | p, [] => .ok () p
 | p, w :: ws => if isB l p w = true then zbL l (p + 1) ws else .stop (zdo l p) 12
def PPost {α : Type} (l : List Tok) (i nx : Nat) (val : α -> D) : PR α -> Out -> List (Nat × Ob) -> Nat -> Prop
 | .ok a q, o, obs, n => o = .val (val a) /\ obs = [(i, pOb l q)] /\ n = nx
 | .stop pos e, o, obs, n => o = .pan (chP pos e) /\ (∃ ob', isP l ob' /\ obs = [(i, ob')]) /\ n = nx
theorem zhP (l : List Tok) (p : Nat) (ws : List (List UInt8)) (i nx : Nat) (hi : i < nx) (hp : p < l.length) (hl : TokOK l) (hw : ws.length <= 100) :
  RetX Tryz.prog 129 [.ptr i 0, .u (.sl (ws.map fun w => [.str w]))] [(i, pOb l p)] nx (PPost l i nx (fun _ => .tup []) (zbL l p ws)) := by
 (refine RetX.of_bodyW Tryz.func129 rfl (by simp) fun Γ hn hpan => ?_); simp only [entry, ziC, ziN, maC, maN, oA, Tryz.ntmps129]
 repeat' (first
  | ((first | refine zag ?_ | refine zaj ?_ | refine zah ?_ | refine zao ?_ | fail); simp)
  | fail)
 refine zcq (α := { x : Nat × Nat // x.1 <= ws.length /\ x.2 < l.length /\ zbL l p ws = zbL l x.2 (ws.drop x.1) }) [0, 6, 7] (fun x => [(8, .u (.int .i64 x.1.1))]) (fun x => [(i, pOb l x.1.2)]) nx (fun x => ws.length - x.1.1) ⟨(0, p), by simp, hp, by simp⟩ ?_ ?_
 ·exact (Wk.cut rfl (by simp [hn, St.lp]) (by simp [wkO, St.lp, zaa, getK, Ob.under, D.under, zad, zae, hi]) (by simp [wkU, St.lp, zam, zaa, getK, D.under, hi]) (by simp [wkE, St.lp, zam, zaa, getK, hi] <;> (try (intros; simp_all; done)) <;> (try (intros; omega)) <;> (try grind)))
 rintro ⟨⟨k, q⟩, h1, h2, h3⟩;simp only at h1 h2 h3;simp [St.lp, St.only, zam, zaa, getK];rcases hx : ws[k]? with _ | w
 ·have hge : ws.length <= k := by simpa using hx
  obtain rfl : k = ws.length := by omega
  rw [List.drop_length, zbL] at h3
  repeat' (first
  | ((first | refine zag ?_ | refine zaj ?_ | refine zah ?_ | fail); simp [hx])
  | (refine zaZ ?_; simp [zap])
  | fail)
  rw [h3]
  (refine EndW.here ?_; (first | (refine EndOK.fin (.inr rfl) ?_) | (refine EndOK.fin (.inl rfl) ?_)); simp [zaz, zaf, Tryz.results129]; refine FinOK.here (by simp) ?_; try simp)
  simp [PPost]
 ·have hlt : k < ws.length := (lGE.1 hx).1;have hd : ws.drop k = w :: ws.drop (k + 1) := by
   obtain ⟨h5, h6⟩ := lGE.1 hx;rw [<- h6, List.getElem_cons_drop]
  rw [hd, zbL] at h3;have hh := zbf l q w i nx hi h2 hl.len;by_cases hb : isB l q w = true
  ·rw [if_pos hb] at h3;rw [hb, if_pos rfl] at hh;have hq := zba hl hb;have hck := zeL l (q + 1) 12 i nx hi
   repeat' (first
  | ((first | refine zag ?_ | refine zaj ?_ | fail); simp [hx])
  | (refine ⟨by omega, ?_⟩)
  | ((first | refine zah ?_ | refine zat ?_ | fail); simp [hx])
  | (refine zaq ?_; simp only [zap])
  | (refine ⟨?_, by omega⟩)
  | (intro hc <;> (try (exfalso; omega)))
  | (refine CallP.ok1 (hh) (by first | (simp [hx, zaa, getK, zab, zac]; done) | fail) (by rfl) (by rfl) ?_; (try simp [hx]))
  | (refine CallP.ok1 (hck) (by first | (simp [hx, zaa, getK, zab, zac]; done) | fail) (by rfl) (by rfl) ?_; (try simp [hx]))
  | fail)
   refine LoopW.next ⟨(k + 1, q + 1), by omega, hq, h3⟩ (by simp; omega) ?_
   exact (Wk.cut rfl (by simp [hn, St.lp]) (by simp [wkO, St.lp, zaa, getK, Ob.under, D.under, zad, zae, hi, zab, zac, zaa, getK]) (by simp [wkU, St.lp, zam, zaa, getK, D.under, hi, zab, zac, zaa, getK]) (by simp [wkE, St.lp, zam, zaa, getK, hi, zab, zac, zaa, getK] <;> (try (intros; simp_all; done)) <;> (try (intros; omega)) <;> (try grind)))
  ·have hb2 : isB l q w = false := by simpa using hb
   rw [if_neg hb] at h3;rw [hb2, if_neg (by simp)] at hh;obtain ⟨t, ht⟩ : ∃ t, l[q]? = some t := ⟨_, List.getElem?_eq_getElem h2⟩;have hck := zdt l q t 12 i nx hi ht hl.len
   repeat' (first
  | ((first | refine zag ?_ | refine zaj ?_ | refine zah ?_ | refine zat ?_ | fail); simp [hx])
  | (refine zaq ?_; simp only [zap])
  | (refine ⟨?_, by omega⟩)
  | (intro hc <;> (try (exfalso; omega)))
  | (refine CallP.ok1 (hh) (by first | (simp [hx, zaa, getK, zab, zac]; done) | fail) (by rfl) (by rfl) ?_; (try simp [hx]))
  | (refine CallP.zeQ (hck) (by first | (simp [hx, zaa, getK, zab, zac]; done) | fail) (by rfl) (by first | assumption | (simp; done) | fail) (by rfl) (by simp) ?_; rintro ob' ⟨q', rfl⟩; refine ⟨_, Wk.refl _, ?_⟩)
  | fail)
   rw [h3] at hpan
   (refine hpan _ _ ⟨{ n := _, env := [], obs := [(i, pOb l q')], next := nx }, (Wk.cut rfl (by simp [hn]) (by simp [wkO, zaa, getK, zab, zac, Ob.under, D.under, zad, zae, hi, zab, zac, zaa, getK]) (by simp [wkU, zam, zaa, getK, D.under, hi, zab, zac, zaa, getK]) (by simp [wkE, zam, zaa, getK, hi, zab, zac, zaa, getK])), by simp [hn], ?_⟩; try simp)
   all_goals exact ⟨by simp [zdo, ht], ⟨_, ⟨q', rfl⟩, rfl⟩, rfl⟩
theorem znd {c : UInt8} {r : List UInt8} {e : Int} (h : zg6 (c :: r) = .error e) : e ≠ 0 := by
 unfold zg6 at h;simp only at h;split at h
 ·split at h <;> cases h;omega
 ·split at h
  ·split at h <;> cases h;omega
  ·split at h <;> cases h;omega
theorem zkM {s : List UInt8} : ∀ (f p : Nat) (q : Nat) (e : Int), znn f s p = .error (q, e) -> p <= s.length -> e ≠ 0 /\ q <= s.length
 | 0, p, q, e, h, _ => by simp [znn] at h
 | f + 1, p, q, e, h, h3 => by
  rw [znn] at h;have hle := zdA zbT (s.drop p);rw [List.length_drop] at hle;split at h
  ·cases h
  ·rename_i c r hd;have hdl : (s.drop (p + zce zbT (s.drop p))).length = r.length + 1 := by rw [hd]; rfl
   rw [List.length_drop] at hdl;split at h
   ·rename_i ht;cases h;exact ⟨znd ht, by omega⟩
   ·rename_i t ht;obtain ⟨ht1, ht2⟩ := zfy ht;simp only [List.length_cons] at ht2;split at h
    ·rename_i x hx;cases h;exact zkM f _ q e hx (by omega)
    ·cases h
theorem zoS {s : List UInt8} {q : Nat} {e : Int} (h : zmh s = .error (q, e)) : e ≠ 0 /\ q <= s.length := by
 unfold zmh at h;split at h
 ·cases h; exact ⟨by decide, by omega⟩
 ·exact zkM _ _ _ _ h (by omega)
end Go.Proofs.YtepiegcjnaohjaaGreatDoor
namespace Go.Proofs.YtepiegcjnaohjaaGreatDoor
open Go Go.VL
def PR.bind {α β : Type} : PR α -> (α -> Nat -> PR β) -> PR β
 | .ok a p, f => f a p
 | .stop pos e, _ => .stop pos e
theorem PR.bind_ok {α β : Type} {a : α} {p : Nat} {f : α -> Nat -> PR β} : (PR.ok a p).bind f = f a p := rfl
theorem PR.zaK {α β : Type} {pos e : Int} {f : α -> Nat -> PR β} : (PR.stop pos e : PR α).bind f = .stop pos e := rfl
theorem PR.zaG {α β : Type} {r : PR α} {f : α -> Nat -> PR β} {b : β} {q : Nat} (h : r.bind f = .ok b q) : ∃ a p, r = .ok a p /\ f a p = .ok b q := by
 cases r with
 | ok a p => exact ⟨a, p, rfl, h⟩
 | stop => cases h
theorem PPost.zch {α : Type} {l i nx} {val : α -> D} {r : PR α} {a : α} {q : Nat} (h : r = .ok a q) {d : D} (hd : d = val a) {o : List (Nat × Ob)} (ho : o = [(i, pOb l q)]) : PPost l i nx val r (.val d) o nx := by
 subst h; subst hd; subst ho; exact ⟨rfl, rfl, rfl⟩
theorem PPost.zaB {α : Type} {l i nx} {val : α -> D} {r : PR α} {pos e : Int} {q : Nat} (h : r = .stop pos e) : PPost l i nx val r (.pan (chP pos e)) [(i, pOb l q)] nx := by
 subst h; exact ⟨rfl, ⟨_, ⟨q, rfl⟩, rfl⟩, rfl⟩
structure Opr where
 text : List UInt8
 op : Int
 form : Int
def oprs : List Opr := [⟨[111, 114], 11, 1⟩, ⟨[97, 110, 100], 10, 2⟩, ⟨[61, 61], 9, 4⟩, ⟨[60], 8, 4⟩, ⟨[43], 2, 5⟩, ⟨[45], 3, 5⟩, ⟨[42], 4, 6⟩, ⟨[47], 5, 6⟩]
def zq6 (l : List Tok) (p : Nat) : Option Opr := oprs.find? fun o => isB l p o.text
def zlh (l : List Tok) (p : Nat) : PR Int :=
 if isB l p [99, 111, 105, 110, 115] = true then .ok 3 (p + 1)
 else if isB l p [100, 97, 121, 115] = true then .ok 2 (p + 1)
 else if isB l p [112, 101, 114] = true then (zbL l (p + 1) [[109, 105, 108, 108, 101]]).bind fun _ q => .ok 4 q
 else .ok 1 p
mutual
def zej (l : List Tok) : Nat -> Nat -> Int -> PR Exp
 | 0, _, _ => .stop 0 0
 | f + 1, p, form => (zbx l f p form).bind fun e q => zeO l f form e.1 e.2 q
def zeO (l : List Tok) : Nat -> Int -> Exp -> Int -> Nat -> PR Exp
 | 0, _, _, _, _ => .stop 0 0
 | f + 1, form, e, own, q => match zq6 l q with
  | none => .ok e q
  | some x => if x.form < form \/ own < x.form \/ (own = 4 /\ x.form = 4) then .ok e q
   else (zej l f (q + 1) (x.form + 1)).bind fun e2 r => zeO l f form (.mk x.op 0 0 [] [e, e2]) x.form r
def zbx (l : List Tok) : Nat -> Nat -> Int -> PR (Exp × Int)
 | 0, _, _ => .stop 0 0
 | f + 1, p, form =>
  if form = 0 /\ isB l p [105, 102] = true then
   (zej l f (p + 1) 0).bind fun a q1 => (zbL l q1 [[116, 104, 101, 110]]).bind fun _ q2 => (zej l f q2 0).bind fun b q3 =>
   (zbL l q3 [[101, 108, 115, 101]]).bind fun _ q4 => (zej l f q4 0).bind fun c q5 => .ok (.mk 13 0 0 [] [a, b, c], 0) q5
  else if form <= 3 /\ isB l p [110, 111, 116] = true then (zej l f (p + 1) 3).bind fun a q => .ok (.mk 12 0 0 [] [a], 3) q
  else (zaX l f p).bind fun e q => .ok (e, 7) q
def zaX (l : List Tok) : Nat -> Nat -> PR Exp
 | 0, _ => .stop 0 0
 | f + 1, p => match l[p]? with
  | none => .stop 0 0
  | some t =>
   if t.kind = 2 then (zlh l (p + 1)).bind fun u q => .ok (.mk 0 t.n u [] []) q
   else if isB l p [116, 114, 117, 101] = true then .ok (.mk 0 1 0 [] []) (p + 1)
   else if isB l p [102, 97, 108, 115, 101] = true then .ok (.mk 0 0 0 [] []) (p + 1)
   else if isB l p [109, 105, 110] = true \/ isB l p [109, 97, 120] = true then
    (zbL l (p + 1) [[40]]).bind fun _ q1 => (zej l f q1 0).bind fun a q2 => (zbL l q2 [[44]]).bind fun _ q3 => (zej l f q3 0).bind fun b q4 =>
    (zbL l q4 [[41]]).bind fun _ q5 => .ok (.mk (if isB l p [109, 97, 120] = true then 7 else 6) 0 0 [] [a, b]) q5
   else if isB l p [40] = true then (zej l f (p + 1) 0).bind fun e q1 => (zbL l q1 [[41]]).bind fun _ q2 => .ok e q2
   else if t.kind = 1 /\ zd6 t.text = true then .ok (.mk 1 0 0 t.text []) (p + 1)
   else .stop t.pos 12
end
theorem zaW {l : List Tok} (hl : TokOK l) : ∀ (ws : List (List UInt8)) {p q : Nat}, zbL l p ws = .ok () q -> p < l.length -> p <= q /\ q < l.length
 | [], p, q, h, hp => by rw [zbL] at h; cases h; exact ⟨Nat.le_refl _, hp⟩
 | w :: ws, p, q, h, hp => by
  rw [zbL] at h;split at h
  ·rename_i hb;have := zaW hl ws h (zba hl hb);exact ⟨by omega, this.2⟩
  ·cases h
theorem zow {l : List Tok} (hl : TokOK l) {p q : Nat} {u : Int} (h : zlh l p = .ok u q) (hp : p < l.length) : p <= q /\ q < l.length := by
 unfold zlh at h;split at h
 ·rename_i hb; cases h; exact ⟨by omega, zba hl hb⟩
 ·split at h
  ·rename_i hb; cases h; exact ⟨by omega, zba hl hb⟩
  ·split at h
   ·rename_i hb;obtain ⟨a, r, h1, h2⟩ := PR.zaG h;cases h2;have := zaW hl _ h1 (zba hl hb);exact ⟨by omega, this.2⟩
   ·cases h; exact ⟨by omega, hp⟩
theorem zcm {l : List Tok} (hl : TokOK l) : ∀ (f : Nat),
  (∀ p form e q, zej l f p form = .ok e q -> p < l.length -> p <= q /\ q < l.length) /\
  (∀ form e own p e' q, zeO l f form e own p = .ok e' q -> p < l.length -> p <= q /\ q < l.length) /\
  (∀ p form e q, zbx l f p form = .ok e q -> p < l.length -> p <= q /\ q < l.length) /\
  (∀ p e q, zaX l f p = .ok e q -> p < l.length -> p <= q /\ q < l.length)
 | 0 => ⟨fun _ _ _ _ h => by simp [zej] at h, fun _ _ _ _ _ _ h => by simp [zeO] at h, fun _ _ _ _ h => by simp [zbx] at h, fun _ _ _ h => by simp [zaX] at h⟩
 | f + 1 => by
  obtain ⟨he, hlo, hpr, hpm⟩ := zcm hl f;refine ⟨fun p form e q h hp => ?_, fun form e own p e' q h hp => ?_, fun p form e q h hp => ?_, fun p e q h hp => ?_⟩
  ·rw [zej] at h;obtain ⟨a, r, h1, h2⟩ := PR.zaG h;have g1 := hpr _ _ _ _ h1 hp;have g2 := hlo _ _ _ _ _ _ h2 g1.2;exact ⟨by omega, g2.2⟩
  ·rw [zeO] at h;split at h
   ·cases h; exact ⟨by omega, hp⟩
   ·rename_i x hx;have hb := List.find?_some hx;have hp2 := zba hl hb;split at h
    ·cases h; exact ⟨by omega, hp⟩
    ·obtain ⟨a, r, h1, h2⟩ := PR.zaG h;have g1 := he _ _ _ _ h1 hp2;have g2 := hlo _ _ _ _ _ _ h2 g1.2;exact ⟨by omega, g2.2⟩
  ·rw [zbx] at h;split at h
   ·rename_i hb;have hp2 := zba hl hb.2;obtain ⟨a, r, h1, h⟩ := PR.zaG h;have g1 := he _ _ _ _ h1 hp2;obtain ⟨_, r2, h2, h⟩ := PR.zaG h;have g2 := zaW hl _ h2 g1.2;obtain ⟨a, r3, h3, h⟩ := PR.zaG h;have g3 := he _ _ _ _ h3 g2.2;obtain ⟨_, r4, h4, h⟩ := PR.zaG h;have g4 := zaW hl _ h4 g3.2;obtain ⟨a, r5, h5, h⟩ := PR.zaG h;have g5 := he _ _ _ _ h5 g4.2;cases h;exact ⟨by omega, g5.2⟩
   ·split at h
    ·rename_i hb;have hp2 := zba hl hb.2;obtain ⟨a, r, h1, h⟩ := PR.zaG h;have g1 := he _ _ _ _ h1 hp2;cases h;exact ⟨by omega, g1.2⟩
    ·obtain ⟨a, r, h1, h⟩ := PR.zaG h;have g1 := hpm _ _ _ h1 hp;cases h;exact g1
  ·rw [zaX] at h;split at h
   ·cases h
   ·rename_i t ht;split at h
    ·rename_i hk;have hp2 := hl.fin p t ht (by omega);obtain ⟨a, r, h1, h⟩ := PR.zaG h;have g1 := zow hl h1 hp2;cases h;exact ⟨by omega, g1.2⟩
    split at h
    ·rename_i hb; cases h; exact ⟨by omega, zba hl hb⟩
    split at h
    ·rename_i hb; cases h; exact ⟨by omega, zba hl hb⟩
    split at h
    ·rename_i hb;have hp2 : p + 1 < l.length := hb.elim (zba hl) (zba hl);obtain ⟨_, r2, h2, h⟩ := PR.zaG h;have g2 := zaW hl _ h2 hp2;obtain ⟨a, r3, h3, h⟩ := PR.zaG h;have g3 := he _ _ _ _ h3 g2.2;obtain ⟨_, r4, h4, h⟩ := PR.zaG h;have g4 := zaW hl _ h4 g3.2;obtain ⟨a, r5, h5, h⟩ := PR.zaG h;have g5 := he _ _ _ _ h5 g4.2;obtain ⟨_, r6, h6, h⟩ := PR.zaG h;have g6 := zaW hl _ h6 g5.2;cases h;exact ⟨by omega, g6.2⟩
    split at h
    ·rename_i hb;have hp2 := zba hl hb;obtain ⟨a, r3, h3, h⟩ := PR.zaG h;have g3 := he _ _ _ _ h3 hp2;obtain ⟨_, r4, h4, h⟩ := PR.zaG h;have g4 := zaW hl _ h4 g3.2;cases h;exact ⟨by omega, g4.2⟩
    split at h
    ·rename_i hk;cases h;exact ⟨by omega, hl.fin p t ht (by omega)⟩
    ·cases h
end Go.Proofs.YtepiegcjnaohjaaGreatDoor
namespace Go.Proofs.YtepiegcjnaohjaaGreatDoor
open Go Go.VL
abbrev W8 := List UInt8
def zlO : W8 -> Int
 | [] => 0
 | c :: _ => if zcU c = true then 1 else if zbe c = true then 2 else 3
theorem zo1 {w : W8} (h : w ≠ []) : zlO w ≠ 0 := by
 cases w with
 | nil => exact absurd rfl h
 | cons c w => rw [zlO]; split <;> (try split) <;> decide
def zrJ (w : W8) : Int := if zlO w = 2 then (zfw w).getD 0 else 0
def Reads (l : List Tok) (p : Nat) (ws : List W8) : Prop := ∀ i w, ws[i]? = some w -> w ≠ [] /\ ∃ t, l[p + i]? = some t /\ t.text = w /\ t.kind = zlO w /\ t.n = zrJ w
theorem Reads.left {l p} {a b : List W8} (h : Reads l p (a ++ b)) : Reads l p a := fun i w hi => h i w (by rw [List.getElem?_append_left (lGE.1 hi).1]; exact hi)
theorem Reads.right {l p} {a b : List W8} (h : Reads l p (a ++ b)) : Reads l (p + a.length) b := fun i w hi => by
 have := h (a.length + i) w (by rw [List.getElem?_append_right (by omega), Nat.add_sub_cancel_left]; exact hi)
 rwa [<- nAA] at this
theorem Reads.head {l p} {w : W8} {b : List W8} (h : Reads l p (w :: b)) : w ≠ [] /\ ∃ t, l[p]? = some t /\ t.text = w /\ t.kind = zlO w /\ t.n = zrJ w := h 0 w rfl
theorem Reads.tail {l p} {w : W8} {b : List W8} (h : Reads l p (w :: b)) : Reads l (p + 1) b := Reads.right (a := [w]) h
theorem Reads.isB {l p} {w : W8} {b : List W8} (h : Reads l p (w :: b)) (v : W8) : isB l p v = decide (w = v) := by
 obtain ⟨hw, t, ht, h1, h2, h3⟩ := h.head;have := zo1 hw;simp [Go.Proofs.YtepiegcjnaohjaaGreatDoor.isB, ht, h1, h2, this]
theorem Reads.want {l p} {w : W8} {b : List W8} (h : Reads l p (w :: b)) : zbL l p [w] = .ok () (p + 1) := by
 rw [zbL, if_pos (by rw [h.isB]; simp), zbL]
def Ev {α : Type} (g : Nat -> PR α) (r : PR α) : Prop := ∃ f0, ∀ f, f0 <= f -> g f = r
theorem Ev.succ {α : Type} {g : Nat -> PR α} {r : PR α} (h : Ev (fun f => g (f + 1)) r) : Ev g r := by
 obtain ⟨f0, h⟩ := h;refine ⟨f0 + 1, fun f hf => ?_⟩;obtain ⟨f, rfl⟩ : ∃ k, f = k + 1 := ⟨f - 1, by omega⟩;exact h f (by omega)
theorem Ev.const {α : Type} {r : PR α} : Ev (fun _ => r) r := ⟨0, fun _ _ => rfl⟩
theorem Ev.of {α : Type} {g : Nat -> PR α} {r : PR α} (h : ∀ f, g f = r) : Ev g r := ⟨0, fun f _ => h f⟩
theorem Ev.bind {α β : Type} {g : Nat -> PR α} {a : α} {q : Nat} {F : Nat -> α -> Nat -> PR β} {r : PR β} (h : Ev g (.ok a q)) (h2 : Ev (fun f => F f a q) r) : Ev (fun f => (g f).bind (F f)) r := by
 obtain ⟨f0, h⟩ := h;obtain ⟨f1, h2⟩ := h2;refine ⟨max f0 f1, fun f hf => ?_⟩;show (g f).bind (F f) = r;rw [h f (by omega), PR.bind_ok];exact h2 f (by omega)
end Go.Proofs.YtepiegcjnaohjaaGreatDoor
namespace Go.Proofs.YtepiegcjnaohjaaGreatDoor
open Go Go.VL
end Go.Proofs.YtepiegcjnaohjaaGreatDoor
namespace Go.Proofs.YtepiegcjnaohjaaGreatDoor
open Go Go.VL
end Go.Proofs.YtepiegcjnaohjaaGreatDoor
namespace Go.Proofs.YtepiegcjnaohjaaGreatDoor
open Go Go.VL
end Go.Proofs.YtepiegcjnaohjaaGreatDoor
namespace Go.Proofs.YtepiegcjnaohjaaGreatDoor
open Go Go.VL
end Go.Proofs.YtepiegcjnaohjaaGreatDoor
namespace Go.Proofs.YtepiegcjnaohjaaGreatDoor
open Go Go.VL
end Go.Proofs.YtepiegcjnaohjaaGreatDoor
namespace Go.Proofs.YtepiegcjnaohjaaGreatDoor
open Go Go.VL
def zsC (r : W8) : Prop := ∀ c t, r = c :: t -> zbT c = true
structure GoodW (w : W8) : Prop where
 next : ∀ r, zsC r -> zg6 (w ++ r) = .ok ⟨zlO w, w, zrJ w, 0⟩
 ne : w ≠ []
 head : ∀ c t, w = c :: t -> zbT c = false
def Spaced : List (W8 × W8) -> Prop
 | [] => True
 | [x] => GoodW x.1 /\ ∀ c ∈ x.2, zbT c = true
 | x :: y :: l => GoodW x.1 /\ (∀ c ∈ x.2, zbT c = true) /\ x.2 ≠ [] /\ Spaced (y :: l)
theorem Spaced.good {x : W8 × W8} {l : List (W8 × W8)} (h : Spaced (x :: l)) : GoodW x.1 /\ (∀ c ∈ x.2, zbT c = true) /\ (l ≠ [] -> x.2 ≠ []) /\ Spaced l := by
 cases l with
 | nil => exact ⟨h.1, h.2, fun h => absurd rfl h, trivial⟩
 | cons y l => exact ⟨h.1, h.2.1, fun _ => h.2.2.1, h.2.2.2⟩
end Go.Proofs.YtepiegcjnaohjaaGreatDoor
namespace Go.Proofs.YtepiegcjnaohjaaGreatDoor
open Go Go.VL
theorem PR.zca {α β : Type} {r : PR α} {F G : α -> Nat -> PR β} (h : ∀ a q, r = .ok a q -> F a q = G a q) : r.bind F = r.bind G := by
 cases r with
 | ok a q => exact h a q rfl
 | stop => rfl
theorem zkS {l : List Tok} (hl : TokOK l) : ∀ (f : Nat),
  (∀ p form, p < l.length -> 4 * (l.length - p) + 3 <= f -> zej l (f + 1) p form = zej l f p form) /\
  (∀ p form e own, p < l.length -> 4 * (l.length - p) + 2 <= f -> zeO l (f + 1) form e own p = zeO l f form e own p) /\
  (∀ p form, p < l.length -> 4 * (l.length - p) + 2 <= f -> zbx l (f + 1) p form = zbx l f p form) /\
  (∀ p, p < l.length -> 4 * (l.length - p) + 1 <= f -> zaX l (f + 1) p = zaX l f p)
 | 0 => ⟨fun _ _ _ h => by omega, fun _ _ _ _ _ h => by omega, fun _ _ _ h => by omega, fun _ _ h => by omega⟩
 | f + 1 => by
  obtain ⟨he, hlo, hpr, hpm⟩ := zkS hl f;obtain ⟨le, llo, lpr, lpm⟩ := zcm hl f;refine ⟨fun p form hp hf => ?_, fun p form e own hp hf => ?_, fun p form hp hf => ?_, fun p hp hf => ?_⟩
  ·simp only [zej];rw [hpr p form hp (by omega)];refine PR.zca fun a q hq => ?_;have g := lpr _ _ _ _ hq hp;exact hlo _ _ _ _ g.2 (by omega)
  ·rw [zeO, zeO];split
   ·rfl
   ·rename_i x hx;have hb := List.find?_some hx;have hp2 := zba hl hb;split
    ·rfl
    ·rw [he (p + 1) _ hp2 (by omega)];refine PR.zca fun a q hq => ?_;have g := le _ _ _ _ hq hp2;exact hlo _ _ _ _ g.2 (by omega)
  ·simp only [zbx];split
   ·rename_i hb;have hp2 := zba hl hb.2;rw [he (p + 1) _ hp2 (by omega)];refine PR.zca fun a q1 hq1 => ?_;have g1 := le _ _ _ _ hq1 hp2;refine PR.zca fun _ q2 hq2 => ?_;have g2 := zaW hl _ hq2 g1.2;rw [he q2 _ g2.2 (by omega)];refine PR.zca fun b q3 hq3 => ?_;have g3 := le _ _ _ _ hq3 g2.2;refine PR.zca fun _ q4 hq4 => ?_;have g4 := zaW hl _ hq4 g3.2;rw [he q4 _ g4.2 (by omega)]
   ·split
    ·rename_i hb;rw [he (p + 1) _ (zba hl hb.2) (by omega)]
    ·rw [hpm p hp (by omega)]
  ·simp only [zaX];split
   ·rfl
   ·split
    ·rfl
    ·split
     ·rfl
     ·split
      ·rfl
      ·split
       ·rename_i hb;have hp2 : p + 1 < l.length := hb.elim (zba hl) (zba hl);refine PR.zca fun _ q1 hq1 => ?_;have g1 := zaW hl _ hq1 hp2;rw [he q1 _ g1.2 (by omega)];refine PR.zca fun a q2 hq2 => ?_;have g2 := le _ _ _ _ hq2 g1.2;refine PR.zca fun _ q3 hq3 => ?_;have g3 := zaW hl _ hq3 g2.2;rw [he q3 _ g3.2 (by omega)]
       ·split
        ·rename_i hb;rw [he (p + 1) _ (zba hl hb) (by omega)]
        ·rfl
theorem zjo {l : List Tok} (hl : TokOK l) {p f : Nat} {form : Int} (hp : p < l.length) (hf : 4 * (l.length - p) + 3 <= f) : ∀ g, zej l (f + g) p form = zej l f p form
 | 0 => rfl
 | g + 1 => by rw [<- nAA, (zkS hl (f + g)).1 p form hp (by omega), zjo hl hp hf g]
theorem Ev.fuel {l : List Tok} (hl : TokOK l) {p f : Nat} {form : Int} {r : PR Exp} (h : Ev (fun f => zej l f p form) r) (hp : p < l.length) (hf : 4 * (l.length - p) + 3 <= f) : zej l f p form = r := by
 obtain ⟨f0, h⟩ := h;rw [<- zjo hl hp hf f0];exact h (f + f0) (by omega)
end Go.Proofs.YtepiegcjnaohjaaGreatDoor
namespace Go.Proofs.YtepiegcjnaohjaaGreatDoor
open Go Go.VL
def AllGood (ws : List W8) : Prop := ∀ w ∈ ws, GoodW w
theorem AllGood.nil : AllGood [] := fun _ h => by cases h
theorem AllGood.cons {w : W8} {ws : List W8} (h : GoodW w) (h2 : AllGood ws) : AllGood (w :: ws) := fun x hx => by
 rcases List.mem_cons.1 hx with rfl | hx
 ·exact h
 ·exact h2 x hx
theorem AllGood.app {a b : List W8} (h : AllGood a) (h2 : AllGood b) : AllGood (a ++ b) := fun x hx => by
 rcases List.mem_append.1 hx with hx | hx
 ·exact h x hx
 ·exact h2 x hx
end Go.Proofs.YtepiegcjnaohjaaGreatDoor
namespace Go.Proofs.YtepiegcjnaohjaaGreatDoor
open Go Go.VL
end Go.Proofs.YtepiegcjnaohjaaGreatDoor
namespace Go.Proofs.YtepiegcjnaohjaaGreatDoor
open Go Go.VL
attribute [local simp] zc6 zb2 evPure opd uOf zaC St.put St.at getK binD binI binS binB nilD aggD zhd zir lookD lookR zcB rangeS Go.VL.nextD Go.VL.nextS zcD ziF ziE zgE zbX mkV za8 zbj zbi zbh zc0 zbc zbq zbC mapEff zdd zf0 Key.kk shiftI arith unD convD zd4 loadD cellsAt fieldAddrD fieldD indexAddrD indexSlD arrAddr indexD sliceD cutD lenD minmaxD nilCheckD buildD fillD zbS zde zeV setAll zcM zeM zcv zhH zcr St.add zaS zbP rowsOf zdS zcw zak zac zaa zbm zcX zaQ entry zbI zbR valD zbU zcx zg2 zdv zdw zbZ zbO zaw zaR zbs delAll effD St.effS zdb zbk za1 zdc zbl za3 zcf za2 zaV zcg zc7 zbJ zcd zbt zcb zcc zau mkD zbw zbD zbN zaw zcu D.ids Op.operands Call.operands zbz makeIfD makeFuncD typeAssertD zio zdI zdJ zhX zcC IntKind.bits zcG List.take_of_length_le List.range_succ
attribute [local irreducible] V G H HD HD2 zap Eff CallP CallV EndOK Fun Ret FinOK LoopI LoopW EndW
def inB (lo hi : Int) (l : List Int) : Bool := !l.any fun n => decide (n < lo) || decide (hi < n)
theorem zqe (lo hi n : Int) : Fun Tryz.prog 166 (zqg n :: [U.row [.int .i64 lo] 0, U.row [.int .i64 hi] 0].map .u) (· = .u (.bool (decide (n < lo) || decide (hi < n)))) := by
 simp only [zqg, List.map_cons, List.map_nil]
 (refine Fun.of_body Tryz.func166 rfl (by simp) fun Γ hn => ?_); simp only [entry, ziC, ziN, maC, maN, oA, Tryz.ntmps166]
 repeat' (first
  | ((first | refine zag ?_ | refine zaj ?_ | refine zah ?_ | fail); simp)
  | (refine zar ?_; simp only [zap])
  | (refine ⟨fun hc => ?_, fun hc => ?_⟩ <;> (try (exfalso; omega)))
  | fail)
 all_goals
  (refine EndOK.val (.inr rfl) ?_; simp [zaz, zaf, zas, Tryz.results166])
 all_goals grind
theorem zjj (lo hi : Int) (l : List Int) : Fun Tryz.prog 98 [.u (.int .i64 lo), .u (.int .i64 hi), .u (zcO l)] (· = .u (.bool (inB lo hi l))) := by
 have h1 := zfk l 166 [U.row [.int .i64 lo] 0, U.row [.int .i64 hi] 0] _ (fun n _ => zqe lo hi n) (by simp) (fun _ => rfl) (fun _ => rfl);simp only [List.map_cons, List.map_nil] at h1;unfold inB
 (refine Fun.of_body Tryz.func98 rfl (by simp) fun Γ hn => ?_); simp only [entry, ziC, ziN, maC, maN, oA, Tryz.ntmps98]
 simp only [zcO] at h1 ⊢
 repeat' (first
  | ((first | refine zag ?_ | refine zaj ?_ | refine zah ?_ | fail); simp)
  | (refine zar ?_; simp only [zap])
  | (refine CallP.fE (h1) (by first | rfl | fail) (by first | (simp; done) | (simp; rfl) | fail) ?_; (try simp))
  | fail)
 (refine EndOK.val (.inr rfl) ?_; simp [zaz, zaf, zas, Tryz.results98])
theorem zlr (x l : Let) : Fun Tryz.prog 100 (zoZ x :: [U.row (zkP l) 0].map .u) (· = .u (.bool (decide (x.name = l.name)))) := by
 simp only [zoZ, zkP, List.map_cons, List.map_nil]
 (refine Fun.of_body Tryz.func100 rfl (by simp) fun Γ hn => ?_); simp only [entry, ziC, ziN, maC, maN, oA, Tryz.ntmps100]
 repeat' (first
  | ((first | refine zag ?_ | refine zaj ?_ | refine zah ?_ | fail); simp)
  | (refine zar ?_; simp only [zap])
  | fail)
 (refine EndOK.val (.inr rfl) ?_; simp [zaz, zaf, zas, Tryz.results100])
structure By where
 kind : Int
 period : Int
 grace : Int
 wait : Int
 last : Int
 order : Int
 sld : Bool
 backs : Int
 voices : Int
 jury : Int
 fund : Int
 lets : List Let
 due : Exp
 fine : Exp
 pay : Exp
 cover : Exp
 hold : Exp
 deriving Inhabited
def zaI (b : By) : List U := [.int .i64 b.kind, .int .i64 b.period, .int .i64 b.grace, .int .i64 b.wait, .int .i64 b.last, .int .i64 b.order, .bool b.sld, .int .i64 b.backs, .int .i64 b.voices, .int .i64 b.jury, .int .i64 b.fund,
 .sl (b.lets.map fun l => [.str l.name, .int .i64 l.body.op, .int .i64 l.body.n, .int .i64 l.body.unit, .str l.body.s, .sl (l.body.args.map Exp.row)]),
 .int .i64 b.due.op, .int .i64 b.due.n, .int .i64 b.due.unit, .str b.due.s, .sl (b.due.args.map Exp.row),
 .int .i64 b.fine.op, .int .i64 b.fine.n, .int .i64 b.fine.unit, .str b.fine.s, .sl (b.fine.args.map Exp.row),
 .int .i64 b.pay.op, .int .i64 b.pay.n, .int .i64 b.pay.unit, .str b.pay.s, .sl (b.pay.args.map Exp.row),
 .int .i64 b.cover.op, .int .i64 b.cover.n, .int .i64 b.cover.unit, .str b.cover.s, .sl (b.cover.args.map Exp.row),
 .int .i64 b.hold.op, .int .i64 b.hold.n, .int .i64 b.hold.unit, .str b.hold.s, .sl (b.hold.args.map Exp.row)]
def zqh (b : By) : Bool := inB 0 2 [b.kind] && inB 0 2 [b.order] && inB 1 1000 [b.period, b.last] && inB 0 1000 [b.grace, b.wait, b.voices, b.fund] && inB 0 60 [b.backs, b.jury]
def zjf (seen : List Let) : List Let -> Bool
 | [] => true
 | l :: r => zd6 l.name && zaO 12 l.body && !seen.any (fun x => decide (x.name = l.name)) && zjf (seen ++ [l]) r
theorem zoU {L : List Let} {i : Nat} {l : Let} (h : L[i]? = some l) : zjf (L.take i) (L.drop i) = (zd6 l.name && zaO 12 l.body && !(L.take i).any (fun x => decide (x.name = l.name)) && zjf (L.take (i + 1)) (L.drop (i + 1))) := by
 obtain ⟨hi, rfl⟩ := lGE.1 h;rw [List.drop_eq_getElem_cons hi, zjf, List.take_succ_eq_append_getElem hi]
def zre (b : By) : Bool := zaO 12 b.due && zaO 12 b.fine && zaO 12 b.pay && zaO 12 b.cover && zaO 12 b.hold
def zco (b : By) : Bool := zqh b && !(b.sld && decide (b.kind ≠ 1)) && decide (b.lets.length <= 20) && zjf [] b.lets && zre b
set_option maxRecDepth 100000 in
set_option maxHeartbeats 4000000 in
theorem zd3 (b : By) : Fun Tryz.prog 40 [.u (.agg (zaI b))] (· = .u (.bool (zco b))) := by
 have i1 := zjj 0 2 [b.kind];have i2 := zjj 0 2 [b.order];have i3 := zjj 1 1000 [b.period, b.last];have i4 := zjj 0 1000 [b.grace, b.wait, b.voices, b.fund];have i5 := zjj 0 60 [b.backs, b.jury];simp only [zcO, List.map_cons, List.map_nil] at i1 i2 i3 i4 i5;have hr : ∀ e : Exp, Fun Tryz.prog 89 [.u (.agg [.int .i64 e.op, .int .i64 e.n, .int .i64 e.unit, .str e.s, .sl (e.args.map Exp.row)])] (· = .u (.bool (zaO 12 e))) := fun e => zcY e;have e1 := hr b.due;have e2 := hr b.fine;have e3 := hr b.pay;have e4 := hr b.cover;have e5 := hr b.hold;unfold zco zqh zre;generalize inB 0 2 [b.kind] = c1 at i1 ⊢;generalize inB 0 2 [b.order] = c2 at i2 ⊢;generalize inB 1 1000 [b.period, b.last] = c3 at i3 ⊢;generalize inB 0 1000 [b.grace, b.wait, b.voices, b.fund] = c4 at i4 ⊢;generalize inB 0 60 [b.backs, b.jury] = c5 at i5 ⊢
 (refine Fun.of_body Tryz.func40 rfl (by simp) fun Γ hn => ?_); simp only [entry, ziC, ziN, maC, maN, oA, Tryz.ntmps40]
 simp only [zaI]
 repeat' (first
  | ((first | refine zag ?_ | refine zaj ?_ | refine zah ?_ | refine zai ?_ | refine zao ?_ | fail); simp)
  | ((first | refine zar ?_ | refine zaq ?_ | fail); simp only [zap])
  | (refine ⟨fun hc => ?_, fun hc => ?_⟩ <;> (try (exfalso; omega)))
  | (refine CallP.fE (i1) (by first | rfl | fail) (by first | (simp; done) | (simp; rfl) | fail) ?_; (try simp))
  | (refine CallP.fE (i2) (by first | rfl | fail) (by first | (simp; done) | (simp; rfl) | fail) ?_; (try simp))
  | (refine CallP.fE (i3) (by first | rfl | fail) (by first | (simp; done) | (simp; rfl) | fail) ?_; (try simp))
  | (refine CallP.fE (i4) (by first | rfl | fail) (by first | (simp; done) | (simp; rfl) | fail) ?_; (try simp))
  | (refine CallP.fE (i5) (by first | rfl | fail) (by first | (simp; done) | (simp; rfl) | fail) ?_; (try simp))
  | fail)
 all_goals try ((refine EndOK.val (.inr rfl) ?_; simp [zaz, zaf, zas, Tryz.results40]); clear i1 i2 i3 i4 i5 hr e1 e2 e3 e4 e5; grind)
 all_goals
  refine zbH (α := { i : Nat // i <= b.lets.length /\ zjf [] b.lets = zjf (b.lets.take i) (b.lets.drop i) }) [1, 62, 63] (fun i => [(64, .u (.int .i64 i.1))]) (fun i => b.lets.length - i.1) ⟨0, by omega, by simp⟩ ?_ ?_
  ·exact (Wk.cut rfl (by simp [hn, St.lp]) (by simp [wkO, St.lp, zaa, getK, Ob.under, D.under, zad, zae]) (by simp [wkU, St.lp, zam, zaa, getK, D.under]) (by simp [wkE, St.lp, zam, zaa, getK] <;> (try (intros; simp_all; done)) <;> (try (intros; omega)) <;> (try grind)))
  rintro ⟨i, hi, hb⟩;simp [St.lp, St.only, zam, zaa, getK];rcases hx : b.lets[i]? with _ | l
  ·have hge : b.lets.length <= i := by simpa using hx
   have hb' : zjf [] b.lets = true := by rw [hb, List.drop_of_length_le hge]; rfl
   generalize zaO 12 b.due = x1 at e1 ⊢;generalize zaO 12 b.fine = x2 at e2 ⊢;generalize zaO 12 b.pay = x3 at e3 ⊢;generalize zaO 12 b.cover = x4 at e4 ⊢;generalize zaO 12 b.hold = x5 at e5 ⊢
   repeat' (first
  | ((first | refine zag ?_ | refine zaj ?_ | fail); simp [hx])
  | (refine ⟨by omega, ?_⟩)
  | (refine zah ?_; simp [hx])
  | (refine zar ?_; simp only [zap])
  | (refine zaZ ?_; simp [zap])
  | (refine ⟨fun hc => ?_, fun hc => ?_⟩ <;> (try (exfalso; omega)))
  | (intro hc <;> (try (exfalso; omega)))
  | (refine CallP.fE (e1) (by first | rfl | fail) (by first | simp [hx] <;> rfl | fail) ?_; (try simp [hx]))
  | (refine CallP.fE (e2) (by first | rfl | fail) (by first | simp [hx] <;> rfl | fail) ?_; (try simp [hx]))
  | (refine CallP.fE (e3) (by first | rfl | fail) (by first | simp [hx] <;> rfl | fail) ?_; (try simp [hx]))
  | (refine CallP.fE (e4) (by first | rfl | fail) (by first | simp [hx] <;> rfl | fail) ?_; (try simp [hx]))
  | (refine CallP.fE (e5) (by first | rfl | fail) (by first | simp [hx] <;> rfl | fail) ?_; (try simp [hx]))
  | fail)
   all_goals
    (refine EndOK.val (.inr rfl) ?_; simp [zaz, zaf, zas, Tryz.results40])
   all_goals
    clear i1 i2 i3 i4 i5 hr e1 e2 e3 e4 e5
    grind
  ·have hlt : i < b.lets.length := (lGE.1 hx).1;have hnx := zoU hx;have e6 := zf5 l.name;have e7 := hr l.body;have e8 := zeb (b.lets.take i) 100 [U.row (zkP l) 0] _ (fun x _ => zlr x l) (by simp) (fun _ => rfl) (fun _ => rfl);simp only [zax, zkP, List.map_cons, List.map_nil] at e8;generalize zd6 l.name = y1 at e6 hnx;generalize zaO 12 l.body = y2 at e7 hnx;generalize ((b.lets.take i).any fun x => decide (x.name = l.name)) = y3 at e8 hnx
   repeat' (first
  | ((first | refine zag ?_ | refine zaj ?_ | fail); simp [hx])
  | (refine ⟨by omega, ?_⟩)
  | ((first | refine zah ?_ | refine zai ?_ | refine zat ?_ | fail); simp [hx])
  | ((first | refine zar ?_ | refine zaq ?_ | fail); simp only [zap])
  | (refine ⟨?_, by omega⟩)
  | (refine ⟨fun hc => ?_, fun hc => ?_⟩ <;> (try (exfalso; omega)))
  | (intro hc <;> (try (exfalso; omega)))
  | (refine CallP.fE (e6) (by first | rfl | fail) (by first | simp [hx] <;> rfl | fail) ?_; (try simp [hx]))
  | (refine CallP.fE (e7) (by first | rfl | fail) (by first | simp [hx] <;> rfl | fail) ?_; (try simp [hx]))
  | (refine CallP.fE (e8) (by first | rfl | fail) (by first | simp [hx] <;> rfl | fail) ?_; (try simp [hx]))
  | fail)
   all_goals first
    | (refine LoopW.next ⟨i + 1, by omega, by simp_all⟩ (by simp; omega) ?_; exact (Wk.cut rfl (by simp [hn, St.lp]) (by simp [wkO, St.lp, zaa, getK, Ob.under, D.under, zad, zae]) (by simp [wkU, St.lp, zam, zaa, getK, D.under]) (by simp [wkE, St.lp, zam, zaa, getK] <;> (try (intros; simp_all; done)) <;> (try (intros; omega)) <;> (try grind))))
    | ((refine EndOK.val (.inr rfl) ?_; simp [zaz, zaf, zas, Tryz.results40]); clear i1 i2 i3 i4 i5 hr e1 e2 e3 e4 e5 e6 e7 e8; grind)
theorem zl7 (u n : Int) : Fun Tryz.prog 276 (zqg u :: [U.row [.int .i64 n] 0].map .u) (· = .u (.bool (decide (u ≠ n)))) := by
 simp only [zqg, List.map_cons, List.map_nil]
 (refine Fun.of_body Tryz.func276 rfl (by simp) fun Γ hn => ?_); simp only [entry, ziC, ziN, maC, maN, oA, Tryz.ntmps276]
 repeat' (first
  | ((first | refine zag ?_ | refine zaj ?_ | refine zah ?_ | fail); simp)
  | (refine zar ?_; simp only [zap])
  | fail)
 (refine EndOK.val (.inr rfl) ?_; simp [zaz, zaf, zas, Tryz.results276])
def zg5 (u : Int) (l : List Int) : Bool := !l.any fun n => decide (n ≠ u)
theorem zgP (u : Int) (l : List Int) : Fun Tryz.prog 275 [.u (.int .i64 u), .u (.row [zcO l] 0)] (· = .u (.bool (zg5 u l))) := by
 have h1 := zfk l 276 [U.row [.int .i64 u] 0] _ (fun n _ => zl7 n u) (by simp) (fun _ => rfl) (fun _ => rfl);simp only [List.map_cons, List.map_nil] at h1;unfold zg5
 (refine Fun.of_body Tryz.func275 rfl (by simp) fun Γ hn => ?_); simp only [entry, ziC, ziN, maC, maN, oA, Tryz.ntmps275]
 simp only [zcO] at h1 ⊢
 repeat' (first
  | ((first | refine zag ?_ | refine zaj ?_ | refine zah ?_ | fail); simp)
  | (refine zar ?_; simp only [zap])
  | (refine CallP.fE (h1) (by first | rfl | fail) (by first | (simp; done) | (simp; rfl) | fail) ?_; (try simp))
  | fail)
 (refine EndOK.val (.inr rfl) ?_; simp [zaz, zaf, zas, Tryz.results275])
def zmO (a b : Int) : Int × Bool := if a = 0 \/ b = 0 then (0, false) else if a = 4 then (b, true) else if b = 4 then (a, true) else if a = 1 then (b, true) else if b = 1 then (a, true) else (0, false)
theorem zoE (a b : Int) : Fun Tryz.prog 277 [.u (.int .i64 a), .u (.int .i64 b)] (· = .tup [.u (.int .i64 (zmO a b).1), .u (.bool (zmO a b).2)]) := by
 (refine Fun.of_body Tryz.func277 rfl (by simp) fun Γ hn => ?_); simp only [entry, ziC, ziN, maC, maN, oA, Tryz.ntmps277]
 unfold zmO
 repeat' (first
  | ((first | refine zag ?_ | refine zaj ?_ | refine zah ?_ | refine zai ?_ | refine zao ?_ | fail); simp [zbR, zbI])
  | ((first | refine zar ?_ | refine zaq ?_ | fail); simp only [zap])
  | (refine ⟨fun hc => ?_, fun hc => ?_⟩ <;> (try (exfalso; omega)))
  | fail)
 all_goals try ((refine EndOK.val (.inr rfl) ?_; simp [zaz, zaf, zas, Tryz.results277]); simp_all; done)
 all_goals
  refine zbH (α := { i : Nat // i <= 2 /\ (1 <= i -> a ≠ 4 /\ b ≠ 4) /\ (2 <= i -> a ≠ 1 /\ b ≠ 1) }) [0, 1, 14, 15] (fun i => [(16, .u (.int .i64 i.1))]) (fun i => 2 - i.1) ⟨0, by omega, by omega, by omega⟩ ?_ ?_
  ·exact (Wk.cut rfl (by simp [hn, St.lp]) (by simp [wkO, St.lp, zaa, getK, Ob.under, D.under, zad, zae]) (by simp [wkU, St.lp, zam, zaa, getK, D.under]) (by simp [wkE, St.lp, zam, zaa, getK] <;> (try (intros; simp_all; done)) <;> (try (intros; omega)) <;> (try grind)))
  rintro ⟨i, hi, h1, h2⟩;simp [St.lp, St.only, zam, zaa, getK];have : i = 0 \/ i = 1 \/ i = 2 := by omega
  rcases this with rfl | rfl | rfl
  ·repeat' (first
  | ((first | refine zag ?_ | refine zaj ?_ | refine zah ?_ | refine zai ?_ | refine zat ?_ | fail); simp)
  | ((first | refine zar ?_ | refine zaq ?_ | fail); simp only [zap])
  | (refine ⟨fun hc => ?_, fun hc => ?_⟩ <;> (try (exfalso; omega)))
  | fail)
   ·(refine EndOK.val (.inr rfl) ?_; simp [zaz, zaf, zas, Tryz.results277])
    simp_all
   ·(refine EndOK.val (.inr rfl) ?_; simp [zaz, zaf, zas, Tryz.results277])
    simp_all
   ·refine LoopW.next ⟨1, by omega, by omega, by omega⟩ (by simp) ?_
    exact (Wk.cut rfl (by simp [hn, St.lp]) (by simp [wkO, St.lp, zaa, getK, Ob.under, D.under, zad, zae]) (by simp [wkU, St.lp, zam, zaa, getK, D.under]) (by simp [wkE, St.lp, zam, zaa, getK] <;> (try (intros; simp_all; done)) <;> (try (intros; omega)) <;> (try grind)))
  ·repeat' (first
  | ((first | refine zag ?_ | refine zaj ?_ | refine zah ?_ | refine zai ?_ | refine zat ?_ | fail); simp)
  | ((first | refine zar ?_ | refine zaq ?_ | fail); simp only [zap])
  | (refine ⟨fun hc => ?_, fun hc => ?_⟩ <;> (try (exfalso; omega)))
  | fail)
   ·(refine EndOK.val (.inr rfl) ?_; simp [zaz, zaf, zas, Tryz.results277])
    simp_all
   ·(refine EndOK.val (.inr rfl) ?_; simp [zaz, zaf, zas, Tryz.results277])
    simp_all
   ·refine LoopW.next ⟨2, by omega, by omega, by omega⟩ (by simp) ?_
    exact (Wk.cut rfl (by simp [hn, St.lp]) (by simp [wkO, St.lp, zaa, getK, Ob.under, D.under, zad, zae]) (by simp [wkU, St.lp, zam, zaa, getK, D.under]) (by simp [wkE, St.lp, zam, zaa, getK] <;> (try (intros; simp_all; done)) <;> (try (intros; omega)) <;> (try grind)))
  ·repeat' (first
  | ((first | refine zag ?_ | refine zaj ?_ | refine zah ?_ | fail); simp)
  | (refine zar ?_; simp only [zap])
  | (refine zaZ ?_; simp [zap])
  | fail)
   (refine EndOK.val (.inr rfl) ?_; simp [zaz, zaf, zas, Tryz.results277])
   simp_all
def l0 (l : List Int) (i : Nat) : Int := l.getD i 0
def zhe (op : Int) (l : List Int) : Int × Bool :=
 if op = 2 \/ op = 3 \/ op = 6 \/ op = 7 then (l0 l 0, zg5 (l0 l 0) l && decide (l0 l 0 ≠ 0))
 else if op = 4 then zmO (l0 l 0) (l0 l 1)
 else if op = 5 then (if l0 l 1 = 1 then (l0 l 0, decide (l0 l 0 ≠ 0) && decide (l0 l 0 ≠ 4)) else (1, zg5 (l0 l 0) l && (decide (l0 l 0 = 3) || decide (l0 l 0 = 2))))
 else if op = 8 then (0, zg5 (l0 l 0) l && decide (l0 l 0 ≠ 0))
 else if op = 9 then (0, zg5 (l0 l 0) l)
 else if op = 13 then (l0 l 1, decide (l0 l 0 = 0) && decide (l0 l 1 = l0 l 2))
 else (0, zg5 0 l)
theorem ztY {l : List Int} (h : (l.length : Int) = 1) : ∃ a, l = [a] := List.length_eq_one_iff.1 (by omega)
theorem ztX {l : List Int} (h : (l.length : Int) = 2) : ∃ a b, l = [a, b] := by
 match l, h with
 | [], h => simp at h
 | [a], h => simp at h
 | [a, b], _ => exact ⟨a, b, rfl⟩
 | a :: b :: c :: l, h => simp at h; omega
theorem ztW {l : List Int} (h : (l.length : Int) = 3) : ∃ a b c, l = [a, b, c] := by
 match l, h with
 | [], h => simp at h
 | [a], h => simp at h
 | [a, b], h => simp at h
 | [a, b, c], _ => exact ⟨a, b, c, rfl⟩
 | a :: b :: c :: d :: l, h => simp at h; omega
theorem zpe (op : Int) (l : List Int) (hop : 2 <= op /\ op < 14) (hl : (l.length : Int) = zbb op) : Fun Tryz.prog 229 [.u (.int .i64 op), .u (zcO l)] (· = .tup [.u (.int .i64 (zhe op l).1), .u (.bool (zhe op l).2)]) := by
 have h12 : op = 12 \/ op = 13 \/ op = 2 \/ op = 3 \/ op = 4 \/ op = 5 \/ op = 6 \/ op = 7 \/ op = 8 \/ op = 9 \/ op = 10 \/ op = 11 := by omega
 rcases h12 with rfl | rfl | h12
 ·obtain ⟨a, rfl⟩ := ztY (hl.trans rfl);have h1 := zgP 0 [a];simp only [zhe, l0];generalize zg5 0 [a] = o1 at h1 ⊢
  (refine Fun.of_body Tryz.func229 rfl (by simp) fun Γ hn => ?_); simp only [entry, ziC, ziN, maC, maN, oA, Tryz.ntmps229]
  simp only [zcO, List.map_cons, List.map_nil] at h1 ⊢
  repeat' (first
  | ((first | refine zag ?_ | refine zaj ?_ | refine zah ?_ | refine zai ?_ | refine zao ?_ | refine zat ?_ | fail); simp)
  | ((first | refine zar ?_ | refine zaq ?_ | fail); simp only [zap])
  | (refine CallP.fE (h1) (by first | rfl | fail) (by first | (simp; done) | (simp; rfl) | fail) ?_; (try simp))
  | fail)
  all_goals
   (refine EndOK.val (.inr rfl) ?_; simp [zaz, zaf, zas, Tryz.results229])
 ·obtain ⟨a, b, c, rfl⟩ := ztW (hl.trans rfl);simp only [zhe, l0]
  (refine Fun.of_body Tryz.func229 rfl (by simp) fun Γ hn => ?_); simp only [entry, ziC, ziN, maC, maN, oA, Tryz.ntmps229]
  simp only [zcO, List.map_cons, List.map_nil]
  repeat' (first
  | ((first | refine zag ?_ | refine zee ?_ | refine zaj ?_ | refine zah ?_ | refine zai ?_ | fail); simp)
  | (refine zfp ?_)
  | (refine hk _ ?_; clear hk k; simp only [zap])
  | (refine zed rfl (by kernel_rfl) (by kernel_rfl) fun k hk => ?_; simp)
  | (refine zk8 rfl (by simp) (fun hc => ?_) (fun hc => ?_) <;> (try simp at hc) <;> (try (exfalso; omega)) <;> (try simp))
  | ((first | refine zao ?_ | refine zat ?_ | fail); simp)
  | (refine zar ?_; simp only [zap])
  | fail)
  all_goals
   (refine EndOK.val (.inr rfl) ?_; simp [zaz, zaf, zas, Tryz.results229])
  all_goals (simp_all; done)
 ·obtain ⟨a, b, rfl⟩ := ztX (l := l) (by rw [hl]; rcases h12 with rfl | rfl | rfl | rfl | rfl | rfl | rfl | rfl | rfl | rfl <;> rfl);clear hl hop;have h1 := zgP a [a, b];have h2 := zgP 0 [a, b];have h3 := zoE a b;have e0 : l0 [a, b] 0 = a := rfl;have e1 : l0 [a, b] 1 = b := rfl;unfold zhe;rw [e0, e1];clear e0 e1;generalize zg5 a [a, b] = o1 at h1 ⊢;generalize zg5 0 [a, b] = o2 at h2 ⊢;generalize zmO a b = p at h3 ⊢;simp only [zcO, List.map_cons, List.map_nil] at h1 h2 ⊢;rcases h12 with rfl | rfl | rfl | rfl | rfl | rfl | rfl | rfl | rfl | rfl
  all_goals
   (refine Fun.of_body Tryz.func229 rfl (by simp) fun Γ hn => ?_); simp only [entry, ziC, ziN, maC, maN, oA, Tryz.ntmps229]
   repeat' (first
  | ((first | refine zag ?_ | refine zee ?_ | refine zaj ?_ | refine zah ?_ | refine zai ?_ | fail); simp)
  | (refine zfp ?_)
  | (refine hk _ ?_; clear hk k; simp only [zap])
  | (refine zed rfl (by kernel_rfl) (by kernel_rfl) fun k hk => ?_; simp)
  | (refine zod rfl (by simp) ?_; simp)
  | (refine zk8 rfl (by simp) (fun hc => ?_) (fun hc => ?_) <;> (try simp at hc) <;> (try (exfalso; omega)) <;> (try simp))
  | ((first | refine zao ?_ | refine zat ?_ | fail); simp)
  | ((first | refine zar ?_ | refine zaq ?_ | fail); simp only [zap])
  | (refine ⟨fun hc => ?_, fun hc => ?_⟩ <;> (try (exfalso; omega)))
  | (refine CallV.fun_ (h1) (by first | rfl | fail) (by first | (simp; done) | (simp; rfl) | fail) ?_ <;> (try simp))
  | (refine CallP.fE (h1) (by first | rfl | fail) (by first | (simp; done) | (simp; rfl) | fail) ?_; (try simp))
  | (refine CallP.fE (h2) (by first | rfl | fail) (by first | (simp; done) | (simp; rfl) | fail) ?_; (try simp))
  | (refine CallV.fun_ (h3) (by first | rfl | fail) (by first | (simp; done) | (simp; rfl) | fail) ?_ <;> (try simp))
  | fail)
   all_goals
    (refine EndOK.val (.inr rfl) ?_; simp [zaz, zaf, zas, Tryz.results229])
   all_goals (clear h1 h2 h3; first | (simp_all; done) | (grind) | skip)
def asc {β : Type} : List (List UInt8 × β) -> List UInt8 -> Option β
 | [], _ => none
 | (k, b) :: l, x => if x = k then some b else asc l x
def zcZ {β : Type} : List (List UInt8 × β) -> List UInt8 -> β -> List (List UInt8 × β)
 | [], x, b => [(x, b)]
 | (k, c) :: l, x, b => if x = k then (k, b) :: l else (k, c) :: zcZ l x b
theorem zgC {β : Type} (f : β -> List U) (x : List UInt8) : ∀ (l : List (List UInt8 × β)), zbX (l.map fun p => (Key.s p.1, f p.2)) (.s x) = (asc l x).map f
 | [] => rfl
 | (k, b) :: l => by
  simp only [List.map_cons, zbX, asc, Key.s.injEq];split
  ·rfl
  ·exact zgC f x l
theorem zhU {β : Type} (f : β -> List U) (x : List UInt8) (b : β) : ∀ (l : List (List UInt8 × β)), zdd (l.map fun p => (Key.s p.1, f p.2)) (.s x) (f b) = (zcZ l x b).map fun p => (Key.s p.1, f p.2)
 | [] => rfl
 | (k, c) :: l => by
  simp only [List.map_cons, zdd, zcZ, Key.s.injEq];split
  ·rfl
  ·simp only [List.map_cons]; rw [zhU f x b l]
theorem zkp {β : Type} (x y : List UInt8) (b : β) : ∀ (l : List (List UInt8 × β)), asc (zcZ l x b) y = if y = x then some b else asc l y
 | [] => by simp [zcZ, asc]
 | (k, c) :: l => by
  simp only [zcZ];split
  ·rename_i h;subst h;simp only [asc];split <;> rfl
  ·rename_i h;simp only [asc, zkp x y b l];by_cases h1 : y = k
   ·subst h1; simp [Ne.symm h]
   ·simp [h1]
mutual
def zd0 (g : List UInt8 -> Option Int) (m : List UInt8 -> Option (Int × Int)) : Exp -> Int × Int
 | .mk op _ u s args =>
  if op = 0 then (u, 0)
  else if op = 1 then (match g s with | some u => (u, 0) | none => match m s with | some r => r | none => (0, 13))
  else match ze5 g m args with
   | .error b => (0, b)
   | .ok l => if (zhe op l).2 = true then ((zhe op l).1, 0) else (0, 14)
def ze5 (g : List UInt8 -> Option Int) (m : List UInt8 -> Option (Int × Int)) : List Exp -> Except Int (List Int)
 | [] => .ok []
 | e :: r => if (zd0 g m e).2 ≠ 0 then .error (zd0 g m e).2 else match ze5 g m r with
  | .error b => .error b
  | .ok l => .ok ((zd0 g m e).1 :: l)
end
theorem zhW (g m) (e : Exp) : zd0 g m e = if e.op = 0 then (e.unit, 0)
  else if e.op = 1 then (match g e.s with | some u => (u, 0) | none => match m e.s with | some r => r | none => (0, 13))
  else match ze5 g m e.args with
   | .error b => (0, b)
   | .ok l => if (zhe e.op l).2 = true then ((zhe e.op l).1, 0) else (0, 14) := by
 cases e with | mk op n u s args => rw [zd0]; rfl
theorem ziO {g m} : ∀ {l : List Exp}, (∀ x ∈ l, (zd0 g m x).2 = 0) -> ze5 g m l = .ok (l.map fun x => (zd0 g m x).1)
 | [], _ => by rw [ze5]; rfl
 | e :: r, h => by
  rw [ze5, if_neg (by simp [h e (by simp)]), ziO fun x hx => h x (by simp [hx])];rfl
theorem zhj {g m} : ∀ {l : List Exp} {i : Nat} {e : Exp}, l[i]? = some e -> (∀ x ∈ l.take i, (zd0 g m x).2 = 0) -> (zd0 g m e).2 ≠ 0 -> ze5 g m l = .error (zd0 g m e).2
 | [], i, e, h, _, _ => by simp at h
 | a :: r, 0, e, h, _, h2 => by
  simp at h;subst h;rw [ze5, if_pos h2]
 | a :: r, i + 1, e, h, h1, h2 => by
  rw [ze5, if_neg (by simp [h1 a (by simp)]), zhj (l := r) (i := i) (by simpa using h) (fun x hx => h1 x (by simp [hx])) h2]
mutual
def zeR (m : List UInt8 -> Bool) : Exp -> Bool
 | .mk op _ u s args =>
  if op = 0 then decide (u = 4)
  else if op = 1 then m s
  else if op = 2 \/ op = 3 \/ op = 6 \/ op = 7 then zdn m args 0
  else if op = 4 then zdn m args 0 && zdn m args 1
  else if op = 13 then zdn m args 1
  else false
def zdn (m : List UInt8 -> Bool) : List Exp -> Nat -> Bool
 | [], _ => false
 | e :: _, 0 => zeR m e
 | _ :: r, n + 1 => zdn m r n
end
theorem zmI (m) (e : Exp) : zeR m e = if e.op = 0 then decide (e.unit = 4)
  else if e.op = 1 then m e.s
  else if e.op = 2 \/ e.op = 3 \/ e.op = 6 \/ e.op = 7 then zdn m e.args 0
  else if e.op = 4 then zdn m e.args 0 && zdn m e.args 1
  else if e.op = 13 then zdn m e.args 1
  else false := by
 cases e with | mk op n u s args => rw [zeR]; rfl
abbrev LM := List (List UInt8 × Int × Int × Bool)
abbrev GM := List (List UInt8 × Int)
def zke (g : GM) : List (Key × List U) := g.map fun p => (Key.s p.1, [U.int .i64 p.2])
def zpJ (m : LM) : List (Key × List U) := m.map fun p => (Key.s p.1, [U.int .i64 p.2.1, .int .i64 p.2.2.1, .bool p.2.2.2])
theorem zkL (g : GM) (x : List UInt8) : zbX (zke g) (.s x) = (asc g x).map fun u => [U.int .i64 u] := zgC (fun u : Int => [U.int .i64 u]) x g
theorem zpI (g : LM) (x : List UInt8) : zbX (zpJ g) (.s x) = (asc g x).map fun q => [U.int .i64 q.1, .int .i64 q.2.1, .bool q.2.2] := zgC (fun q : Int × Int × Bool => [U.int .i64 q.1, .int .i64 q.2.1, .bool q.2.2]) x g
def jU (g : GM) (m : LM) : U := .row [.map .s false (zke g), .map .s true (zpJ m)] 0
def gF (g : GM) : List UInt8 -> Option Int := asc g
def mF (m : LM) : List UInt8 -> Option (Int × Int) := fun x => (asc m x).map fun q => (q.1, q.2.1)
def sF (m : LM) : List UInt8 -> Bool := fun x => ((asc m x).map fun q => q.2.2).getD false
theorem zcJ {d : Nat} {e : Exp} (h : zaO (d + 1) e = true) : (e.args.length : Int) = zbb e.op /\ 0 <= e.op /\ e.op < 14 /\ (e.op ≠ 0 -> e.op ≠ 1 -> ∀ x ∈ e.args, zaO d x = true) := by
 rw [zaO, Bool.and_eq_true, decide_eq_true_eq] at h;obtain ⟨h1, h2⟩ := h;have h3 : 0 <= e.op /\ e.op < 14 := by
  unfold zbb at h1;split at h1
  ·omega
  ·split at h1
   ·omega
   ·split at h1
    ·omega
    ·split at h1
     ·omega
     ·omega
 refine ⟨h1, h3.1, h3.2, fun ha hb x hx => ?_⟩;rw [if_neg ha] at h2;split at h2
 ·cases h2
 ·simp only [if_neg hb, Bool.and_eq_true, Bool.not_eq_true', List.any_eq_false, Bool.not_eq_true] at h2;have := h2.2 x hx;simpa using this
theorem zkB (g : GM) (m : LM) : ∀ (d : Nat) (e : Exp), zaO d e = true -> Fun Tryz.prog 180 [.u (jU g m), zb7 e] (· = .tup [.u (.int .i64 (zd0 (gF g) (mF m) e).1), .u (.int .i64 (zd0 (gF g) (mF m) e).2)])
 | 0, e, h => by simp [zaO] at h
 | d + 1, e, h => by
  obtain ⟨h1, h2, h3, h4⟩ := zcJ h;have hg := zkL g e.s;have hm := zpI m e.s;by_cases h0 : e.op = 0
  ·rw [zhW, if_pos h0]
   (refine Fun.of_body Tryz.func180 rfl (by simp) fun Γ hn => ?_); simp only [entry, ziC, ziN, maC, maN, oA, Tryz.ntmps180]
   simp only [zb7, jU]
   repeat' (first
  | ((first | refine zag ?_ | refine zaj ?_ | refine zah ?_ | refine zai ?_ | refine zao ?_ | fail); simp [h0])
  | (refine zar ?_; simp only [zap])
  | fail)
   (refine EndOK.val (.inr rfl) ?_; simp [zaz, zaf, zas, Tryz.results180])
  by_cases hnm : e.op = 1
  ·rw [zhW, if_neg h0, if_pos hnm]
   (refine Fun.of_body Tryz.func180 rfl (by simp) fun Γ hn => ?_); simp only [entry, ziC, ziN, maC, maN, oA, Tryz.ntmps180]
   simp only [zb7, jU];cases hga : asc g e.s with
   | some u =>
    rw [hga] at hg;simp only [Option.map_some] at hg
    repeat' (first
  | ((first | refine zag ?_ | refine zee ?_ | refine zaj ?_ | refine zah ?_ | refine zai ?_ | fail); simp [h0, hnm, hg])
  | (refine zfp ?_)
  | (refine hk _ ?_; clear hk k; simp only [zap])
  | (refine zed rfl (by kernel_rfl) (by kernel_rfl) fun k hk => ?_; simp [h0, hnm, hg])
  | (refine zao ?_; simp [h0, hnm, hg])
  | (refine zar ?_; simp only [zap])
  | fail)
    (refine EndOK.val (.inr rfl) ?_; simp [zaz, zaf, zas, Tryz.results180])
    simp [gF, hga]
   | none =>
    rw [hga] at hg;simp only [Option.map_none] at hg;cases hma : asc m e.s with
    | some q =>
     rw [hma] at hm;simp only [Option.map_some] at hm
     repeat' (first
  | ((first | refine zag ?_ | refine ziy rfl ?_ | refine zee ?_ | refine ziA rfl ?_ | refine zaj ?_ | refine zah ?_ | refine zai ?_ | fail); simp [h0, hnm, hg, hm])
  | (refine ziz (hC _ (by kernel_rfl)) (hk _ ?_); clear hC hk C k; simp only [zap])
  | (refine zfp ?_)
  | (refine hk _ ?_; clear hk k; simp only [zap])
  | (refine zed rfl (by kernel_rfl) (by kernel_rfl) fun k hk => ?_; simp [h0, hnm, hg, hm])
  | (refine ziw rfl (by kernel_rfl) (by kernel_rfl) (by simp [hn]) fun C k hC hk => ?_; simp [h0, hnm, hg, hm])
  | (refine zao ?_; simp [h0, hnm, hg, hm])
  | ((first | refine zar ?_ | refine zaq ?_ | fail); simp only [zap])
  | fail)
     (refine EndOK.val (.inr rfl) ?_; simp [zaz, zaf, zas, Tryz.results180])
     simp [gF, hga, mF, hma]
    | none =>
     rw [hma] at hm;simp only [Option.map_none] at hm
     repeat' (first
  | ((first | refine zag ?_ | refine ziy rfl ?_ | refine zee ?_ | refine ziA rfl ?_ | refine zaj ?_ | refine zah ?_ | refine zai ?_ | fail); simp [h0, hnm, hg, hm])
  | (refine ziz (hC _ (by kernel_rfl)) (hk _ ?_); clear hC hk C k; simp only [zap])
  | (refine zfp ?_)
  | (refine hk _ ?_; clear hk k; simp only [zap])
  | (refine zed rfl (by kernel_rfl) (by kernel_rfl) fun k hk => ?_; simp [h0, hnm, hg, hm])
  | (refine ziw rfl (by kernel_rfl) (by kernel_rfl) (by simp [hn]) fun C k hC hk => ?_; simp [h0, hnm, hg, hm])
  | (refine zao ?_; simp [h0, hnm, hg, hm])
  | ((first | refine zar ?_ | refine zaq ?_ | fail); simp only [zap])
  | fail)
     (refine EndOK.val (.inr rfl) ?_; simp [zaz, zaf, zas, Tryz.results180])
     simp [gF, hga, mF, hma]
  rw [zhW, if_neg h0, if_neg hnm]
  (refine Fun.of_body Tryz.func180 rfl (by simp) fun Γ hn => ?_); simp only [entry, ziC, ziN, maC, maN, oA, Tryz.ntmps180]
  simp only [zb7, jU];have hr := h4 h0 hnm
  repeat' (first
  | ((first | refine zag ?_ | refine zaj ?_ | refine zah ?_ | refine zai ?_ | refine zao ?_ | fail); simp [h0, hnm])
  | (refine zaq ?_; simp only [zap])
  | fail)
  refine zqY _ (Wk.own 10 3 1 (by decide) rfl) ?_;simp [St.own];refine zcq (α := { p : Nat × List Int // p.1 <= e.args.length /\ p.2 = (e.args.take p.1).map (fun x => (zd0 (gF g) (mF m) x).1) /\ ∀ x ∈ e.args.take p.1, (zd0 (gF g) (mF m) x).2 = 0 }) [0, 3, 53, 54]
   (fun p => [(10, .vec 1 p.1.2.length), (55, .u (.int .i64 p.1.1))]) (fun p => [(1, .vec 3 1 (rowsD (p.1.2.map fun n => [U.int .i64 n]))), (0, .box [.u (.int .i64 e.op), .u (.int .i64 e.n), .u (.int .i64 e.unit), .u (.str e.s), .u (.sl (e.args.map Exp.row))])]) 2
   (fun p => e.args.length - p.1.1) ⟨(0, []), by simp, by simp, by simp⟩ ?_ ?_
  ·exact (Wk.cut rfl (by simp [hn, St.lp]) (by simp [wkO, St.lp, zaa, getK, Ob.under, D.under, zad, zae]) (by simp [wkU, St.lp, zam, zaa, getK, D.under]) (by simp [wkE, St.lp, zam, zaa, getK] <;> (try (intros; simp_all; done)) <;> (try (intros; omega)) <;> (try grind)))
  rintro ⟨⟨i, acc⟩, hi, hacc, hb⟩;simp only at hi hacc hb;simp [St.lp, St.only, zam, zaa, getK];rcases hx : e.args[i]? with _ | x
  ·have hge : e.args.length <= i := by simpa using hx
   rw [List.take_of_length_le hge] at hacc hb;have hok := ziO hb;rw [<- hacc] at hok;have hal : (acc.length : Int) = zbb e.op := by rw [hacc]; simpa using h1
   have h5 := zpe e.op acc (by omega) hal;simp only [zcO] at h5;generalize hcb : zhe e.op acc = cb at h5;obtain ⟨c1, c2⟩ := cb
   repeat' (first
  | ((first | refine zag ?_ | refine zaj ?_ | fail); simp [hx, h0, hnm])
  | (refine ⟨by omega, ?_⟩)
  | ((first | refine zah ?_ | refine zai ?_ | fail); simp [hx, h0, hnm])
  | ((first | refine zar ?_ | refine zaq ?_ | fail); simp only [zap])
  | (refine zaZ ?_; simp [zap])
  | (refine ⟨fun hc => ?_, fun hc => ?_⟩ <;> (try (exfalso; omega)))
  | (intro hc <;> (try (exfalso; omega)))
  | (refine CallP.fE (h5) (by first | rfl | fail) (by first | simp [hx, h0, hnm] <;> rfl | fail) ?_; (try simp [hx, h0, hnm]))
  | fail)
   all_goals
    (refine EndOK.val (.inr rfl) ?_; simp [zaz, zaf, zas, Tryz.results180])
   all_goals (rw [hok]; simp_all; done)
  ·have hlt : i < e.args.length := (lGE.1 hx).1;have h5 := zkB g m d x (hr x (List.mem_of_getElem? hx));simp only [zb7, jU] at h5;have hal : acc.length = i := by rw [hacc]; simp; omega
   have h3a : e.args.length <= 3 := by
    have : zbb e.op ≤ 3 := by unfold zbb; repeat' split
                              all_goals omega
    omega
   have her := fun h => zhj (g := gF g) (m := mF m) hx hb h;generalize hun : zd0 (gF g) (mF m) x = un at h5 her;obtain ⟨u, er⟩ := un
   repeat' (first
  | ((first | refine zag ?_ | refine zaj ?_ | fail); simp [hx, x.row_eq, h0, hnm])
  | (refine ⟨by omega, ?_⟩)
  | ((first | refine zah ?_ | refine zai ?_ | refine zat ?_ | fail); simp [hx, x.row_eq, h0, hnm])
  | ((first | refine zar ?_ | refine zaq ?_ | fail); simp only [zap])
  | (refine ⟨?_, by omega⟩)
  | (refine ⟨fun hc => ?_, fun hc => ?_⟩ <;> (try (exfalso; omega)))
  | (intro hc <;> (try (exfalso; omega)))
  | (refine CallP.fE (h5) (by first | rfl | fail) (by first | simp [hx, x.row_eq, h0, hnm] <;> rfl | fail) ?_; (try simp [hx, x.row_eq, h0, hnm]))
  | fail)
   ·(refine EndOK.val (.inr rfl) ?_; simp [zaz, zaf, zas, Tryz.results180])
    rw [her (by simpa using (by assumption : ¬ er = 0))];simp
   ·skip
    refine LoopW.next ⟨(i + 1, acc ++ [u]), (by omega : i + 1 <= e.args.length), (?_ : acc ++ [u] = _), ?_⟩ (by simp; omega) ?_
    ·rw [List.take_succ_eq_append_getElem hlt, List.map_append, <- hacc, (lGE.1 hx).2];simp [hun]
    ·exact za0 hx hb (by simp_all)
    ·exact (Wk.ren ((fun i => if i = 1 then 4 else i)) rfl (by first | (simp [hn]; done) | (intro i hi; rw [hn] at hi; constructor <;> (try simp) <;> (try (intro _)) <;> omega)) (by simp [zoj, St.lp, zam, zaa, getK, zac, zak, D.under, D.le, D.ren] <;> (try (intros; simp_all; done)) <;> (try omega)) (by simp [wkR, St.lp, zaa, getK, zac, zak, obR, leU, zcL, zbp, Ob.under, D.under, D.le, D.ren] <;> (try (intros; simp_all; done)) <;> (try omega)) (by simp))
theorem zdN (g : GM) (m : LM) : ∀ (d : Nat) (e : Exp), zaO d e = true -> Fun Tryz.prog 228 [.u (jU g m), zb7 e] (· = .u (.bool (zeR (sF m) e)))
 | 0, e, h => by simp [zaO] at h
 | d + 1, e, h => by
  obtain ⟨h1, h2, h3, h4⟩ := zcJ h;rw [zmI];have hm := zpI m e.s;by_cases h0 : e.op = 0
  ·rw [if_pos h0]
   (refine Fun.of_body Tryz.func228 rfl (by simp) fun Γ hn => ?_); simp only [entry, ziC, ziN, maC, maN, oA, Tryz.ntmps228]
   simp only [zb7, jU]
   repeat' (first
  | ((first | refine zag ?_ | refine zaj ?_ | refine zah ?_ | refine zai ?_ | refine zao ?_ | fail); simp [h0])
  | (refine zar ?_; simp only [zap])
  | fail)
   (refine EndOK.val (.inr rfl) ?_; simp [zaz, zaf, zas, Tryz.results228])
  rw [if_neg h0];by_cases hnm : e.op = 1
  ·rw [if_pos hnm];cases hma : asc m e.s with
   | some q =>
    rw [hma] at hm;simp only [Option.map_some] at hm
    (refine Fun.of_body Tryz.func228 rfl (by simp) fun Γ hn => ?_); simp only [entry, ziC, ziN, maC, maN, oA, Tryz.ntmps228]
    simp only [zb7, jU]
    repeat' (first
  | ((first | refine zag ?_ | refine zee ?_ | refine zaj ?_ | refine zah ?_ | refine zai ?_ | fail); simp [h0, hnm, hm])
  | (refine zfp ?_)
  | (refine hk _ ?_; clear hk k; simp only [zap])
  | (refine zed rfl (by kernel_rfl) (by kernel_rfl) fun k hk => ?_; simp [h0, hnm, hm])
  | (refine zao ?_; simp [h0, hnm, hm])
  | (refine zar ?_; simp only [zap])
  | fail)
    (refine EndOK.val (.inr rfl) ?_; simp [zaz, zaf, zas, Tryz.results228])
    simp [sF, hma]
   | none =>
    rw [hma] at hm;simp only [Option.map_none] at hm
    (refine Fun.of_body Tryz.func228 rfl (by simp) fun Γ hn => ?_); simp only [entry, ziC, ziN, maC, maN, oA, Tryz.ntmps228]
    simp only [zb7, jU]
    repeat' (first
  | ((first | refine zag ?_ | refine zee ?_ | refine zaj ?_ | refine zah ?_ | refine zai ?_ | fail); simp [h0, hnm, hm])
  | (refine zfp ?_)
  | (refine hk _ ?_; clear hk k; simp only [zap])
  | (refine zed rfl (by kernel_rfl) (by kernel_rfl) fun k hk => ?_; simp [h0, hnm, hm])
  | (refine zao ?_; simp [h0, hnm, hm])
  | (refine zar ?_; simp only [zap])
  | fail)
    (refine EndOK.val (.inr rfl) ?_; simp [zaz, zaf, zas, Tryz.results228])
    simp [sF, hma]
  rw [if_neg hnm];have hr := h4 h0 hnm;by_cases hA : e.op = 2 \/ e.op = 3 \/ e.op = 6 \/ e.op = 7
  ·rw [if_pos hA];have hl : e.args.length = 2 := by
    rcases hA with ha | ha | ha | ha <;> rw [ha] at h1 <;> simp [zbb] at h1 <;> omega
   obtain ⟨a, b, hab⟩ : ∃ a b, e.args = [a, b] := by
    match hq : e.args, hl with
    | [a, b], _ => exact ⟨a, b, rfl⟩
   have h5 := zdN g m d a (hr a (by simp [hab]));simp only [zb7, jU] at h5;rw [hab, zdn];rcases hA with ha | ha | ha | ha
   all_goals
    (refine Fun.of_body Tryz.func228 rfl (by simp) fun Γ hn => ?_); simp only [entry, ziC, ziN, maC, maN, oA, Tryz.ntmps228]
    simp only [zb7, jU]
    repeat' (first
  | ((first | refine zag ?_ | refine zaj ?_ | refine zah ?_ | refine zai ?_ | refine zao ?_ | refine zat ?_ | fail); simp [ha, hab, a.row_eq, b.row_eq])
  | ((first | refine zar ?_ | refine zaq ?_ | fail); simp only [zap])
  | (refine CallP.fE (h5) (by first | rfl | fail) (by first | simp [ha, hab, a.row_eq, b.row_eq] <;> rfl | fail) ?_; (try simp [ha, hab, a.row_eq, b.row_eq]))
  | fail)
    (refine EndOK.val (.inr rfl) ?_; simp [zaz, zaf, zas, Tryz.results228])
  rw [if_neg hA];by_cases hB : e.op = 4
  ·rw [if_pos hB];have hl : e.args.length = 2 := by rw [hB] at h1; simp [zbb] at h1; omega
   obtain ⟨a, b, hab⟩ : ∃ a b, e.args = [a, b] := by
    match hq : e.args, hl with
    | [a, b], _ => exact ⟨a, b, rfl⟩
   have h5 := zdN g m d a (hr a (by simp [hab]));have h6 := zdN g m d b (hr b (by simp [hab]));simp only [zb7, jU] at h5 h6;rw [hab, zdn, zdn, zdn];generalize zeR (sF m) a = x1 at h5 ⊢;generalize zeR (sF m) b = x2 at h6 ⊢
   (refine Fun.of_body Tryz.func228 rfl (by simp) fun Γ hn => ?_); simp only [entry, ziC, ziN, maC, maN, oA, Tryz.ntmps228]
   simp only [zb7, jU]
   repeat' (first
  | ((first | refine zag ?_ | refine zaj ?_ | refine zah ?_ | refine zai ?_ | refine zao ?_ | refine zat ?_ | fail); simp [hB, hab, a.row_eq, b.row_eq])
  | (refine zar ?_; simp only [zap])
  | (refine ⟨fun hc => ?_, fun hc => ?_⟩ <;> (try (exfalso; omega)))
  | (refine CallP.fE (h5) (by first | rfl | fail) (by first | simp [hB, hab, a.row_eq, b.row_eq] <;> rfl | fail) ?_; (try simp [hB, hab, a.row_eq, b.row_eq]))
  | (refine CallP.fE (h6) (by first | rfl | fail) (by first | simp [hB, hab, a.row_eq, b.row_eq] <;> rfl | fail) ?_; (try simp [hB, hab, a.row_eq, b.row_eq]))
  | fail)
   all_goals
    (refine EndOK.val (.inr rfl) ?_; simp [zaz, zaf, zas, Tryz.results228])
   all_goals (simp_all; done)
  rw [if_neg hB];by_cases hC : e.op = 13
  ·rw [if_pos hC];have hl : e.args.length = 3 := by rw [hC] at h1; simp [zbb] at h1; omega
   obtain ⟨a, b, c, hab⟩ : ∃ a b c, e.args = [a, b, c] := by
    match hq : e.args, hl with
    | [a, b, c], _ => exact ⟨a, b, c, rfl⟩
   have h5 := zdN g m d b (hr b (by simp [hab]));simp only [zb7, jU] at h5;rw [hab, zdn, zdn]
   (refine Fun.of_body Tryz.func228 rfl (by simp) fun Γ hn => ?_); simp only [entry, ziC, ziN, maC, maN, oA, Tryz.ntmps228]
   simp only [zb7, jU]
   repeat' (first
  | ((first | refine zag ?_ | refine zaj ?_ | refine zah ?_ | refine zai ?_ | refine zao ?_ | refine zat ?_ | fail); simp [hC, hab, a.row_eq, b.row_eq, c.row_eq])
  | (refine zar ?_; simp only [zap])
  | (refine CallP.fE (h5) (by first | rfl | fail) (by first | simp [hC, hab, a.row_eq, b.row_eq, c.row_eq] <;> rfl | fail) ?_; (try simp [hC, hab, a.row_eq, b.row_eq, c.row_eq]))
  | fail)
   (refine EndOK.val (.inr rfl) ?_; simp [zaz, zaf, zas, Tryz.results228])
  rw [if_neg hC];have hD : ¬ e.op = 2 /\ ¬ e.op = 3 /\ ¬ e.op = 6 /\ ¬ e.op = 7 := by omega
  (refine Fun.of_body Tryz.func228 rfl (by simp) fun Γ hn => ?_); simp only [entry, ziC, ziN, maC, maN, oA, Tryz.ntmps228]
  simp only [zb7, jU]
  repeat' (first
  | ((first | refine zag ?_ | refine zaj ?_ | refine zah ?_ | refine zai ?_ | refine zao ?_ | refine zat ?_ | fail); simp [h0, hnm, hB, hC, hD.1, hD.2.1, hD.2.2.1, hD.2.2.2])
  | ((first | refine zar ?_ | refine zaq ?_ | fail); simp only [zap])
  | fail)
  (refine EndOK.val (.inr rfl) ?_; simp [zaz, zaf, zas, Tryz.results228])
theorem zp7 (l : Let) : Fun Tryz.prog 227 (zoZ l :: [].map .u) (· = .u (.bool (!zaO 12 l.body))) := by
 have h1 := zcY l.body;simp only [zoZ, List.map_nil, zb7] at h1 ⊢
 (refine Fun.of_body Tryz.func227 rfl (by simp) fun Γ hn => ?_); simp only [entry, ziC, ziN, maC, maN, oA, Tryz.ntmps227]
 repeat' (first
  | ((first | refine zag ?_ | refine zaj ?_ | refine zah ?_ | fail); simp)
  | (refine zar ?_; simp only [zap])
  | (refine CallP.fE (h1) (by first | rfl | fail) (by first | (simp; done) | (simp; rfl) | fail) ?_; (try simp))
  | fail)
 (refine EndOK.val (.inr rfl) ?_; simp [zaz, zaf, zas, Tryz.results227])
def zeT (l : List Var) : U := .sl (l.map fun v => [.str v.name, .int .i64 v.unit, .int .i64 v.n])
def gOf (names : List Var) : GM := names.foldl (fun g v => if asc g v.name = none then zcZ g v.name v.unit else g) []
def mOf (g : GM) (lets : List Let) : LM := lets.foldl (fun m l => zcZ m l.name ((zd0 (gF g) (mF m) l.body).1, (zd0 (gF g) (mF m) l.body).2, zeR (sF m) l.body)) []
def zgl (v : Var) : Bool := decide (0 <= v.unit) && decide (v.unit < 5)
def zcA (lets : List Let) (e : Exp) : Bool := decide (lets.length <= 20) && zaO 12 e && !lets.any (fun l => !zaO 12 l.body)
def okJ (lets : List Let) (names : List Var) (e : Exp) : Bool := zcA lets e && names.all zgl
def znC (lets : List Let) (names : List Var) (e : Exp) : D := if okJ lets names e = true then .tup [.u (jU (gOf names) (mOf (gOf names) lets)), .u (.bool true)] else .tup [.u (.oth (.pointer none)), .u (.bool false)]
theorem zhS (g : GM) (x : List UInt8) (u : Int) : zdd (zke g) (.s x) [U.int .i64 u] = zke (zcZ g x u) := zhU (fun u : Int => [U.int .i64 u]) x u g
theorem ziL (g : LM) (x : List UInt8) (u e : Int) (b : Bool) : zdd (zpJ g) (.s x) [U.int .i64 u, .int .i64 e, .bool b] = zpJ (zcZ g x (u, e, b)) := zhU (fun q : Int × Int × Bool => [U.int .i64 q.1, .int .i64 q.2.1, .bool q.2.2]) x (u, e, b) g
theorem zfC {α β : Type} (f : β -> α -> β) (b : β) {l : List α} {i : Nat} {x : α} (h : l[i]? = some x) : (l.take (i + 1)).foldl f b = f ((l.take i).foldl f b) x := by
 obtain ⟨hi, rfl⟩ := lGE.1 h;rw [List.take_succ_eq_append_getElem hi, List.foldl_append];rfl
theorem zo6 {names : List Var} {i : Nat} {v : Var} (h : names[i]? = some v) : gOf (names.take (i + 1)) = if asc (gOf (names.take i)) v.name = none then zcZ (gOf (names.take i)) v.name v.unit else gOf (names.take i) := zfC _ _ h
theorem zoP {g : GM} {lets : List Let} {i : Nat} {l : Let} (h : lets[i]? = some l) : mOf g (lets.take (i + 1)) = zcZ (mOf g (lets.take i)) l.name ((zd0 (gF g) (mF (mOf g (lets.take i))) l.body).1, (zd0 (gF g) (mF (mOf g (lets.take i))) l.body).2, zeR (sF (mOf g (lets.take i))) l.body) := zfC _ _ h
theorem znB (lets : List Let) (names : List Var) (e : Exp) : Fun Tryz.prog 179 [.u (zax lets), .u (zeT names), zb7 e] (· = znC lets names e) := by
 have h1 := zcY e;have h2 := zeb lets 227 [] _ (fun x _ => zp7 x) (by simp) (fun _ => rfl) (fun _ => rfl);simp only [List.map_nil, zax, zb7] at h1 h2;generalize hre : zaO 12 e = re at h1;generalize hrl : (lets.any fun l => !zaO 12 l.body) = rl at h2;have hok0 : okJ lets names e = (decide (lets.length <= 20) && re && !rl && names.all zgl) := by rw [okJ, zcA, hre, hrl]
 have hre' := hre;have hrl' := hrl;clear hre hrl;unfold znC;generalize okJ lets names e = K at hok0 ⊢
 (refine Fun.of_bodyW Tryz.func179 rfl (by simp) fun Γ hn => ?_); simp only [entry, ziC, ziN, maC, maN, oA, Tryz.ntmps179]
 simp only [zb7, zax, zeT];refine zgW (x := 0) rfl fun hl0 => ?_;refine zgW (x := 1) rfl fun hl1 => ?_;simp only [List.length_map] at hl0 hl1
 repeat' (first
  | ((first | refine zag ?_ | refine zaj ?_ | refine zah ?_ | refine zai ?_ | refine zao ?_ | fail); simp)
  | ((first | refine zar ?_ | refine zaq ?_ | fail); simp only [zap])
  | (refine ⟨fun hc => ?_, fun hc => ?_⟩ <;> (try (exfalso; omega)))
  | (refine CallP.fE (h1) (by first | rfl | fail) (by first | (simp; done) | (simp; rfl) | fail) ?_; (try simp))
  | (refine CallP.fE (h2) (by first | rfl | fail) (by first | (simp; done) | (simp; rfl) | fail) ?_; (try simp))
  | fail)
 all_goals try (refine EndW.here ?_; have hKf : K = false := (by first | (rw [hok0]; clear h1 h2 hok0 hre' hrl'; simp; intros; simp_all; done) | (rw [hok0]; clear h1 h2 hok0 hre' hrl'; simp; intros; omega) | fail); subst hKf; (refine EndOK.val (.inr rfl) ?_; simp [zaz, zaf, zas, Tryz.results179]); done)
 refine zcq (α := { i : Nat // i <= names.length /\ ∀ v ∈ names.take i, zgl v = true }) [0, 8, 33, 34] (fun i => [(35, .u (.int .i64 i.1))])
  (fun i => [(3, .box [.mp 1, .mp 2]), (2, .map .s true []), (1, .map .s false (zfW (zke (gOf (names.take i.1))))), (0, .box [.u (.int .i64 e.op), .u (.int .i64 e.n), .u (.int .i64 e.unit), .u (.str e.s), .u (.sl (e.args.map Exp.row))])]) 4
  (fun i => names.length - i.1) ⟨0, by omega, by simp⟩ ?_ ?_
 ·exact (Wk.cut rfl (by simp [hn, St.lp]) (by simp [wkO, St.lp, zaa, getK, Ob.under, D.under, zad, zae, gOf, zke, za8, Ob.under]) (by simp [wkU, St.lp, zam, zaa, getK, D.under, gOf, zke, za8, Ob.under]) (by simp [wkE, St.lp, zam, zaa, getK, gOf, zke, za8, Ob.under] <;> (try (intros; simp_all; done)) <;> (try (intros; omega)) <;> (try grind)))
 rintro ⟨i, hi, hb⟩;simp [St.lp, St.only, zam, zaa, getK];rcases hx : names[i]? with _ | v
 ·have hge : names.length <= i := by simpa using hx
  obtain rfl : i = names.length := by omega
  rw [List.take_length] at hb;have hall : names.all zgl = true := by simpa [List.all_eq_true] using hb
  repeat' (first
  | ((first | refine zag ?_ | refine zaj ?_ | refine zah ?_ | refine zao ?_ | fail); simp [hx])
  | (refine zaZ ?_; simp [zap])
  | fail)
  refine zcq (α := { i : Nat // i <= lets.length }) [8, 68, 69] (fun i => [(70, .u (.int .i64 i.1))])
   (fun i => [(3, .box [.mp 1, .mp 2]), (2, .map .s true (zfW (zpJ (mOf (gOf names) (lets.take i.1))))), (1, .map .s false (zfW (zke (gOf names)))), (0, .box [.u (.int .i64 e.op), .u (.int .i64 e.n), .u (.int .i64 e.unit), .u (.str e.s), .u (.sl (e.args.map Exp.row))])]) 4
   (fun i => lets.length - i.1) ⟨0, by omega⟩ ?_ ?_
  ·exact (Wk.cut rfl (by simp [hn, St.lp]) (by simp [wkO, St.lp, zaa, getK, Ob.under, D.under, zad, zae, mOf, zpJ, za8, Ob.under]) (by simp [wkU, St.lp, zam, zaa, getK, D.under, mOf, zpJ, za8, Ob.under]) (by simp [wkE, St.lp, zam, zaa, getK, mOf, zpJ, za8, Ob.under] <;> (try (intros; simp_all; done)) <;> (try (intros; omega)) <;> (try grind)))
  rintro ⟨k, hk0⟩;simp [St.lp, St.only, zam, zaa, getK];rcases hy : lets[k]? with _ | l
  ·have hgk : lets.length <= k := by simpa using hy
   obtain rfl : k = lets.length := by omega
   obtain rfl : K = true := by
    rw [hok0, hall];have : lets.length <= 20 := by omega
    clear h1 h2;simp_all
   repeat' (first
  | ((first | refine zag ?_ | refine zaj ?_ | refine zah ?_ | fail); simp [hy])
  | (refine zar ?_; simp only [zap])
  | (refine zaZ ?_; simp [zap])
  | fail)
   (refine EndW.frzN 2 ?_; simp [frzN, frz1, zaE, zaD, St.frz, St.frzS, frzS, fv, za5, za6, za7, zaH, zay, zav, del, frz, zbg])
   (refine EndW.frzB 3 ?_; simp [frzB, zaE, zaD, St.frzS, frzS, fv, za5, za6, za7, zaH, zay, zav, del])
   refine EndW.here ?_
   (refine EndOK.val (.inr rfl) ?_; simp [zaz, zaf, zas, Tryz.results179])
   rfl
  ·have hltk : k < lets.length := (lGE.1 hy).1;have hsu := zoP (g := gOf names) hy;have hrl : zaO 12 l.body = true := by
    have h7 : (lets.any fun l => !zaO 12 l.body) = false := by rw [hrl']; assumption
    rw [List.any_eq_false] at h7;simpa using h7 l (List.mem_of_getElem? hy)
   have h5 := zkB (gOf names) (mOf (gOf names) (lets.take k)) 12 l.body hrl;have h6 := zdN (gOf names) (mOf (gOf names) (lets.take k)) 12 l.body hrl;simp only [zb7, jU] at h5 h6
   repeat' (first
  | ((first | refine zag ?_ | refine ziy rfl ?_ | refine ziA rfl ?_ | refine zaj ?_ | fail); simp [hy, ziL])
  | (refine ⟨by omega, ?_⟩)
  | (refine zah ?_; simp [hy, ziL])
  | (refine ziz (hC _ (by kernel_rfl)) (hk _ ?_); clear hC hk C k; simp only [zap])
  | (refine ziw rfl (by kernel_rfl) (by kernel_rfl) (by simp [hn]) fun C k hC hk => ?_; simp [hy, ziL])
  | (refine zat ?_; simp [hy, ziL])
  | (refine zaq ?_; simp only [zap])
  | (refine ⟨?_, by omega⟩)
  | (intro hc <;> (try (exfalso; omega)))
  | (refine CallP.fE (h5) (by first | rfl | fail) (by first | simp [hy, ziL] <;> rfl | fail) ?_; (try simp [hy, ziL]))
  | (refine CallV.fun_ (h6) (by first | rfl | fail) (by first | simp [hy, ziL] <;> rfl | fail) ?_ <;> (try simp [hy, ziL]))
  | fail)
   refine LoopW.next ⟨k + 1, by omega⟩ (by simp; omega) ?_
   exact (Wk.cut rfl (by simp [hn, St.lp]) (by simp [wkO, St.lp, zaa, getK, Ob.under, D.under, zad, zae, hsu]) (by simp [wkU, St.lp, zam, zaa, getK, D.under, hsu]) (by simp [wkE, St.lp, zam, zaa, getK, hsu] <;> (try (intros; simp_all; done)) <;> (try (intros; omega)) <;> (try grind)))
 ·have hlt : i < names.length := (lGE.1 hx).1;have hg := zkL (gOf (names.take i)) v.name;have hsu := zo6 hx;have hok : zgl v = (decide (0 <= v.unit) && decide (v.unit < 5)) := rfl;have hbad : zgl v = false -> names.all zgl = false := fun h => by
   rw [List.all_eq_false];exact ⟨v, List.mem_of_getElem? hx, by simp [h]⟩
  cases hga : asc (gOf (names.take i)) v.name with
  | some u =>
   rw [hga] at hg hsu;simp only [Option.map_some] at hg
   repeat' (first
  | ((first | refine zag ?_ | refine zee ?_ | refine zaj ?_ | fail); simp [hx, hg])
  | (refine ⟨by omega, ?_⟩)
  | ((first | refine zah ?_ | refine zai ?_ | fail); simp [hx, hg])
  | (refine zfp ?_)
  | (refine hk _ ?_; clear hk k; simp only [zap])
  | (refine zed rfl (by kernel_rfl) (by kernel_rfl) fun k hk => ?_; simp [hx, hg])
  | (refine zat ?_; simp [hx, hg])
  | ((first | refine zar ?_ | refine zaq ?_ | fail); simp only [zap])
  | (refine ⟨?_, by omega⟩)
  | (refine ⟨fun hc => ?_, fun hc => ?_⟩ <;> (try (exfalso; omega)))
  | (intro hc <;> (try (exfalso; omega)))
  | fail)
   all_goals first
    | (refine LoopW.next ⟨i + 1, by omega, za0 hx hb (by rw [hok]; simp; omega)⟩ (by simp; omega) ?_; exact (Wk.cut rfl (by simp [hn, St.lp]) (by simp [wkO, St.lp, zaa, getK, Ob.under, D.under, zad, zae, hsu]) (by simp [wkU, St.lp, zam, zaa, getK, D.under, hsu]) (by simp [wkE, St.lp, zam, zaa, getK, hsu] <;> (try (intros; simp_all; done)) <;> (try (intros; omega)) <;> (try grind))))
    | (refine EndW.here ?_; have hKf : K = false := (by first | (rw [hok0, hbad (by rw [hok]; simp; omega)]; simp; done) | fail); subst hKf; (refine EndOK.val (.inr rfl) ?_; simp [zaz, zaf, zas, Tryz.results179]))
  | none =>
   rw [hga] at hg hsu;simp only [Option.map_none] at hg
   repeat' (first
  | ((first | refine zag ?_ | refine ziy rfl ?_ | refine zee ?_ | refine ziA rfl ?_ | refine zaj ?_ | fail); simp [hx, hg, zhS])
  | (refine ⟨by omega, ?_⟩)
  | ((first | refine zah ?_ | refine zai ?_ | fail); simp [hx, hg, zhS])
  | (refine ziz (hC _ (by kernel_rfl)) (hk _ ?_); clear hC hk C k; simp only [zap])
  | (refine zfp ?_)
  | (refine hk _ ?_; clear hk k; simp only [zap])
  | (refine zed rfl (by kernel_rfl) (by kernel_rfl) fun k hk => ?_; simp [hx, hg, zhS])
  | (refine ziw rfl (by kernel_rfl) (by kernel_rfl) (by simp [hn]) fun C k hC hk => ?_; simp [hx, hg, zhS])
  | (refine zat ?_; simp [hx, hg, zhS])
  | ((first | refine zar ?_ | refine zaq ?_ | fail); simp only [zap])
  | (refine ⟨?_, by omega⟩)
  | (refine ⟨fun hc => ?_, fun hc => ?_⟩ <;> (try (exfalso; omega)))
  | (intro hc <;> (try (exfalso; omega)))
  | fail)
   all_goals first
    | (refine LoopW.next ⟨i + 1, by omega, za0 hx hb (by rw [hok]; simp; omega)⟩ (by simp; omega) ?_; exact (Wk.cut rfl (by simp [hn, St.lp]) (by simp [wkO, St.lp, zaa, getK, Ob.under, D.under, zad, zae, hsu]) (by simp [wkU, St.lp, zam, zaa, getK, D.under, hsu]) (by simp [wkE, St.lp, zam, zaa, getK, hsu] <;> (try (intros; simp_all; done)) <;> (try (intros; omega)) <;> (try grind))))
    | (refine EndW.here ?_; have hKf : K = false := (by first | (rw [hok0, hbad (by rw [hok]; simp; omega)]; simp; done) | fail); subst hKf; (refine EndOK.val (.inr rfl) ?_; simp [zaz, zaf, zas, Tryz.results179]))
end Go.Proofs.YtepiegcjnaohjaaGreatDoor
namespace Go.VL
theorem zpQ {P : Program} {Γ : Ctx} {c : Code} {s : St} {Q : Exit -> St -> Prop} {x j : Nat} {cells : List U} {rows : List (List U)} (hx : getK s.env x = some (.u (.agg cells))) (hj : cells[j]? = some (.sl rows)) (h : rows.length <= 9223372036854775807 -> V P Γ c s Q) : V P Γ c s Q :=
 zoa (fun K a w hs => by
  have hr := (hs.getK hx).2;obtain ⟨vs, hl, _, hr⟩ := zdB hr;have hr := hr j _ hj;generalize vs.getD j undef = v at hr;cases hr with
  | slE => simp
  | sl _ b o sz c f hc hcx => unfold maxLen at hcx; omega) h
end Go.VL
namespace Go.Proofs.YtepiegcjnaohjaaGreatDoor
open Go Go.VL
attribute [local simp] zc6 zb2 evPure opd uOf zaC St.put St.at getK binD binI binS binB nilD aggD zhd zir lookD lookR zcB rangeS Go.VL.nextD Go.VL.nextS zcD ziF ziE zgE zbX mkV za8 zbj zbi zbh zc0 zbc zbq zbC mapEff zdd zf0 Key.kk shiftI arith unD convD zd4 loadD cellsAt fieldAddrD fieldD indexAddrD indexSlD arrAddr indexD sliceD cutD lenD minmaxD nilCheckD buildD fillD zbS zde zeV setAll zcM zeM zcv zhH zcr St.add zaS zbP rowsOf zdS zcw zak zac zaa zbm zcX zaQ entry zbI zbR valD zbU zcx zg2 zdv zdw zbZ zbO zaw zaR zbs delAll effD St.effS zdb zbk za1 zdc zbl za3 zcf za2 zaV zcg zc7 zbJ zcd zbt zcb zcc zau mkD zbw zbD zbN zaw zcu D.ids Op.operands Call.operands zbz makeIfD makeFuncD typeAssertD zio zdI zdJ zhX zcC IntKind.bits zcG List.take_of_length_le List.range_succ
attribute [local irreducible] V G H HD HD2 zap Eff CallP CallV EndOK Fun Ret FinOK LoopI LoopW EndW
def zbW : Nat -> Exp -> Int -> Int
 | 0, _, most => most + 1
 | L + 1, e, most => if 60 < e.s.length then most + 1 else e.args.foldl (fun n x => if n <= most then n + zbW L x (most - n) else n) 1
theorem zgx (L : Nat) (e : Exp) (most : Int) : zbW (L + 1) e most = if 60 < e.s.length then most + 1 else e.args.foldl (fun n x => if n <= most then n + zbW L x (most - n) else n) 1 := by rw [zbW]
theorem zeW : ∀ (L : Nat) (e : Exp) (most : Int), 0 <= most -> 1 <= zbW L e most /\ zbW L e most <= most + 1
 | 0, e, most, h => by rw [zbW]; omega
 | L + 1, e, most, h => by
  rw [zbW];split
  ·omega
  ·have : ∀ (l : List Exp) (n : Int), 1 <= n -> n <= most + 1 -> 1 <= l.foldl (fun n x => if n <= most then n + zbW L x (most - n) else n) n /\ l.foldl (fun n x => if n <= most then n + zbW L x (most - n) else n) n <= most + 1 := by
    intro l
    induction l with
    | nil => intro n h1 h2; exact ⟨h1, h2⟩
    | cons a l ih =>
     intro n h1 h2;rw [List.foldl_cons];split
     ·rename_i hn;have := zeW L a (most - n) (by omega);exact ih _ (by omega) (by omega)
     ·exact ih n h1 h2
   exact this _ 1 (by omega) (by omega)
theorem zeG {L : Nat} {most : Int} : ∀ (l : List Exp) (n : Int), ¬ n <= most -> l.foldl (fun n x => if n <= most then n + zbW L x (most - n) else n) n = n
 | [], _, _ => rfl
 | a :: l, n, h => by rw [List.foldl_cons, if_neg h]; exact zeG l n h
theorem zjb : ∀ (L : Nat) (e : Exp) (most : Int), 0 <= most -> most <= 1000 -> (L : Int) <= 100 -> Fun Tryz.prog 165 [zb7 e, .u (.int .i64 most), .u (.int .i64 L)] (· = .u (.int .i64 (zbW L e most)))
 | 0, e, most, _, _, _ => by
  rw [zbW]
  (refine Fun.of_body Tryz.func165 rfl (by simp) fun Γ hn => ?_); simp only [entry, ziC, ziN, maC, maN, oA, Tryz.ntmps165]
  simp only [zb7]
  repeat' (first
  | ((first | refine zag ?_ | refine zaj ?_ | fail); simp)
  | (refine ⟨by omega, ?_⟩)
  | ((first | refine zah ?_ | refine zai ?_ | fail); simp)
  | (refine zar ?_; simp only [zap])
  | fail)
  (refine EndOK.val (.inr rfl) ?_; simp [zaz, zaf, zas, Tryz.results165])
 | L + 1, e, most, h0, h1, hL => by
  rw [zgx];by_cases hs : 60 < e.s.length
  ·rw [if_pos hs]
   (refine Fun.of_body Tryz.func165 rfl (by simp) fun Γ hn => ?_); simp only [entry, ziC, ziN, maC, maN, oA, Tryz.ntmps165]
   simp only [zb7]
   repeat' (first
  | ((first | refine zag ?_ | refine zaj ?_ | fail); simp)
  | (refine ⟨by omega, ?_⟩)
  | ((first | refine zah ?_ | refine zai ?_ | fail); simp)
  | (refine zar ?_; simp only [zap])
  | (refine ⟨?_, by omega⟩)
  | (intro hc <;> (try (exfalso; omega)))
  | fail)
   all_goals first
    | (exfalso; omega)
    | ((refine EndOK.val (.inr rfl) ?_; simp [zaz, zaf, zas, Tryz.results165]); done)
  rw [if_neg hs];generalize hg : (e.args.foldl (fun n x => if n <= most then n + zbW L x (most - n) else n) 1) = g
  (refine Fun.of_body Tryz.func165 rfl (by simp) fun Γ hn => ?_); simp only [entry, ziC, ziN, maC, maN, oA, Tryz.ntmps165]
  simp only [zb7];refine zpQ (x := 0) (j := 4) rfl rfl fun hl => ?_;simp only [List.length_map] at hl
  repeat' (first
  | ((first | refine zag ?_ | refine zaj ?_ | fail); simp)
  | (refine ⟨by omega, ?_⟩)
  | ((first | refine zah ?_ | refine zai ?_ | refine zao ?_ | fail); simp)
  | (refine zaq ?_; simp only [zap])
  | (refine ⟨?_, by omega⟩)
  | (intro hc <;> (try (exfalso; omega)))
  | fail)
  refine zbH (α := { p : Nat × Int // p.1 <= e.args.length /\ 1 <= p.2 /\ p.2 <= most + 1 /\ g = (e.args.drop p.1).foldl (fun n x => if n <= most then n + zbW L x (most - n) else n) p.2 }) [1, 2, 3] (fun p => [(7, .u (.int .i64 p.1.2)), (8, .u (.int .i64 p.1.1))]) (fun p => e.args.length - p.1.1) ⟨(0, 1), by simp, by simp, by simp; omega, by simp [hg]⟩ ?_ ?_
  ·exact (Wk.cut rfl (by simp [hn, St.lp]) (by simp [wkO, St.lp, zaa, getK, Ob.under, D.under, zad, zae]) (by simp [wkU, St.lp, zam, zaa, getK, D.under]) (by simp [wkE, St.lp, zam, zaa, getK] <;> (try (intros; simp_all; done)) <;> (try (intros; omega)) <;> (try grind)))
  rintro ⟨⟨i, n⟩, hi, hn1, hn2, hgn⟩;simp only at hi hn1 hn2 hgn;simp [St.lp, St.only, zam, zaa, getK];rcases hx : e.args[i]? with _ | x
  ·have hge : e.args.length <= i := by simpa using hx
   rw [List.drop_of_length_le hge] at hgn
   repeat' (first
  | ((first | refine zag ?_ | refine zaj ?_ | fail); simp [hx])
  | (refine ⟨by omega, ?_⟩)
  | ((first | refine zah ?_ | refine zai ?_ | fail); simp [hx])
  | (refine zar ?_; simp only [zap])
  | (refine zaZ ?_; simp [zap])
  | (intro hc <;> (try (exfalso; omega)))
  | fail)
   (refine EndOK.val (.inr rfl) ?_; simp [zaz, zaf, zas, Tryz.results165])
   rw [hgn]; rfl
  ·have hlt : i < e.args.length := (lGE.1 hx).1;by_cases hm : n <= most
   ·have h5 := zjb L x (most - n) (by omega) (by omega) (by omega);have hb := zeW L x (most - n) (by omega);simp only [zb7] at h5;rw [List.drop_eq_getElem_cons hlt, List.foldl_cons, if_pos hm, (lGE.1 hx).2] at hgn;generalize zbW L x (most - n) = y at h5 hb hgn
    repeat' (first
  | ((first | refine zag ?_ | refine zaj ?_ | fail); simp [hx, x.row_eq])
  | (refine ⟨by omega, ?_⟩)
  | ((first | refine zah ?_ | refine zai ?_ | refine zat ?_ | fail); simp [hx, x.row_eq])
  | (refine zaq ?_; simp only [zap])
  | (refine ⟨?_, by omega⟩)
  | (intro hc <;> (try (exfalso; omega)))
  | (refine CallP.fE (h5) (by first | rfl | fail) (by first | simp [hx, x.row_eq] <;> rfl | fail) ?_; (try simp [hx, x.row_eq]))
  | fail)
    refine LoopW.next ⟨(i + 1, n + y), (by omega : i + 1 <= e.args.length), (by omega : 1 <= n + y), (by omega : n + y <= most + 1), hgn⟩ (by simp; omega) ?_
    exact (Wk.cut rfl (by simp [hn, St.lp]) (by simp [wkO, St.lp, zaa, getK, Ob.under, D.under, zad, zae]) (by simp [wkU, St.lp, zam, zaa, getK, D.under]) (by simp [wkE, St.lp, zam, zaa, getK] <;> (try (intros; simp_all; done)) <;> (try (intros; omega)) <;> (try grind)))
   ·rw [zeG _ _ hm] at hgn
    repeat' (first
  | ((first | refine zag ?_ | refine zaj ?_ | fail); simp [hx])
  | (refine ⟨by omega, ?_⟩)
  | ((first | refine zah ?_ | refine zai ?_ | fail); simp [hx])
  | (refine zar ?_; simp only [zap])
  | (refine zaZ ?_; simp [zap])
  | (refine ⟨?_, by omega⟩)
  | (intro hc <;> (try (exfalso; omega)))
  | fail)
    (refine EndOK.val (.inr rfl) ?_; simp [zaz, zaf, zas, Tryz.results165])
    rw [hgn]
def znP (e : Exp) (n : Int) : Bool := decide (zbW 16 e n <= n)
theorem zdm (e : Exp) (n : Int) (h0 : 0 <= n) (h1 : n <= 1000) : Fun Tryz.prog 97 [zb7 e, .u (.int .i64 n)] (· = .u (.bool (znP e n))) := by
 have h2 := zjb 16 e n h0 h1 (by omega);unfold znP;simp only [zb7] at h2 ⊢;generalize zbW 16 e n = y at h2 ⊢
 (refine Fun.of_body Tryz.func97 rfl (by simp) fun Γ hn => ?_); simp only [entry, ziC, ziN, maC, maN, oA, Tryz.ntmps97]
 repeat' (first
  | ((first | refine zag ?_ | refine zaj ?_ | refine zah ?_ | fail); simp)
  | (refine zar ?_; simp only [zap])
  | (refine CallP.fE (h2) (by first | rfl | fail) (by first | (simp; done) | (simp; rfl) | fail) ?_; (try simp))
  | fail)
 (refine EndOK.val (.inr rfl) ?_; simp [zaz, zaf, zas, Tryz.results97])
mutual
def zdQ : Exp -> Int
 | .mk op _ _ _ args => (if op = 1 then 1 else 0) + zby args
def zby : List Exp -> Int
 | [] => 0
 | e :: r => zdQ e + zby r
end
theorem zjc (e : Exp) : zdQ e = (if e.op = 1 then 1 else 0) + zby e.args := by cases e with | mk op n u s args => rw [zdQ]; rfl
mutual
theorem zd5 : ∀ e : Exp, 0 <= zdQ e
 | .mk op n u s args => by
  rw [zdQ];have := zcj args;split <;> omega
theorem zcj : ∀ l : List Exp, 0 <= zby l
 | [] => by rw [zby]; omega
 | e :: r => by
  rw [zby];have := zd5 e;have := zcj r;omega
end
theorem zlE {l : List Exp} {i : Nat} {x : Exp} (h : l[i]? = some x) : zby (l.take (i + 1)) = zby (l.take i) + zdQ x := by
 induction l generalizing i with
 | nil => simp at h
 | cons a l ih =>
  cases i with
  | zero => simp at h; subst h; simp [zby]
  | succ i => rw [List.take_succ_cons, List.take_succ_cons, zby, zby, ih (i := i) (by simpa using h)]; omega
theorem zlD {l : List Exp} (i : Nat) : zby (l.take i) <= zby l := by
 induction l generalizing i with
 | nil => simp
 | cons a l ih =>
  cases i with
  | zero => rw [List.take_zero]; have := zcj (a :: l); rw [show zby [] = 0 by rw [zby]]; exact this
  | succ i => rw [List.take_succ_cons, zby, zby]; have := ih i; omega
theorem zju : ∀ (L : Nat) (e : Exp) (most : Int), 0 <= most -> zbW L e most <= most -> zdQ e <= zbW L e most
 | 0, e, most, _, h => by rw [zbW] at h; omega
 | L + 1, e, most, h0, h => by
  rw [zgx] at h ⊢;by_cases hs : 60 < e.s.length
  ·rw [if_pos hs] at h; omega
  rw [if_neg hs] at h ⊢;have key : ∀ (l : List Exp) (n : Int), 1 <= n -> l.foldl (fun n x => if n <= most then n + zbW L x (most - n) else n) n <= most -> n + zby l <= l.foldl (fun n x => if n <= most then n + zbW L x (most - n) else n) n := by
   intro l
   induction l with
   | nil => intro n _ _; rw [zby]; simp
   | cons a l ih =>
    intro n h1 h2;rw [List.foldl_cons] at h2 ⊢;by_cases hn : n <= most
    ·rw [if_pos hn] at h2 ⊢;have hb := zeW L a (most - n) (by omega);have h3 := ih _ (by omega) h2;have h4 : n + zbW L a (most - n) <= most := by
      rcases Int.lt_or_le most (n + zbW L a (most - n)) with h5 | h5
      ·rw [zeG _ _ (by omega)] at h2; omega
      ·exact h5
     have h5 := zju L a (most - n) (by omega) (by omega);rw [zby];omega
    ·rw [if_neg hn, zeG _ _ hn] at h2; omega
  have h1 := key e.args 1 (by omega) h;rw [zjc];by_cases h3 : e.op = 1
  ·rw [if_pos h3]; omega
  ·rw [if_neg h3]; omega
theorem zho : ∀ (m : Nat) (e : Exp), SizeOf.sizeOf e <= m -> zdQ e <= 1000000 -> Fun Tryz.prog 107 [zb7 e] (· = .u (.int .i64 (zdQ e)))
 | 0, e, hm, _ => by cases e; simp at hm
 | m + 1, e, hm, hN => by
  have hch : ∀ x ∈ e.args, SizeOf.sizeOf x <= m := fun x hx => by
   cases e with
   | mk op n u s args =>
    have h1 := List.sizeOf_lt_of_mem (show x ∈ args from hx);simp at hm;omega
  rw [zjc] at hN ⊢;have hnn := zcj e.args;generalize hk : (if e.op = 1 then (1 : Int) else 0) = k0 at hN ⊢;have hk01 : 0 <= k0 /\ k0 <= 1 := by rw [<- hk]; split <;> omega
  (refine Fun.of_body Tryz.func107 rfl (by simp) fun Γ hn => ?_); simp only [entry, ziC, ziN, maC, maN, oA, Tryz.ntmps107]
  simp only [zb7];refine zpQ (x := 0) (j := 4) rfl rfl fun hl => ?_;simp only [List.length_map] at hl
  repeat' (first
  | ((first | refine zag ?_ | refine zaj ?_ | refine zah ?_ | refine zai ?_ | refine zao ?_ | refine zat ?_ | fail); simp)
  | (refine zaq ?_; simp only [zap])
  | (refine ⟨fun hc => ?_, fun hc => ?_⟩ <;> (try (exfalso; omega)))
  | fail)
  all_goals
   refine zbH (α := { i : Nat // i <= e.args.length }) [1] (fun i => [(3, .u (.int .i64 (k0 + zby (e.args.take i.1)))), (4, .u (.int .i64 i.1))]) (fun i => e.args.length - i.1) ⟨0, by omega⟩ ?_ ?_
   ·exact (Wk.cut rfl (by simp [hn, St.lp]) (by simp [wkO, St.lp, zaa, getK, Ob.under, D.under, zad, zae, zby]) (by simp [wkU, St.lp, zam, zaa, getK, D.under, zby]) (by simp [wkE, St.lp, zam, zaa, getK, zby] <;> (try (intros; simp_all; done)) <;> (try (intros; omega)) <;> (try grind)))
   rintro ⟨i, hi⟩;simp [St.lp, St.only, zam, zaa, getK];rcases hx : e.args[i]? with _ | x
   ·have hge : e.args.length <= i := by simpa using hx
    obtain rfl : i = e.args.length := by omega
    repeat' (first
  | ((first | refine zag ?_ | refine zaj ?_ | refine zah ?_ | refine zai ?_ | fail); simp [hx])
  | (refine zar ?_; simp only [zap])
  | (refine zaZ ?_; simp [zap])
  | fail)
    (refine EndOK.val (.inr rfl) ?_; simp [zaz, zaf, zas, Tryz.results107])
   ·have hlt : i < e.args.length := (lGE.1 hx).1;have hat := zlE hx;have hle := zlD (l := e.args) (i + 1);have hn0 := zcj (e.args.take i);have hnx := zd5 x;have h5 := zho m x (hch x (List.mem_of_getElem? hx)) (by omega);simp only [zb7] at h5
    repeat' (first
  | ((first | refine zag ?_ | refine zaj ?_ | fail); simp [hx, x.row_eq])
  | (refine ⟨by omega, ?_⟩)
  | ((first | refine zah ?_ | refine zai ?_ | refine zat ?_ | fail); simp [hx, x.row_eq])
  | (refine zaq ?_; simp only [zap])
  | (refine ⟨?_, by omega⟩)
  | (intro hc <;> (try (exfalso; omega)))
  | (refine CallP.fE (h5) (by first | rfl | fail) (by first | simp [hx, x.row_eq] <;> rfl | fail) ?_; (try simp [hx, x.row_eq]))
  | fail)
    all_goals
     refine LoopW.next ⟨i + 1, by omega⟩ (by simp; omega) ?_
     exact (Wk.cut rfl (by simp [hn, St.lp]) (by simp [wkO, St.lp, zaa, getK, Ob.under, D.under, zad, zae, hat, Int.add_assoc]) (by simp [wkU, St.lp, zam, zaa, getK, D.under, hat, Int.add_assoc]) (by simp [wkE, St.lp, zam, zaa, getK, hat, Int.add_assoc] <;> (try (intros; simp_all; done)) <;> (try (intros; omega)) <;> (try grind)))
end Go.Proofs.YtepiegcjnaohjaaGreatDoor
namespace Go.Proofs.YtepiegcjnaohjaaGreatDoor
open Go Go.VL
attribute [local simp] zc6 zb2 evPure opd uOf zaC St.put St.at getK binD binI binS binB nilD aggD zhd zir lookD lookR zcB rangeS Go.VL.nextD Go.VL.nextS zcD ziF ziE zgE zbX mkV za8 zbj zbi zbh zc0 zbc zbq zbC mapEff zdd zf0 Key.kk shiftI arith unD convD zd4 loadD cellsAt fieldAddrD fieldD indexAddrD indexSlD arrAddr indexD sliceD cutD lenD minmaxD nilCheckD buildD fillD zbS zde zeV setAll zcM zeM zcv zhH zcr St.add zaS zbP rowsOf zdS zcw zak zac zaa zbm zcX zaQ entry zbI zbR valD zbU zcx zg2 zdv zdw zbZ zbO zaw zaR zbs delAll effD St.effS zdb zbk za1 zdc zbl za3 zcf za2 zaV zcg zc7 zbJ zcd zbt zcb zcc zau mkD zbw zbD zbN zaw zcu D.ids Op.operands Call.operands zbz makeIfD makeFuncD typeAssertD zio zdI zdJ zhX zcC IntKind.bits zcG List.take_of_length_le List.range_succ
attribute [local irreducible] V G H HD HD2 zap Eff CallP CallV EndOK Fun Ret FinOK LoopI LoopW EndW
def zl2 (n m : Int) : List Let -> Int -> Int -> Bool
 | [], _, _ => true
 | l :: r, i, p => if i <= m then (if 60 < l.name.length \/ znP l.body n = false then false else if 2000 < p * (1 + zdQ l.body) then false else zl2 n m r (i + 1) (p * (1 + zdQ l.body))) else true
def zsq (l : List Let) (m n : Int) : Bool := zl2 n m l 0 1 && decide ((l.length : Int) <= m)
theorem zkg (l : List Let) (m n : Int) (h0 : 0 <= n) (h1 : n <= 1000) (h2 : 0 <= m) (h3 : m <= 1000) : Fun Tryz.prog 51 [.u (zax l), .u (.int .i64 m), .u (.int .i64 n)] (· = .u (.bool (zsq l m n))) := by
 unfold zsq;generalize hB : zl2 n m l 0 1 = B
 (refine Fun.of_body Tryz.func51 rfl (by simp) fun Γ hn => ?_); simp only [entry, ziC, ziN, maC, maN, oA, Tryz.ntmps51]
 simp only [zax];refine zgW (x := 0) rfl fun hl => ?_;simp only [List.length_map] at hl
 repeat' (first
  | ((first | refine zag ?_ | refine zaj ?_ | refine zah ?_ | refine zao ?_ | fail); simp)
  | fail)
 refine zbH (α := { q : Nat × Int // q.1 <= l.length /\ (q.1 : Int) <= m + 1 /\ 1 <= q.2 /\ q.2 <= 2000 /\ B = zl2 n m (l.drop q.1) q.1 q.2 }) [0, 1, 2] (fun q => [(7, .u (.int .i64 q.1.2)), (8, .u (.int .i64 q.1.1))]) (fun q => l.length - q.1.1) ⟨(0, 1), by simp, by simp; omega, by simp, by simp, by simp [hB]⟩ ?_ ?_
 ·exact (Wk.env rfl rfl rfl (by simp [wkE, St.lp, zam, zaa, getK] <;> (try (intros; simp_all; done)) <;> (try (intros; omega)) <;> (try grind)))
 rintro ⟨⟨i, p⟩, hi, him, hp1, hp2, hb⟩;simp only at hi him hp1 hp2 hb;simp [St.lp, St.only, zam, zaa, getK];rcases hx : l[i]? with _ | x
 ·have hge : l.length <= i := by simpa using hx
  obtain rfl : i = l.length := by omega
  rw [List.drop_length, zl2] at hb
  repeat' (first
  | ((first | refine zag ?_ | refine zaj ?_ | refine zah ?_ | refine zai ?_ | fail); simp [hx])
  | (refine zar ?_; simp only [zap])
  | (refine zaZ ?_; simp [zap])
  | fail)
  all_goals
   (refine EndOK.val (.inr rfl) ?_; simp [zaz, zaf, zas, Tryz.results51])
  all_goals simp [hb]
 ·have hlt : i < l.length := (lGE.1 hx).1;rw [List.drop_eq_getElem_cons hlt, (lGE.1 hx).2, zl2] at hb;by_cases hm : (i : Int) <= m
  ·rw [if_pos hm] at hb;have h5 := zdm x.body n h0 h1;simp only [zb7] at h5;by_cases hn60 : 60 < x.name.length
   ·rw [if_pos (.inl hn60)] at hb;cases hf : znP x.body n
    all_goals
     rw [hf] at h5
     repeat' (first
  | ((first | refine zag ?_ | refine zaj ?_ | fail); simp [hx, hm])
  | (refine ⟨by omega, ?_⟩)
  | ((first | refine zah ?_ | refine zai ?_ | fail); simp [hx, hm])
  | ((first | refine zar ?_ | refine zaq ?_ | fail); simp only [zap])
  | (refine ⟨?_, by omega⟩)
  | (intro hc <;> (try (exfalso; omega)))
  | fail)
     all_goals first
      | (exfalso; omega)
      | ((refine EndOK.val (.inr rfl) ?_; simp [zaz, zaf, zas, Tryz.results51]); simp [hb]; done)
   ·cases hf : znP x.body n with
    | false =>
     rw [if_pos (.inr hf)] at hb;rw [hf] at h5
     repeat' (first
  | ((first | refine zag ?_ | refine zaj ?_ | refine zah ?_ | refine zai ?_ | fail); simp [hx, hm])
  | ((first | refine zar ?_ | refine zaq ?_ | fail); simp only [zap])
  | (refine ⟨?_, by omega⟩)
  | (intro hc <;> (try (exfalso; omega)))
  | (refine CallP.fE (h5) (by first | rfl | fail) (by first | simp [hx, hm] <;> rfl | fail) ?_; (try simp [hx, hm]))
  | fail)
     all_goals first
      | (exfalso; omega)
      | ((refine EndOK.val (.inr rfl) ?_; simp [zaz, zaf, zas, Tryz.results51]); simp [hb]; done)
    | true =>
     rw [if_neg (by simp [hn60, hf])] at hb;rw [hf] at h5;have hfn : zdQ x.body <= 1000 := by
      unfold znP at hf;simp only [decide_eq_true_eq] at hf;have := zju 16 x.body n h0 hf;omega
     have hnn := zd5 x.body;have h6 := zho _ x.body (Nat.le_refl _) (by omega);simp only [zb7] at h6;generalize zdQ x.body = y at h6 hb hfn hnn;have hpy : p * (1 + y) <= 2000 * 1001 := Int.mul_le_mul hp2 (by omega) (by omega) (by omega);have hpy1 : 1 <= p * (1 + y) := by
      have := Int.mul_le_mul hp1 (show (1 : Int) <= 1 + y by omega) (by omega) (by omega);omega
     repeat' (first
  | ((first | refine zag ?_ | refine zaj ?_ | fail); simp [hx, hm])
  | (refine ⟨by omega, ?_⟩)
  | ((first | refine zah ?_ | refine zai ?_ | refine zat ?_ | fail); simp [hx, hm])
  | ((first | refine zar ?_ | refine zaq ?_ | fail); simp only [zap])
  | (refine ⟨?_, by omega⟩)
  | (refine ⟨fun hc => ?_, fun hc => ?_⟩ <;> (try (exfalso; omega)))
  | (intro hc <;> (try (exfalso; omega)))
  | (refine CallP.fE (h5) (by first | rfl | fail) (by first | simp [hx, hm] <;> rfl | fail) ?_; (try simp [hx, hm]))
  | (refine CallP.fE (h6) (by first | rfl | fail) (by first | simp [hx, hm] <;> rfl | fail) ?_; (try simp [hx, hm]))
  | fail)
     all_goals first
      | (exfalso; omega)
      | ((refine EndOK.val (.inr rfl) ?_; simp [zaz, zaf, zas, Tryz.results51]); rw [if_pos (by omega)] at hb; simp [hb]; done)
      | (refine LoopW.next ⟨(i + 1, p * (1 + y)), (by omega : i + 1 <= l.length), (by simp; omega), hpy1, (by omega : p * (1 + y) <= 2000), by rw [if_neg (by omega)] at hb; simpa using hb⟩ (by simp; omega) ?_; exact (Wk.env rfl rfl rfl (by simp [wkE, St.lp, zam, zaa, getK] <;> (try (intros; simp_all; done)) <;> (try (intros; omega)) <;> (try grind))))
  ·rw [if_neg hm] at hb
   repeat' (first
  | ((first | refine zag ?_ | refine zaj ?_ | refine zah ?_ | refine zai ?_ | fail); simp [hx, hm])
  | (refine zar ?_; simp only [zap])
  | (refine zaZ ?_; simp [zap])
  | (refine ⟨?_, by omega⟩)
  | (intro hc <;> (try (exfalso; omega)))
  | fail)
   (refine EndOK.val (.inr rfl) ?_; simp [zaz, zaf, zas, Tryz.results51])
   simp [hb]
end Go.Proofs.YtepiegcjnaohjaaGreatDoor
