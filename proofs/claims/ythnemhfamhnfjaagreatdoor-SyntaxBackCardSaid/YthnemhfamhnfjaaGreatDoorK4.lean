/- Texts joined by a program of mine: Ua Ub Ea Eb Ec Uc Ed Ee Ya Yb Yc Yd Ye Yf Yg Yh Yi Yj Ef Zg UD UI Ud Eg Eh. -/
import Derived.Test.YthnemhfamhnfjaaGreatDoorK3
import Derived.Lib.ItoaNum
set_option linter.all false
set_option maxRecDepth 100000
set_option maxHeartbeats 8000000
namespace Go.Proofs.YthnemhfamhnfjaaGreatDoor
open Go Go.VL
attribute [local simp] zcR zb0 evPure opd uOf zaH St.put St.at getK binD binI binS binB nilD aggD zgp zhi lookD lookR zcm Go.VL.nextD zcq zhv zhu zfX zcs mkV zdb zbj zbr mapEff zd1 zfM Key.kk shiftI arith unD convD zdH loadD cellsAt fieldAddrD fieldD indexAddrD indexD sliceD cutD lenD minmaxD nilCheckD buildD fillD zbH zcW zes setAll zcE zeJ zch zgC zcd St.add zaM zbB rowsOf zdw zcA zak zac zaa zba zcz zaR entry zbo zbq valD zb5 zcu zgh zc8 zda zbO zbG zau za2 zbm delAll effD St.effS zcM za6 zaY zcN za7 za0 zbY zaZ zaS zbZ zcH zbv zbV zbi zbT zbU zaJ mkD zbI zbs zbF zau zcf D.ids Op.operands Call.operands zbx makeIfD makeFuncD typeAssertD zhh zds zdt zgK zcn IntKind.bits zcG List.take_of_length_le List.range_succ
attribute [local irreducible] V G H HD HD2 zao Eff CallP CallV EndOK Fun Ret FinOK LoopI LoopW EndW
inductive Exp where
 | mk (op n unit : Int) (s : List UInt8) (args : List Exp)
 deriving Inhabited
def Exp.row : Exp → List U
 | .mk op n u s args => [.int .i64 op, .int .i64 n, .int .i64 u, .str s, .sl (args.map fun e => e.row)]
def Exp.op : Exp → Int | .mk op _ _ _ _ => op
def Exp.n : Exp → Int | .mk _ n _ _ _ => n
def Exp.unit : Exp → Int | .mk _ _ u _ _ => u
def Exp.s : Exp → List UInt8 | .mk _ _ _ s _ => s
def Exp.args : Exp → List Exp | .mk _ _ _ _ args => args
theorem Exp.row_eq (e : Exp) : e.row = [.int .i64 e.op, .int .i64 e.n, .int .i64 e.unit, .str e.s, .sl (e.args.map Exp.row)] := by
 cases e with
 | mk op n u s args => rw [Exp.row]; rfl
structure Var where
 name : List UInt8
 unit : Int
 n : Int
 deriving DecidableEq, Inhabited
structure Let where
 name : List UInt8
 body : Exp
 deriving Inhabited
def Var.row (v : Var) : List U := [.str v.name, .int .i64 v.unit, .int .i64 v.n]
def Let.row (l : Let) : List U := .str l.name :: l.body.row
def vars (l : List Var) : U := .sl (l.map Var.row)
def lets (l : List Let) : U := .sl (l.map Let.row)
def zbp (c : UInt8) : Bool := decide (97 ≤ c.toNat) && decide (c.toNat ≤ 122)
def zaT (c : UInt8) : Bool := decide (48 ≤ c.toNat) && decide (c.toNat ≤ 57)
theorem zd5 (c : UInt8) : Fun Tryz.prog 102 [.u (.int .u8 c.toNat)] (· = .u (.bool (zbp c))) := by
 unfold zbp
 (refine Fun.of_body Tryz.func102 rfl (by simp) fun Γ hn => ?_); simp only [entry, List.zipIdx_cons, List.zipIdx_nil, List.map_cons, List.map_nil, Nat.zero_add, Tryz.ntmps102]
 repeat' (first
  | (refine zaf ?_; simp)
  | (refine zal ?_; simp)
  | (refine zah ?_; simp)
  | (refine zar ?_; simp only [zao])
  | (refine ⟨fun hc => ?_, fun hc => ?_⟩ <;> (try (exfalso; omega)))
  | fail)
 all_goals
  (refine EndOK.val (.inr rfl) ?_; simp [zaL, zag, zas, Tryz.results102])
 all_goals first | omega | (simp; omega) | (rw [Bool.eq_iff_iff]; simp; omega)
theorem zeG (c : UInt8) : Fun Tryz.prog 104 [.u (.int .u8 c.toNat)] (· = .u (.bool (zaT c))) := by
 unfold zaT
 (refine Fun.of_body Tryz.func104 rfl (by simp) fun Γ hn => ?_); simp only [entry, List.zipIdx_cons, List.zipIdx_nil, List.map_cons, List.map_nil, Nat.zero_add, Tryz.ntmps104]
 repeat' (first
  | (refine zaf ?_; simp)
  | (refine zal ?_; simp)
  | (refine zah ?_; simp)
  | (refine zar ?_; simp only [zao])
  | (refine ⟨fun hc => ?_, fun hc => ?_⟩ <;> (try (exfalso; omega)))
  | fail)
 all_goals
  (refine EndOK.val (.inr rfl) ?_; simp [zaL, zag, zas, Tryz.results104])
 all_goals first | omega | (simp; omega) | (rw [Bool.eq_iff_iff]; simp; omega)
theorem zmQ (c : UInt8) : Fun Tryz.prog 103 [.u (.int .u8 c.toNat)] (· = .u (.bool (zbp c || zaT c))) := by
 (refine Fun.of_body Tryz.func103 rfl (by simp) fun Γ hn => ?_); simp only [entry, List.zipIdx_cons, List.zipIdx_nil, List.map_cons, List.map_nil, Nat.zero_add, Tryz.ntmps103]
 repeat' (first
  | (refine zaf ?_; simp)
  | (refine zal ?_; simp)
  | (refine zah ?_; simp)
  | (refine zar ?_; simp only [zao])
  | (refine ⟨fun hc => ?_, fun hc => ?_⟩ <;> (try (exfalso; omega)))
  | (refine CallP.fE (zd5 c) (by first | rfl | fail) (by first | (simp; done) | (simp; rfl) | fail) ?_; (try simp))
  | (refine CallP.fE (zeG c) (by first | rfl | fail) (by first | (simp; done) | (simp; rfl) | fail) ?_; (try simp))
  | fail)
 all_goals
  (refine EndOK.val (.inr rfl) ?_; simp [zaL, zag, zas, Tryz.results103])
 all_goals simp_all
def zbM (p : UInt8 → Bool) (l : List UInt8) : Nat := (l.takeWhile p).length
theorem zk3 {p : UInt8 → Bool} {l : List UInt8} {i : Nat} (h : ∀ c ∈ l.take i, p c = true) (hi : i ≤ l.length) (he : i = l.length ∨ ∃ c, l[i]? = some c ∧ p c = false) : zbM p l = i := by
 unfold zbM
 induction l generalizing i with
 | nil => simp at hi; simp [hi]
 | cons a l ih =>
  cases i with
  | zero =>
   rcases he with he | ⟨c, h1, h2⟩
   ·simp at he
   ·simp at h1; subst h1; simp [h2]
  | succ i =>
   have ha : p a = true := h a (by simp)
   rw [List.takeWhile_cons, if_pos ha, List.length_cons]
   rw [ih (i := i) (fun c hc => h c (by simp [hc])) (by simpa using hi) (by simpa using he)]
/-- The first place where something holds; -1 without one. -/
def zhB {α : Type} (p : α → Bool) : List α → Int → Int
 | [], _ => -1
 | x :: l, i => if p x = true then i else zhB p l (i + 1)
theorem ziE {α : Type} {p : α → Bool} {l : List α} {i : Nat} {x : α} {k : Int} (h : ∀ c ∈ l.take i, p c = false) (hx : l[i]? = some x) (hp : p x = true) : zhB p l k = k + i := by
 induction l generalizing i k with
 | nil => simp at hx
 | cons s l ih =>
  cases i with
  | zero => simp at hx; simp [zhB, hx, hp]
  | succ i =>
   rw [zhB, if_neg (by rw [h s (by simp)]; simp), ih (i := i) (fun c hc => h c (by simp [hc])) (by simpa using hx)]
   omega
theorem zfs {α : Type} {p : α → Bool} {l : List α} {k : Int} (h : ∀ c ∈ l, p c = false) : zhB p l k = -1 := by
 induction l generalizing k with
 | nil => rfl
 | cons s l ih => rw [zhB, if_neg (by rw [h s (by simp)]; simp), ih fun c hc => h c (by simp [hc])]
theorem ziF {α : Type} (p : α → Bool) (l : List α) : ∀ k : Int, 0 ≤ k → (0 ≤ zhB p l k ↔ l.any p = true) := by
 induction l with
 | nil => intro k hk; simp [zhB]
 | cons s l ih =>
  intro k hk
  by_cases h : p s = true
  ·simp [zhB, h, hk]
  ·rw [zhB, if_neg h, ih (k + 1) (by omega)]
   simp [h]
theorem zby {α : Type} {p : α → Prop} {l : List α} {i : Nat} {x : α} (hx : l[i]? = some x) (h : ∀ c ∈ l.take i, p c) (hp : p x) : ∀ c ∈ l.take (i + 1), p c := by
 obtain ⟨hi, rfl⟩ := List.getElem?_eq_some_iff.1 hx
 rw [List.take_succ_eq_append_getElem hi]
 intro c hc
 rcases List.mem_append.1 hc with hc | hc
 ·exact h c hc
 ·simp at hc; subst hc; exact hp
theorem zfe (l : List UInt8) (hl : l.length ≤ 1000000) (f : FuncId) (p : UInt8 → Bool) (hf : ∀ c ∈ l, Fun Tryz.prog f [.u (.int .u8 c.toNat)] (· = .u (.bool (p c)))) (hcl : zam Tryz.prog f = true) :
  Fun Tryz.prog 75 [.u (.str l), .fnc (.func f) []] (· = .u (.int .i64 (zbM p l))) := by
 (refine Fun.of_body Tryz.func75 rfl (by simp) fun Γ hn => ?_); simp only [entry, List.zipIdx_cons, List.zipIdx_nil, List.map_cons, List.map_nil, Nat.zero_add, Tryz.ntmps75]
 repeat' (first
  | (refine zaf ?_; simp)
  | (refine zal ?_; simp)
  | (refine zah ?_; simp)
  | fail)
 refine zcT (α := { i : Nat // i ≤ l.length ∧ ∀ c ∈ l.take i, p c = true }) [0, 1] (fun i => [(5, .u (.int .i64 i.1))]) (fun i => l.length - i.1) ⟨0, by omega, by simp⟩ ?_ ?_
 ·exact (Wk.env rfl rfl rfl (by simp [wkE, St.lp, zan, zaa, getK] <;> (try (intros; simp_all; done)) <;> (try (intros; omega)) <;> (try grind)))
 rintro ⟨i, hi, hb⟩
 simp [St.lp, St.only, zan, zaa, getK]
 rcases hx : l[i]? with _ | c
 ·have hge : l.length ≤ i := by simpa using hx
  repeat' (first
  | (refine zaf ?_; simp [hx])
  | (refine zal ?_; simp [hx])
  | (refine ⟨by omega, ?_⟩)
  | (refine zah ?_; simp [hx])
  | (refine zai ?_; simp [hx])
  | (refine zar ?_; simp only [zao])
  | (refine zbR ?_; simp [zao])
  | (intro hc <;> (try (exfalso; omega)))
  | fail)
  (refine EndOK.val (.inr rfl) ?_; simp [zaL, zag, zas, Tryz.results75])
  rw [zk3 hb hi (.inl (by omega))]
 ·have hlt := (List.getElem?_eq_some_iff.1 hx).1
  have h1 := hf c (List.mem_of_getElem? hx)
  repeat' (first
  | (refine zaf ?_; simp [hx])
  | (refine zal ?_; simp [hx])
  | (refine ⟨by omega, ?_⟩)
  | (refine zah ?_; simp [hx])
  | (refine zai ?_; simp [hx])
  | (refine zaA ?_; simp [hx])
  | (refine zar ?_; simp only [zao])
  | (refine zap ?_; simp only [zao])
  | (refine zbR ?_; simp [zao])
  | (refine ⟨?_, by omega⟩)
  | (refine ⟨fun hc => ?_, fun hc => ?_⟩ <;> (try (exfalso; omega)))
  | (intro hc <;> (try (exfalso; omega)))
  | (refine CallP.fE (h1) (by first | rfl | fail) (by first | (simp [hx]; done) | (simp [hx]; rfl) | fail) ?_; (try simp [hcl, hx]))
  | fail)
  ·refine LoopW.next ⟨i + 1, by omega, zby hx hb (by assumption)⟩ (by simp; omega) ?_
   exact (Wk.env rfl rfl rfl (by simp [wkE, St.lp, zan, zaa, getK] <;> (try (intros; simp_all; done)) <;> (try (intros; omega)) <;> (try grind)))
  ·(refine EndOK.val (.inr rfl) ?_; simp [zaL, zag, zas, Tryz.results75])
   rw [zk3 hb hi (.inr ⟨c, hx, by assumption⟩)]
def zeW (s : List UInt8) : Bool := match s with
 | [] => false
 | c :: _ => zbp c && decide (s.length ≤ 20) && decide (zbM (fun c => zbp c || zaT c) s = s.length)
theorem zk0 (s : List UInt8) : Fun Tryz.prog 47 [.u (.str s)] (· = .u (.bool (zeW s))) := by
 cases s with
 | nil =>
  (refine Fun.of_body Tryz.func47 rfl (by simp) fun Γ hn => ?_); simp only [entry, List.zipIdx_cons, List.zipIdx_nil, List.map_cons, List.map_nil, Nat.zero_add, Tryz.ntmps47]
  repeat' (first
  | (refine zaf ?_; simp)
  | (refine zal ?_; simp)
  | (refine zah ?_; simp)
  | (refine zai ?_; simp)
  | (refine zar ?_; simp only [zao])
  | fail)
  all_goals
   (refine EndOK.val (.inr rfl) ?_; simp [zaL, zag, zas, Tryz.results47])
  all_goals simp [zeW]
 | cons c s =>
  by_cases hl : s.length + 1 ≤ 20
  ·have hs := zfe (c :: s) (by simp; omega) 103 _ (fun c _ => zmQ c) (by simp)
   (refine Fun.of_body Tryz.func47 rfl (by simp) fun Γ hn => ?_); simp only [entry, List.zipIdx_cons, List.zipIdx_nil, List.map_cons, List.map_nil, Nat.zero_add, Tryz.ntmps47]
   repeat' (first
  | (refine zaf ?_; simp)
  | (refine zal ?_; simp)
  | (refine ⟨by omega, ?_⟩)
  | (refine zah ?_; simp)
  | (refine zai ?_; simp)
  | (refine zar ?_; simp only [zao])
  | (refine zap ?_; simp only [zao])
  | (refine ⟨fun hc => ?_, fun hc => ?_⟩ <;> (try (exfalso; omega)))
  | (intro hc <;> (try (exfalso; omega)))
  | (refine CallP.fE (zd5 c) (by first | rfl | fail) (by first | (simp; done) | (simp; rfl) | fail) ?_; (try simp))
  | (refine CallP.fE (hs) (by first | rfl | fail) (by first | (simp; done) | (simp; rfl) | fail) ?_; (try simp))
  | fail)
   all_goals
    (refine EndOK.val (.inr rfl) ?_; simp [zaL, zag, zas, Tryz.results47])
   all_goals
    simp [zeW, *]
    try omega
  ·(refine Fun.of_body Tryz.func47 rfl (by simp) fun Γ hn => ?_); simp only [entry, List.zipIdx_cons, List.zipIdx_nil, List.map_cons, List.map_nil, Nat.zero_add, Tryz.ntmps47]
   repeat' (first
  | (refine zaf ?_; simp)
  | (refine zal ?_; simp)
  | (refine zah ?_; simp)
  | (refine zai ?_; simp)
  | (refine zar ?_; simp only [zao])
  | (refine ⟨?_, by omega⟩)
  | (refine ⟨fun hc => ?_, fun hc => ?_⟩ <;> (try (exfalso; omega)))
  | (intro hc <;> (try (exfalso; omega)))
  | (refine CallP.fE (zd5 c) (by first | rfl | fail) (by first | (simp; done) | (simp; rfl) | fail) ?_; (try simp))
  | fail)
   all_goals
    (refine EndOK.val (.inr rfl) ?_; simp [zaL, zag, zas, Tryz.results47])
   all_goals
    simp [zeW, *]
    try omega
def zp9 (l : List (List UInt8)) : U := .sl (l.map fun s => [.str s])
def znT : List (List UInt8) → List UInt8 → Int → Int
 | [], _, _ => -1
 | s :: l, x, i => if x = s then i else znT l x (i + 1)
theorem zqg {l : List (List UInt8)} {x : List UInt8} {i : Nat} {k : Int} (h : ∀ c ∈ l.take i, ¬ x = c) (hx : l[i]? = some x) : znT l x k = k + i := by
 induction l generalizing i k with
 | nil => simp at hx
 | cons s l ih =>
  cases i with
  | zero => simp at hx; simp [znT, hx]
  | succ i =>
   rw [znT, if_neg (h s (by simp)), ih (i := i) (fun c hc => h c (by simp [hc])) (by simpa using hx)]
   omega
theorem znS {l : List (List UInt8)} {x : List UInt8} {k : Int} (h : ∀ c ∈ l, ¬ x = c) : znT l x k = -1 := by
 induction l generalizing k with
 | nil => rfl
 | cons s l ih => rw [znT, if_neg (h s (by simp)), ih fun c hc => h c (by simp [hc])]
theorem zmq (l : List (List UInt8)) (x : List UInt8) : Fun Tryz.prog 105 [.u (zp9 l), .u (.str x)] (· = .u (.int .i64 (znT l x 0))) := by
 (refine Fun.of_body Tryz.func105 rfl (by simp) fun Γ hn => ?_); simp only [entry, List.zipIdx_cons, List.zipIdx_nil, List.map_cons, List.map_nil, Nat.zero_add, Tryz.ntmps105]
 simp only [zp9]
 refine ziV (x := 0) rfl fun hl => ?_
 simp at hl
 repeat' (first
  | (refine zaf ?_; simp)
  | (refine zal ?_; simp)
  | (refine zah ?_; simp)
  | (refine zaA ?_; simp)
  | fail)
 refine zcT (α := { i : Nat // i ≤ l.length ∧ ∀ c ∈ l.take i, ¬ x = c }) [0, 1, 7] (fun i => [(8, .u (.int .i64 i.1))]) (fun i => l.length - i.1) ⟨0, by omega, by simp⟩ ?_ ?_
 ·exact (Wk.env rfl rfl rfl (by simp [wkE, St.lp, zan, zaa, getK] <;> (try (intros; simp_all; done)) <;> (try (intros; omega)) <;> (try grind)))
 rintro ⟨i, hi, hb⟩
 simp [St.lp, St.only, zan, zaa, getK]
 rcases hx : l[i]? with _ | c
 ·have hge : l.length ≤ i := by simpa using hx
  repeat' (first
  | (refine zaf ?_; simp [hx])
  | (refine zal ?_; simp [hx])
  | (refine ⟨by omega, ?_⟩)
  | (refine zah ?_; simp [hx])
  | (refine zar ?_; simp only [zao])
  | (refine zbR ?_; simp [zao])
  | (intro hc <;> (try (exfalso; omega)))
  | fail)
  (refine EndOK.val (.inr rfl) ?_; simp [zaL, zag, zas, Tryz.results105])
  rw [List.take_of_length_le hge] at hb
  exact (znS hb).symm
 ·have hlt := (List.getElem?_eq_some_iff.1 hx).1
  by_cases hxc : x = c
  ·subst hxc
   repeat' (first
  | (refine zaf ?_; simp [hx])
  | (refine zal ?_; simp [hx])
  | (refine zah ?_; simp [hx])
  | (refine zai ?_; simp [hx])
  | (refine zar ?_; simp only [zao])
  | (refine zap ?_; simp only [zao])
  | (refine ⟨?_, by omega⟩)
  | (intro hc <;> (try (exfalso; omega)))
  | fail)
   (refine EndOK.val (.inr rfl) ?_; simp [zaL, zag, zas, Tryz.results105])
   rw [zqg hb hx]
   omega
  ·repeat' (first
  | (refine zaf ?_; simp [hx, hxc])
  | (refine zal ?_; simp [hx, hxc])
  | (refine ⟨by omega, ?_⟩)
  | (refine zah ?_; simp [hx, hxc])
  | (refine zai ?_; simp [hx, hxc])
  | (refine zaC ?_; simp [hx, hxc])
  | (refine zap ?_; simp only [zao])
  | (refine ⟨?_, by omega⟩)
  | (intro hc <;> (try (exfalso; omega)))
  | fail)
   refine LoopW.next ⟨i + 1, by omega, zby hx hb hxc⟩ (by simp; omega) ?_
   exact (Wk.env rfl rfl rfl (by simp [wkE, St.lp, zan, zaa, getK] <;> (try (intros; simp_all; done)) <;> (try (intros; omega)) <;> (try grind)))
theorem zo9 (l : List (List UInt8)) (x : List UInt8) : ∀ k : Int, 0 ≤ k → decide (0 ≤ znT l x k) = l.contains x := by
 induction l with
 | nil => intro k hk; simp [znT]
 | cons s l ih =>
  intro k hk
  by_cases h : x = s
  ·subst h; simp [znT, hk]
  ·rw [znT, if_neg h, ih (k + 1) (by omega)]
   simp [h]
theorem ziO (l : List (List UInt8)) (x : List UInt8) : Fun Tryz.prog 48 [.u (zp9 l), .u (.str x)] (· = .u (.bool (l.contains x))) := by
 have h1 := zmq l x
 (refine Fun.of_body Tryz.func48 rfl (by simp) fun Γ hn => ?_); simp only [entry, List.zipIdx_cons, List.zipIdx_nil, List.map_cons, List.map_nil, Nat.zero_add, Tryz.ntmps48]
 simp only [zp9] at h1 ⊢
 repeat' (first
  | (refine zaf ?_; simp)
  | (refine zal ?_; simp)
  | (refine zah ?_; simp)
  | (refine zar ?_; simp only [zao])
  | (refine CallP.fE (h1) (by first | rfl | fail) (by first | (simp; done) | (simp; rfl) | fail) ?_; (try simp))
  | fail)
 (refine EndOK.val (.inr rfl) ?_; simp [zaL, zag, zas, Tryz.results48])
 have h2 := zo9 l x 0 (by omega)
 simpa using h2
def words : List (List UInt8) := [[97, 110, 100], [98, 97, 99, 107, 115], [98, 105, 100, 100, 105, 110, 103], [99, 105, 114, 99, 108, 101], [99, 111, 105, 110, 115], [99, 111, 118, 101, 114], [100, 97, 121, 115], [100, 114, 97, 119], [100, 117, 101], [101, 108, 115, 101], [102, 97, 108, 115, 101], [102, 105, 110, 101], [102, 117, 110, 100], [103, 114, 97, 99, 101], [104, 111, 108, 100], [105, 102], [106, 111, 105, 110], [106, 117, 114, 121], [108, 101, 116], [109, 97, 120], [109, 105, 108, 108, 101], [109, 105, 110], [110, 101, 101, 100], [110, 111, 116], [111, 114], [111, 114, 100, 101, 114], [112, 97, 121], [112, 101, 114], [114, 111, 116, 97, 116, 105, 110, 103], [115, 97, 118, 105, 110, 103], [115, 101, 97, 108, 101, 100], [116, 104, 101, 110], [116, 114, 117, 101], [118, 111, 105, 99, 101, 115], [119, 97, 105, 116]]
set_option maxHeartbeats 4000000 in
set_option maxRecDepth 100000 in
theorem zjf : Fun Tryz.prog 49 [] (· = .u (zp9 words)) := by
 (refine Fun.of_bodyW Tryz.func49 rfl (by simp) fun Γ hn => ?_); simp only [entry, List.zipIdx_cons, List.zipIdx_nil, List.map_cons, List.map_nil, Nat.zero_add, Tryz.ntmps49]
 simp only [zp9, words, List.map_cons, List.map_nil]
 repeat' (first
  | (refine zaf ?_; simp [zbq, zbo])
  | (refine zal ?_; simp [zbq, zbo])
  | (refine zah ?_; simp [zbq, zbo])
  | (refine zar ?_; simp only [zao])
  | fail)
 (refine EndW.frzN 1 ?_; simp [frzN, frz1, zay, zax, St.frz, St.frzS, frzS, fv, zaz, za5, za8, zaF, zat, zaj, del, frz, za9])
 refine EndW.here ?_
 (refine EndOK.val (.inr rfl) ?_; simp [zaL, zag, zas, Tryz.results49])
end Go.Proofs.YthnemhfamhnfjaaGreatDoor
namespace Go.Proofs.YthnemhfamhnfjaaGreatDoor
open Go Go.VL
structure Tok where
 kind : Int
 text : List UInt8
 n : Int
 pos : Int
 deriving DecidableEq, Inhabited
def Tok.row (t : Tok) : List U := [.int .i64 t.kind, .str t.text, .int .i64 t.n, .int .i64 t.pos]
def zbb (c : UInt8) : Bool := decide (c.toNat = 32) || decide (c.toNat = 9) || decide (c.toNat = 10)
def zco (c : UInt8) : Bool := zbp c || zaT c
def zbe (s : List UInt8) : Int := s.foldl (fun n c => 10 * n + ((c.toNat : Int) - 48)) 0
def zex (s : List UInt8) : Option Int :=
 if s = [] ∨ zbM zaT s ≠ s.length ∨ (s.head? = some 48 ∧ s ≠ [48]) ∨ 13 < s.length then none else if 1099511627776 < zbe s then none else some (zbe s)
theorem zdT (s : List UInt8) (c : UInt8) : zbe (s ++ [c]) = 10 * zbe s + ((c.toNat : Int) - 48) := by simp [zbe]
theorem zfy : ∀ (n : Nat) (s : List UInt8), s.length = n → (∀ c ∈ s, zaT c = true) → 0 ≤ zbe s ∧ zbe s < 10 ^ n
 | 0, s, h, _ => by have := List.eq_nil_of_length_eq_zero h; subst this; simp [zbe]
 | n + 1, s, h, hd => by
  have hne : s ≠ [] := fun e => by rw [e] at h; simp at h
  obtain ⟨t, c, rfl⟩ : ∃ t c, s = t ++ [c] := ⟨s.dropLast, s.getLast hne, (List.dropLast_concat_getLast hne).symm⟩
  have h1 := zfy n t (by simpa using h) (fun x hx => hd x (by simp [hx]))
  have h2 := hd c (by simp)
  simp only [zaT, Bool.and_eq_true, decide_eq_true_eq] at h2
  rw [zdT]
  have : (10 : Int) ^ (n + 1) = 10 * 10 ^ n := by rw [Int.pow_succ]; omega
  omega
attribute [local simp] zcR zb0 evPure opd uOf zaH St.put St.at getK binD binI binS binB nilD aggD zgp zhi lookD lookR zcm Go.VL.nextD zcq zhv zhu zfX zcs mkV zdb zbj zbr mapEff zd1 zfM Key.kk shiftI arith unD convD zdH loadD cellsAt fieldAddrD fieldD indexAddrD indexD sliceD cutD lenD minmaxD nilCheckD buildD fillD zbH zcW zes setAll zcE zeJ zch zgC zcd St.add zaM zbB rowsOf zdw zcA zak zac zaa zba zcz zaR entry zbo zbq valD zb5 zcu zgh zc8 zda zbO zbG zau za2 zbm delAll effD St.effS zcM za6 zaY zcN za7 za0 zbY zaZ zaS zbZ zcH zbv zbV zbi zbT zbU zaJ mkD zbI zbs zbF zau zcf D.ids Op.operands Call.operands zbx makeIfD makeFuncD typeAssertD zhh zds zdt zgK zcn IntKind.bits zcG List.take_of_length_le List.range_succ
attribute [local irreducible] V G H HD HD2 zao Eff CallP CallV EndOK Fun Ret FinOK LoopI LoopW EndW
theorem zoc (c : UInt8) : Fun Tryz.prog 76 [.u (.int .u8 c.toNat)] (· = .u (.bool (zbb c))) := by
 unfold zbb
 (refine Fun.of_body Tryz.func76 rfl (by simp) fun Γ hn => ?_); simp only [entry, List.zipIdx_cons, List.zipIdx_nil, List.map_cons, List.map_nil, Nat.zero_add, Tryz.ntmps76]
 repeat' (first
  | (refine zaf ?_; simp)
  | (refine zal ?_; simp)
  | (refine zah ?_; simp)
  | (refine zar ?_; simp only [zao])
  | (refine ⟨fun hc => ?_, fun hc => ?_⟩ <;> (try (exfalso; omega)))
  | fail)
 all_goals
  (refine EndOK.val (.inr rfl) ?_; simp [zaL, zag, zas, Tryz.results76])
 all_goals first | omega | (rw [Bool.eq_iff_iff]; simp; omega) | (simp; omega)
theorem znr (c : UInt8) : Fun Tryz.prog 124 [.u (.int .u8 c.toNat)] (· = .u (.bool (zco c))) := by
 unfold zco
 (refine Fun.of_body Tryz.func124 rfl (by simp) fun Γ hn => ?_); simp only [entry, List.zipIdx_cons, List.zipIdx_nil, List.map_cons, List.map_nil, Nat.zero_add, Tryz.ntmps124]
 repeat' (first
  | (refine zaf ?_; simp)
  | (refine zal ?_; simp)
  | (refine zah ?_; simp)
  | (refine zar ?_; simp only [zao])
  | (refine ⟨fun hc => ?_, fun hc => ?_⟩ <;> (try (exfalso; omega)))
  | (refine CallP.fE (zd5 c) (by first | rfl | fail) (by first | (simp; done) | (simp; rfl) | fail) ?_; (try simp))
  | (refine CallP.fE (zeG c) (by first | rfl | fail) (by first | (simp; done) | (simp; rfl) | fail) ?_; (try simp))
  | fail)
 all_goals
  (refine EndOK.val (.inr rfl) ?_; simp [zaL, zag, zas, Tryz.results124])
 all_goals simp_all
theorem zdN (p : UInt8 → Bool) (l : List UInt8) : zbM p l ≤ l.length := by
 unfold zbM
 exact (List.takeWhile_sublist p).length_le
theorem zmZ {p : UInt8 → Bool} {l : List UInt8} (h : zbM p l = l.length) : ∀ c ∈ l, p c = true := by
 have : l.takeWhile p = l := (List.takeWhile_sublist p).eq_of_length h
 intro c hc
 rw [← this] at hc
 exact List.all_eq_true.1 (List.all_takeWhile (l := l) (p := p)) c hc
theorem zl8 (s : List UInt8) (hl : s.length ≤ 1000000) : Fun Tryz.prog 125 [.u (.str s)] (· = .tup [.u (.int .i64 ((zex s).getD 0)), .u (.bool (zex s).isSome)]) := by
 have hsp := zfe s hl 104 zaT (fun c _ => zeG c) (by simp)
 unfold zex
 cases s with
 | nil =>
  (refine Fun.of_body Tryz.func125 rfl (by simp) fun Γ hn => ?_); simp only [entry, List.zipIdx_cons, List.zipIdx_nil, List.map_cons, List.map_nil, Nat.zero_add, Tryz.ntmps125]
  repeat' (first
  | (refine zaf ?_; simp)
  | (refine zal ?_; simp)
  | (refine zah ?_; simp)
  | (refine zai ?_; simp)
  | (refine zar ?_; simp only [zao])
  | fail)
  all_goals
   (refine EndOK.val (.inr rfl) ?_; simp [zaL, zag, zas, Tryz.results125])
 | cons c s =>
  by_cases h1 : zbM zaT (c :: s) = (c :: s).length
  case neg =>
   rw [if_pos (.inr (.inl h1))]
   have h1' : ¬ (zbM zaT (c :: s) : Int) = s.length + 1 := by simp at h1; omega
   (refine Fun.of_body Tryz.func125 rfl (by simp) fun Γ hn => ?_); simp only [entry, List.zipIdx_cons, List.zipIdx_nil, List.map_cons, List.map_nil, Nat.zero_add, Tryz.ntmps125]
   repeat' (first
  | (refine zaf ?_; simp [h1'])
  | (refine zal ?_; simp [h1'])
  | (refine zah ?_; simp [h1'])
  | (refine zai ?_; simp [h1'])
  | (refine zar ?_; simp only [zao])
  | (refine CallP.fE (hsp) (by first | rfl | fail) (by first | (simp [h1']; done) | (simp [h1']; rfl) | fail) ?_; (try simp [h1']))
  | fail)
   all_goals
    (refine EndOK.val (.inr rfl) ?_; simp [zaL, zag, zas, Tryz.results125])
  have h1' : (zbM zaT (c :: s) : Int) = s.length + 1 := by simp at h1; omega
  by_cases h2 : c.toNat = 48 ∧ s ≠ []
  ·rw [if_pos (.inr (.inr (.inl ⟨by have := h2.1; simp; exact UInt8.toNat_inj.1 this, by simp; intro _; exact h2.2⟩)))]
   have h2b := h2.1
   have h2a := h2.2
   (refine Fun.of_body Tryz.func125 rfl (by simp) fun Γ hn => ?_); simp only [entry, List.zipIdx_cons, List.zipIdx_nil, List.map_cons, List.map_nil, Nat.zero_add, Tryz.ntmps125]
   repeat' (first
  | (refine zaf ?_; simp [h1', h2a, h2b])
  | (refine zal ?_; simp [h1', h2a, h2b])
  | (refine zah ?_; simp [h1', h2a, h2b])
  | (refine zai ?_; simp [h1', h2a, h2b])
  | (refine zar ?_; simp only [zao])
  | (refine CallP.fE (hsp) (by first | rfl | fail) (by first | (simp [h1', h2a, h2b]; done) | (simp [h1', h2a, h2b]; rfl) | fail) ?_; (try simp [h1', h2a, h2b]))
  | fail)
   all_goals
    (refine EndOK.val (.inr rfl) ?_; simp [zaL, zag, zas, Tryz.results125])
  have h2' : c.toNat = 48 → s = [] := fun h => by
   by_cases hs : s = []
   ·exact hs
   ·exact absurd ⟨h, hs⟩ h2
  by_cases h3 : 13 < (c :: s).length
  ·rw [if_pos (.inr (.inr (.inr h3)))]
   have h3' : 13 < (s.length : Int) + 1 := by simp at h3; omega
   have hne : s ≠ [] := fun e => by rw [e] at h3; simp at h3
   have h2'' : ¬ c.toNat = 48 := fun h => hne (h2' h)
   (refine Fun.of_body Tryz.func125 rfl (by simp) fun Γ hn => ?_); simp only [entry, List.zipIdx_cons, List.zipIdx_nil, List.map_cons, List.map_nil, Nat.zero_add, Tryz.ntmps125]
   repeat' (first
  | (refine zaf ?_; simp [h1', h2'', h3'])
  | (refine zal ?_; simp [h1', h2'', h3'])
  | (refine ⟨by omega, ?_⟩)
  | (refine zah ?_; simp [h1', h2'', h3'])
  | (refine zai ?_; simp [h1', h2'', h3'])
  | (refine zar ?_; simp only [zao])
  | (intro hc <;> (try (exfalso; omega)))
  | (refine CallP.fE (hsp) (by first | rfl | fail) (by first | (simp [h1', h2'', h3']; done) | (simp [h1', h2'', h3']; rfl) | fail) ?_; (try simp [h1', h2'', h3']))
  | fail)
   all_goals
    (refine EndOK.val (.inr rfl) ?_; simp [zaL, zag, zas, Tryz.results125])
  have hall := zmZ h1
  rw [if_neg (by
   simp only [not_or]
   refine ⟨by simp, fun h => h h1, fun h => ?_, h3⟩
   have hc48 : c = 48 := by have := h.1; simpa using this
   have := h2' (by rw [hc48]; rfl)
   rw [this, hc48] at h
   exact h.2 rfl)]
  have h3' : ¬ 13 < (s.length : Int) + 1 := by simp at h3; omega
  have hval : ∀ k, k ≤ (c :: s).length → 0 ≤ zbe ((c :: s).take k) ∧ zbe ((c :: s).take k) < 10 ^ 13 := fun k hk => by
   have h4 := zfy k ((c :: s).take k) (by simp; simp at hk; omega) (fun x hx => hall x (List.mem_of_mem_take hx))
   have : (10 : Int) ^ k ≤ 10 ^ 13 := by
    have := Nat.pow_le_pow_right (n := 10) (by omega) (show k ≤ 13 by simp at h3 hk; omega)
    exact_mod_cast this
   omega
  have hloop : ∀ (hw : c.toNat = 48 → s = []), Fun Tryz.prog 125 [.u (.str (c :: s))] (· = .tup [.u (.int .i64 ((if 1099511627776 < zbe (c :: s) then none else some (zbe (c :: s)) : Option Int).getD 0)), .u (.bool (if 1099511627776 < zbe (c :: s) then none else some (zbe (c :: s)) : Option Int).isSome)]) := fun hw => by
   by_cases h48 : c.toNat = 48
   ·have h48' : (c.toNat : Int) = 48 := by omega
    have hc48 : (c = 48) = True := eq_true (UInt8.toNat_inj.1 h48)
    have hs0 : (s = []) = True := eq_true (hw h48)
    (refine Fun.of_body Tryz.func125 rfl (by simp) fun Γ hn => ?_); simp only [entry, List.zipIdx_cons, List.zipIdx_nil, List.map_cons, List.map_nil, Nat.zero_add, Tryz.ntmps125]
    repeat' (first
  | (refine zaf ?_; simp [h1', h3', h48', hc48, hs0])
  | (refine zal ?_; simp [h1', h3', h48', hc48, hs0])
  | (refine zah ?_; simp [h1', h3', h48', hc48, hs0])
  | (refine zai ?_; simp [h1', h3', h48', hc48, hs0])
  | (refine zaA ?_; simp [h1', h3', h48', hc48, hs0])
  | (refine zap ?_; simp only [zao])
  | (refine CallP.fE (hsp) (by first | rfl | fail) (by first | (simp [h1', h3', h48', hc48, hs0]; done) | (simp [h1', h3', h48', hc48, hs0]; rfl) | fail) ?_; (try simp [h1', h3', h48', hc48, hs0]))
  | fail)
    refine zcT (α := { i : Nat // i ≤ (c :: s).length }) [0, 30] (fun i => [(4, .u (.int .i64 (zbe ((c :: s).take i.1)))), (31, .u (.int .i64 i.1))]) (fun i => (c :: s).length - i.1) ⟨0, by omega⟩ ?_ ?_
    ·exact (Wk.cut rfl (by simp [hn, St.lp]) (by simp [wkO, St.lp, zaa, getK, Ob.under, D.under, zad, zae, zbe]) (by simp [wkU, St.lp, zan, zaa, getK, D.under, zbe]) (by simp [wkE, St.lp, zan, zaa, getK, zbe] <;> (try (intros; simp_all; done)) <;> (try (intros; omega)) <;> (try grind)))
    rintro ⟨i, hi⟩
    simp [St.lp, St.only, zan, zaa, getK]
    rcases hx : (c :: s)[i]? with _ | a
    ·have hge : (c :: s).length ≤ i := by simpa using hx
     obtain rfl : i = (c :: s).length := by omega
     rw [List.take_length]
     have hge2 : ¬ ((c :: s).length : Int) < s.length + 1 := by simp
     by_cases hb : 1099511627776 < zbe (c :: s)
     ·repeat' (first
  | (refine zaf ?_; simp [hb, hge2])
  | (refine zal ?_; simp [hb, hge2])
  | (refine zah ?_; simp [hb, hge2])
  | (refine zai ?_; simp [hb, hge2])
  | (refine zar ?_; simp only [zao])
  | (refine zbR ?_; simp [zao])
  | fail)
      (refine EndOK.val (.inr rfl) ?_; simp [zaL, zag, zas, Tryz.results125])
      try simp [hb]
     ·repeat' (first
  | (refine zaf ?_; simp [hb, hge2])
  | (refine zal ?_; simp [hb, hge2])
  | (refine zah ?_; simp [hb, hge2])
  | (refine zai ?_; simp [hb, hge2])
  | (refine zar ?_; simp only [zao])
  | (refine zap ?_; simp only [zao])
  | (refine zbR ?_; simp [zao])
  | fail)
      (refine EndOK.val (.inr rfl) ?_; simp [zaL, zag, zas, Tryz.results125])
      try simp [hb]
    ·have hlt : i < (c :: s).length := (List.getElem?_eq_some_iff.1 hx).1
     have hlt2 : (i : Int) < s.length + 1 := by simp at hlt; omega
     have hd := hall a (List.mem_of_getElem? hx)
     simp only [zaT, Bool.and_eq_true, decide_eq_true_eq] at hd
     have hv := hval i hi
     have hv2 := hval (i + 1) hlt
     have hsn : zbe ((c :: s).take (i + 1)) = 10 * zbe ((c :: s).take i) + ((a.toNat : Int) - 48) := by
      rw [List.take_succ, hx]; exact zdT _ _
     generalize zbe ((c :: s).take i) = dv at hv hsn
     have hsn2 := hsn.symm
     repeat' (first
  | (refine zaf ?_; simp [hx, hlt2, hsn2])
  | (refine zal ?_; simp [hx, hlt2, hsn2])
  | (refine ⟨by omega, ?_⟩)
  | (refine zah ?_; simp [hx, hlt2, hsn2])
  | (refine zaC ?_; simp [hx, hlt2, hsn2])
  | (refine zap ?_; simp only [zao])
  | fail)
     refine LoopW.next ⟨i + 1, hlt⟩ (by simp at hlt; simp; omega) ?_
     exact (Wk.cut rfl (by simp [hn, St.lp]) (by simp [wkO, St.lp, zaa, getK, Ob.under, D.under, zad, zae, hsn]) (by simp [wkU, St.lp, zan, zaa, getK, D.under, hsn]) (by simp [wkE, St.lp, zan, zaa, getK, hsn] <;> (try (intros; simp_all; done)) <;> (try (intros; omega)) <;> (try grind)))
   ·(refine Fun.of_body Tryz.func125 rfl (by simp) fun Γ hn => ?_); simp only [entry, List.zipIdx_cons, List.zipIdx_nil, List.map_cons, List.map_nil, Nat.zero_add, Tryz.ntmps125]
    repeat' (first
  | (refine zaf ?_; simp [h1', h3', h48])
  | (refine zal ?_; simp [h1', h3', h48])
  | (refine ⟨by omega, ?_⟩)
  | (refine zah ?_; simp [h1', h3', h48])
  | (refine zai ?_; simp [h1', h3', h48])
  | (refine zaA ?_; simp [h1', h3', h48])
  | (refine zap ?_; simp only [zao])
  | (intro hc <;> (try (exfalso; omega)))
  | (refine CallP.fE (hsp) (by first | rfl | fail) (by first | (simp [h1', h3', h48]; done) | (simp [h1', h3', h48]; rfl) | fail) ?_; (try simp [h1', h3', h48]))
  | fail)
    refine zcT (α := { i : Nat // i ≤ (c :: s).length }) [0, 30] (fun i => [(4, .u (.int .i64 (zbe ((c :: s).take i.1)))), (31, .u (.int .i64 i.1))]) (fun i => (c :: s).length - i.1) ⟨0, by omega⟩ ?_ ?_
    ·exact (Wk.cut rfl (by simp [hn, St.lp]) (by simp [wkO, St.lp, zaa, getK, Ob.under, D.under, zad, zae, zbe]) (by simp [wkU, St.lp, zan, zaa, getK, D.under, zbe]) (by simp [wkE, St.lp, zan, zaa, getK, zbe] <;> (try (intros; simp_all; done)) <;> (try (intros; omega)) <;> (try grind)))
    rintro ⟨i, hi⟩
    simp [St.lp, St.only, zan, zaa, getK]
    rcases hx : (c :: s)[i]? with _ | a
    ·have hge : (c :: s).length ≤ i := by simpa using hx
     obtain rfl : i = (c :: s).length := by omega
     rw [List.take_length]
     have hge2 : ¬ ((c :: s).length : Int) < s.length + 1 := by simp
     by_cases hb : 1099511627776 < zbe (c :: s)
     ·repeat' (first
  | (refine zaf ?_; simp [hb, hge2])
  | (refine zal ?_; simp [hb, hge2])
  | (refine zah ?_; simp [hb, hge2])
  | (refine zai ?_; simp [hb, hge2])
  | (refine zar ?_; simp only [zao])
  | (refine zbR ?_; simp [zao])
  | fail)
      (refine EndOK.val (.inr rfl) ?_; simp [zaL, zag, zas, Tryz.results125])
      try simp [hb]
     ·repeat' (first
  | (refine zaf ?_; simp [hb, hge2])
  | (refine zal ?_; simp [hb, hge2])
  | (refine zah ?_; simp [hb, hge2])
  | (refine zai ?_; simp [hb, hge2])
  | (refine zar ?_; simp only [zao])
  | (refine zap ?_; simp only [zao])
  | (refine zbR ?_; simp [zao])
  | fail)
      (refine EndOK.val (.inr rfl) ?_; simp [zaL, zag, zas, Tryz.results125])
      try simp [hb]
    ·have hlt : i < (c :: s).length := (List.getElem?_eq_some_iff.1 hx).1
     have hlt2 : (i : Int) < s.length + 1 := by simp at hlt; omega
     have hd := hall a (List.mem_of_getElem? hx)
     simp only [zaT, Bool.and_eq_true, decide_eq_true_eq] at hd
     have hv := hval i hi
     have hv2 := hval (i + 1) hlt
     have hsn : zbe ((c :: s).take (i + 1)) = 10 * zbe ((c :: s).take i) + ((a.toNat : Int) - 48) := by
      rw [List.take_succ, hx]; exact zdT _ _
     generalize zbe ((c :: s).take i) = dv at hv hsn
     have hsn2 := hsn.symm
     repeat' (first
  | (refine zaf ?_; simp [hx, hlt2, hsn2])
  | (refine zal ?_; simp [hx, hlt2, hsn2])
  | (refine ⟨by omega, ?_⟩)
  | (refine zah ?_; simp [hx, hlt2, hsn2])
  | (refine zaC ?_; simp [hx, hlt2, hsn2])
  | (refine zap ?_; simp only [zao])
  | fail)
     refine LoopW.next ⟨i + 1, hlt⟩ (by simp at hlt; simp; omega) ?_
     exact (Wk.cut rfl (by simp [hn, St.lp]) (by simp [wkO, St.lp, zaa, getK, Ob.under, D.under, zad, zae, hsn]) (by simp [wkU, St.lp, zan, zaa, getK, D.under, hsn]) (by simp [wkE, St.lp, zan, zaa, getK, hsn] <;> (try (intros; simp_all; done)) <;> (try (intros; omega)) <;> (try grind)))
  exact hloop h2'
def signsL : List (List UInt8) := [[61, 61], [59], [44], [61], [60], [43], [45], [42], [47], [40], [41]]
def zfV (s : List UInt8) : Except Int Tok := match s with
 | [] => .error 0
 | c :: r => if zbp c = true then
   if zeW ((c :: r).take (zbM zco (c :: r))) = true then .ok ⟨1, (c :: r).take (zbM zco (c :: r)), 0, 0⟩ else .error 13
  else if zaT c = true then
   match zex ((c :: r).take (zbM zaT (c :: r))) with | some n => .ok ⟨2, (c :: r).take (zbM zaT (c :: r)), n, 0⟩ | none => .error 3
  else match signsL.find? fun x => x.isPrefixOf (c :: r) with | some x => .ok ⟨3, x, 0, 0⟩ | none => .error 11
def nextD (s : List UInt8) : D := match zfV s with | .ok t => .tup [.u (.agg [.int .i64 t.kind, .str t.text, .int .i64 t.n, .int .i64 t.pos]), .u (.int .i64 0)] | .error e => .tup [.u (.agg [.int .i64 0, .str [], .int .i64 0, .int .i64 0]), .u (.int .i64 e)]
theorem zkD (s p : List UInt8) : Fun Tryz.prog 142 [.u (.str s), .u (.str p)] (· = .u (.bool (p.isPrefixOf s))) := by
 by_cases hl : p.length ≤ s.length
 ·have hl2 : (p.length : Int) ≤ s.length := by omega
  by_cases he : s.take p.length = p
  ·have hp : p.isPrefixOf s = true := List.isPrefixOf_iff_prefix.2 (List.prefix_iff_eq_take.2 he.symm)
   (refine Fun.of_body Tryz.func142 rfl (by simp) fun Γ hn => ?_); simp only [entry, List.zipIdx_cons, List.zipIdx_nil, List.map_cons, List.map_nil, Nat.zero_add, Tryz.ntmps142]
   repeat' (first
  | (refine zaf ?_; simp [hl, hl2, he])
  | (refine zal ?_; simp [hl, hl2, he])
  | (refine zah ?_; simp [hl, hl2, he])
  | (refine zar ?_; simp only [zao])
  | fail)
   all_goals
    (refine EndOK.val (.inr rfl) ?_; simp [zaL, zag, zas, Tryz.results142])
   all_goals first | (rw [hp]; done) | exact List.isPrefixOf_iff_prefix.1 hp | (simp [hp]; done) | rfl
  ·have hp : p.isPrefixOf s = false := by
    cases h : p.isPrefixOf s with
    | false => rfl
    | true => exact absurd (List.prefix_iff_eq_take.1 (List.isPrefixOf_iff_prefix.1 h)).symm he
   (refine Fun.of_body Tryz.func142 rfl (by simp) fun Γ hn => ?_); simp only [entry, List.zipIdx_cons, List.zipIdx_nil, List.map_cons, List.map_nil, Nat.zero_add, Tryz.ntmps142]
   repeat' (first
  | (refine zaf ?_; simp [hl, hl2, he])
  | (refine zal ?_; simp [hl, hl2, he])
  | (refine zah ?_; simp [hl, hl2, he])
  | (refine zar ?_; simp only [zao])
  | fail)
   all_goals
    (refine EndOK.val (.inr rfl) ?_; simp [zaL, zag, zas, Tryz.results142])
   all_goals first | (rw [hp]; done) | exact List.isPrefixOf_iff_prefix.1 hp | (simp [hp]; done) | rfl
 ·have hl2 : ¬ (p.length : Int) ≤ s.length := by omega
  have hp : p.isPrefixOf s = false := by
   cases h : p.isPrefixOf s with
   | false => rfl
   | true => exact absurd (List.isPrefixOf_iff_prefix.1 h).length_le hl
  (refine Fun.of_body Tryz.func142 rfl (by simp) fun Γ hn => ?_); simp only [entry, List.zipIdx_cons, List.zipIdx_nil, List.map_cons, List.map_nil, Nat.zero_add, Tryz.ntmps142]
  repeat' (first
  | (refine zaf ?_; simp [hl, hl2])
  | (refine zal ?_; simp [hl, hl2])
  | (refine zah ?_; simp [hl, hl2])
  | (refine zar ?_; simp only [zao])
  | fail)
  all_goals
   (refine EndOK.val (.inr rfl) ?_; simp [zaL, zag, zas, Tryz.results142])
  all_goals first | (rw [hp]; done) | exact List.isPrefixOf_iff_prefix.1 hp | (simp [hp]; done) | rfl
theorem zlZ (s p : List UInt8) : Fun Tryz.prog 126 [.u (.str s), .u (.str p)] (· = .u (.bool (p.isPrefixOf s))) := by
 have h := zkD s p
 (refine Fun.of_body Tryz.func126 rfl (by simp) fun Γ hn => ?_); simp only [entry, List.zipIdx_cons, List.zipIdx_nil, List.map_cons, List.map_nil, Nat.zero_add, Tryz.ntmps126]
 repeat' (first
  | (refine zaf ?_; simp)
  | (refine zal ?_; simp)
  | (refine zah ?_; simp)
  | (refine zar ?_; simp only [zao])
  | (refine CallP.fE (h) (by first | rfl | fail) (by first | (simp; done) | (simp; rfl) | fail) ?_; (try simp))
  | fail)
 (refine EndOK.val (.inr rfl) ?_; simp [zaL, zag, zas, Tryz.results126])
@[local simp] theorem zqN : znX 0 = .u (.row (signsL.map .str) 0) := by
 simp [znX, globs, signsL, uOf]
theorem hsl : signsL.length = 11 := rfl
theorem zoR (s : List UInt8) (hs : s ≠ []) (hl : s.length ≤ 1000000) : Fun Tryz.prog 77 [.u (.str s)] (· = nextD s) := by
 obtain ⟨c, r, rfl⟩ : ∃ c r, s = c :: r := by cases s with | nil => exact absurd rfl hs | cons c r => exact ⟨c, r, rfl⟩
 have h1 := zd5 c
 have h2 := zeG c
 have h3 := zfe (c :: r) hl 124 zco (fun c _ => znr c) (by simp)
 have h4 := zfe (c :: r) hl 104 zaT (fun c _ => zeG c) (by simp)
 have h5 := zk0 ((c :: r).take (zbM zco (c :: r)))
 have h6 := zl8 ((c :: r).take (zbM zaT (c :: r))) (by have := zdN zaT (c :: r); rw [List.length_take]; omega)
 have l1 : (zbM zco (c :: r) : Int) ≤ r.length + 1 := by have := zdN zco (c :: r); simp at this; omega
 have l2 : (zbM zaT (c :: r) : Int) ≤ r.length + 1 := by have := zdN zaT (c :: r); simp at this; omega
 have l1' : zbM zco (c :: r) ≤ r.length + 1 := by omega
 have l2' : zbM zaT (c :: r) ≤ r.length + 1 := by omega
 unfold nextD zfV
 cases c1 : zbp c with
 | true =>
  rw [c1] at h1
  cases c3 : zeW ((c :: r).take (zbM zco (c :: r))) with
  | true =>
   rw [c3] at h5
   (refine Fun.of_body Tryz.func77 rfl (by simp) fun Γ hn => ?_); simp only [entry, List.zipIdx_cons, List.zipIdx_nil, List.map_cons, List.map_nil, Nat.zero_add, Tryz.ntmps77]
   repeat' (first
  | (refine zaf ?_; simp [l1, l1'])
  | (refine zal ?_; simp [l1, l1'])
  | (refine zah ?_; simp [l1, l1'])
  | (refine zai ?_; simp [l1, l1'])
  | (refine zar ?_; simp only [zao])
  | (refine zap ?_; simp only [zao])
  | (refine CallP.fE (h1) (by first | rfl | fail) (by first | (simp [l1, l1']; done) | (simp [l1, l1']; rfl) | fail) ?_; (try simp [l1, l1']))
  | (refine CallP.fE (h3) (by first | rfl | fail) (by first | (simp [l1, l1']; done) | (simp [l1, l1']; rfl) | fail) ?_; (try simp [l1, l1']))
  | (refine CallP.fE (h5) (by first | rfl | fail) (by first | (simp [l1, l1']; done) | (simp [l1, l1']; rfl) | fail) ?_; (try simp [l1, l1']))
  | fail)
   (refine EndOK.val (.inr rfl) ?_; simp [zaL, zag, zas, Tryz.results77])
   simp [c1, c3]
  | false =>
   rw [c3] at h5
   (refine Fun.of_body Tryz.func77 rfl (by simp) fun Γ hn => ?_); simp only [entry, List.zipIdx_cons, List.zipIdx_nil, List.map_cons, List.map_nil, Nat.zero_add, Tryz.ntmps77]
   repeat' (first
  | (refine zaf ?_; simp [l1, l1'])
  | (refine zal ?_; simp [l1, l1'])
  | (refine zah ?_; simp [l1, l1'])
  | (refine zai ?_; simp [l1, l1'])
  | (refine zar ?_; simp only [zao])
  | (refine CallP.fE (h1) (by first | rfl | fail) (by first | (simp [l1, l1']; done) | (simp [l1, l1']; rfl) | fail) ?_; (try simp [l1, l1']))
  | (refine CallP.fE (h3) (by first | rfl | fail) (by first | (simp [l1, l1']; done) | (simp [l1, l1']; rfl) | fail) ?_; (try simp [l1, l1']))
  | (refine CallP.fE (h5) (by first | rfl | fail) (by first | (simp [l1, l1']; done) | (simp [l1, l1']; rfl) | fail) ?_; (try simp [l1, l1']))
  | fail)
   (refine EndOK.val (.inr rfl) ?_; simp [zaL, zag, zas, Tryz.results77])
   simp [c1, c3]
 | false =>
  rw [c1] at h1
  cases c2 : zaT c with
  | true =>
   rw [c2] at h2
   cases c3 : zex ((c :: r).take (zbM zaT (c :: r))) with
   | none =>
    rw [c3] at h6
    (refine Fun.of_body Tryz.func77 rfl (by simp) fun Γ hn => ?_); simp only [entry, List.zipIdx_cons, List.zipIdx_nil, List.map_cons, List.map_nil, Nat.zero_add, Tryz.ntmps77]
    repeat' (first
  | (refine zaf ?_; simp [l2, l2'])
  | (refine zal ?_; simp [l2, l2'])
  | (refine zah ?_; simp [l2, l2'])
  | (refine zai ?_; simp [l2, l2'])
  | (refine zar ?_; simp only [zao])
  | (refine CallP.fE (h1) (by first | rfl | fail) (by first | (simp [l2, l2']; done) | (simp [l2, l2']; rfl) | fail) ?_; (try simp [l2, l2']))
  | (refine CallP.fE (h2) (by first | rfl | fail) (by first | (simp [l2, l2']; done) | (simp [l2, l2']; rfl) | fail) ?_; (try simp [l2, l2']))
  | (refine CallP.fE (h4) (by first | rfl | fail) (by first | (simp [l2, l2']; done) | (simp [l2, l2']; rfl) | fail) ?_; (try simp [l2, l2']))
  | (refine CallP.fE (h6) (by first | rfl | fail) (by first | (simp [l2, l2']; done) | (simp [l2, l2']; rfl) | fail) ?_; (try simp [l2, l2']))
  | fail)
    (refine EndOK.val (.inr rfl) ?_; simp [zaL, zag, zas, Tryz.results77])
    simp [c1, c2, c3]
   | some n =>
    rw [c3] at h6
    (refine Fun.of_body Tryz.func77 rfl (by simp) fun Γ hn => ?_); simp only [entry, List.zipIdx_cons, List.zipIdx_nil, List.map_cons, List.map_nil, Nat.zero_add, Tryz.ntmps77]
    repeat' (first
  | (refine zaf ?_; simp [l2, l2'])
  | (refine zal ?_; simp [l2, l2'])
  | (refine zah ?_; simp [l2, l2'])
  | (refine zai ?_; simp [l2, l2'])
  | (refine zar ?_; simp only [zao])
  | (refine zap ?_; simp only [zao])
  | (refine CallP.fE (h1) (by first | rfl | fail) (by first | (simp [l2, l2']; done) | (simp [l2, l2']; rfl) | fail) ?_; (try simp [l2, l2']))
  | (refine CallP.fE (h2) (by first | rfl | fail) (by first | (simp [l2, l2']; done) | (simp [l2, l2']; rfl) | fail) ?_; (try simp [l2, l2']))
  | (refine CallP.fE (h4) (by first | rfl | fail) (by first | (simp [l2, l2']; done) | (simp [l2, l2']; rfl) | fail) ?_; (try simp [l2, l2']))
  | (refine CallP.fE (h6) (by first | rfl | fail) (by first | (simp [l2, l2']; done) | (simp [l2, l2']; rfl) | fail) ?_; (try simp [l2, l2']))
  | fail)
    (refine EndOK.val (.inr rfl) ?_; simp [zaL, zag, zas, Tryz.results77])
    simp [c1, c2, c3]
  | false =>
   rw [c2] at h2
   (refine Fun.of_body Tryz.func77 rfl (by simp) fun Γ hn => ?_); simp only [entry, List.zipIdx_cons, List.zipIdx_nil, List.map_cons, List.map_nil, Nat.zero_add, Tryz.ntmps77]
   repeat' (first
  | (refine zaf ?_; simp [hsl, List.take_of_length_le])
  | (refine zal ?_; simp [hsl, List.take_of_length_le])
  | (refine zah ?_; simp [hsl, List.take_of_length_le])
  | (refine zai ?_; simp [hsl, List.take_of_length_le])
  | (refine zaA ?_; simp [hsl, List.take_of_length_le])
  | (refine zap ?_; simp only [zao])
  | (refine CallP.fE (h1) (by first | rfl | fail) (by first | (simp [hsl, List.take_of_length_le]; done) | (simp [hsl, List.take_of_length_le]; rfl) | fail) ?_; (try simp [hsl, List.take_of_length_le]))
  | (refine CallP.fE (h2) (by first | rfl | fail) (by first | (simp [hsl, List.take_of_length_le]; done) | (simp [hsl, List.take_of_length_le]; rfl) | fail) ?_; (try simp [hsl, List.take_of_length_le]))
  | fail)
   refine zcT (α := { i : Nat // i ≤ 11 ∧ ∀ x ∈ signsL.take i, x.isPrefixOf (c :: r) = false }) [0, 2, 3, 43] (fun i => [(44, .u (.int .i64 i.1))]) (fun i => 11 - i.1) ⟨0, by omega, by simp⟩ ?_ ?_
   ·exact (Wk.cut rfl (by simp [hn, St.lp]) (by simp [wkO, St.lp, zaa, getK, Ob.under, D.under, zad, zae]) (by simp [wkU, St.lp, zan, zaa, getK, D.under]) (by simp [wkE, St.lp, zan, zaa, getK] <;> (try (intros; simp_all; done)) <;> (try (intros; omega)) <;> (try grind)))
   rintro ⟨i, hi, hb⟩
   simp [St.lp, St.only, zan, zaa, getK]
   rcases hx : signsL[i]? with _ | x
   ·have hge : signsL.length ≤ i := by simpa using hx
    obtain rfl : i = 11 := by rw [hsl] at hge; omega
    have hnone : signsL.find? (fun x => x.isPrefixOf (c :: r)) = none := List.find?_eq_none.2 fun x hx => by
     rw [hb x (by rw [List.take_of_length_le (by rw [hsl]; omega)]; exact hx)]; simp
    repeat' (first
  | (refine zaf ?_; simp)
  | (refine zal ?_; simp)
  | (refine zah ?_; simp)
  | (refine zar ?_; simp only [zao])
  | (refine zbR ?_; simp [zao])
  | fail)
    (refine EndOK.val (.inr rfl) ?_; simp [zaL, zag, zas, Tryz.results77])
    simp [c1, c2, hnone]
   ·have hlt : i < 11 := by have := (List.getElem?_eq_some_iff.1 hx).1; rw [hsl] at this; exact this
    have hlt2 : (i : Int) < 11 := by omega
    have hp := zlZ (c :: r) x
    by_cases hpx : x.isPrefixOf (c :: r) = true
    ·have hfind : signsL.find? (fun x => x.isPrefixOf (c :: r)) = some x := by
      have e : signsL = signsL.take i ++ x :: signsL.drop (i + 1) := by
       obtain ⟨h5, h6⟩ := List.getElem?_eq_some_iff.1 hx
       rw [← h6, List.getElem_cons_drop, List.take_append_drop]
      rw [e, List.find?_append, List.find?_eq_none.2 (fun y hy => by rw [hb y hy]; simp), List.find?_cons, hpx]
      rfl
     rw [hpx] at hp
     repeat' (first
  | (refine zaf ?_; simp [hx, hsl, hlt2])
  | (refine zal ?_; simp [hx, hsl, hlt2])
  | (refine zah ?_; simp [hx, hsl, hlt2])
  | (refine zai ?_; simp [hx, hsl, hlt2])
  | (refine zar ?_; simp only [zao])
  | (refine zap ?_; simp only [zao])
  | (refine CallP.fE (hp) (by first | rfl | fail) (by first | (simp [hx, hsl, hlt2]; done) | (simp [hx, hsl, hlt2]; rfl) | fail) ?_; (try simp [hx, hsl, hlt2]))
  | fail)
     (refine EndOK.val (.inr rfl) ?_; simp [zaL, zag, zas, Tryz.results77])
     simp [c1, c2, hfind]
    ·rw [Bool.eq_false_iff.2 hpx] at hp
     repeat' (first
  | (refine zaf ?_; simp [hx, hsl, hlt2])
  | (refine zal ?_; simp [hx, hsl, hlt2])
  | (refine ⟨by omega, ?_⟩)
  | (refine zah ?_; simp [hx, hsl, hlt2])
  | (refine zai ?_; simp [hx, hsl, hlt2])
  | (refine zaC ?_; simp [hx, hsl, hlt2])
  | (refine zap ?_; simp only [zao])
  | (refine CallP.fE (hp) (by first | rfl | fail) (by first | (simp [hx, hsl, hlt2]; done) | (simp [hx, hsl, hlt2]; rfl) | fail) ?_; (try simp [hx, hsl, hlt2]))
  | fail)
     refine LoopW.next ⟨i + 1, by omega, fun y hy => ?_⟩ (by simp; omega) ?_
     ·rw [List.take_succ, hx] at hy
      rcases List.mem_append.1 hy with h | h
      ·exact hb y h
      ·simp at h; subst h; exact Bool.eq_false_iff.2 hpx
     ·exact (Wk.cut rfl (by simp [hn, St.lp]) (by simp [wkO, St.lp, zaa, getK, Ob.under, D.under, zad, zae]) (by simp [wkU, St.lp, zan, zaa, getK, D.under]) (by simp [wkE, St.lp, zan, zaa, getK] <;> (try (intros; simp_all; done)) <;> (try (intros; omega)) <;> (try grind)))
end Go.Proofs.YthnemhfamhnfjaaGreatDoor
namespace Go.Proofs.YthnemhfamhnfjaaGreatDoor
open Go Go.VL
/-- The tokens of a string from a place on. -/
def zle : Nat → List UInt8 → Nat → Except (Nat × Int) (List Tok)
 | 0, _, _ => .ok []
 | f + 1, s, p =>
  match (s.drop (p + zbM zbb (s.drop p))) with
  | [] => .ok [⟨0, [], 0, ((p + zbM zbb (s.drop p) : Nat) : Int)⟩]
  | c :: r => match zfV (c :: r) with
   | .error e => .error (p + zbM zbb (s.drop p), e)
   | .ok t => match zle f s (p + zbM zbb (s.drop p) + t.text.length) with
    | .error x => .error x
    | .ok l => .ok ({ t with pos := ((p + zbM zbb (s.drop p) : Nat) : Int) } :: l)
def ziZ (s : List UInt8) : Except (Nat × Int) (List Tok) := if 2000 < s.length then .error (0, 6) else zle (s.length + 1) s 0
def zhV : Except (Nat × Int) (List Tok) → D
 | .ok l => .tup [.u (.sl (l.map fun t => [.int .i64 t.kind, .str t.text, .int .i64 t.n, .int .i64 t.pos])), .u (.int .i64 0), .u (.int .i64 0)]
 | .error (p, e) => .tup [.u (.sl []), .u (.int .i64 p), .u (.int .i64 e)]
def zlY (acc : List Tok) : Except (Nat × Int) (List Tok) → Except (Nat × Int) (List Tok)
 | .ok l => .ok (acc ++ l)
 | .error x => .error x
theorem zm7 (x) : zlY [] x = x := by cases x <;> simp [zlY]
theorem zi7 {p : UInt8 → Bool} {c : UInt8} {r : List UInt8} (h : p c = true) : 0 < zbM p (c :: r) := by
 unfold zbM; rw [List.takeWhile_cons, if_pos h]; simp
theorem zfU {s : List UInt8} {t : Tok} (h : zfV s = .ok t) : 0 < t.text.length ∧ t.text.length ≤ s.length := by
 unfold zfV at h
 split at h
 ·cases h
 ·rename_i c r
  by_cases c1 : zbp c = true
  ·rw [if_pos c1] at h
   split at h
   ·cases h
    have h1 := zi7 (p := zco) (c := c) (r := r) (by simp [zco, c1])
    have h2 := zdN zco (c :: r)
    simp only [List.length_take]
    omega
   ·cases h
  ·rw [if_neg c1] at h
   by_cases c2 : zaT c = true
   ·rw [if_pos c2] at h
    split at h
    ·cases h
     have h1 := zi7 (p := zaT) (c := c) (r := r) c2
     have h2 := zdN zaT (c :: r)
     simp only [List.length_take]
     omega
    ·cases h
   ·rw [if_neg c2] at h
    split at h
    ·rename_i x hx
     cases h
     have h1 := List.find?_some hx
     have h2 := List.mem_of_find?_eq_some hx
     refine ⟨?_, (List.isPrefixOf_iff_prefix.1 h1).length_le⟩
     simp only [signsL, List.mem_cons, List.not_mem_nil, or_false] at h2
     rcases h2 with h | h | h | h | h | h | h | h | h | h | h <;> subst h <;> simp
    ·cases h
def zii (l : List Tok) : List (List D) := l.map fun t => [.u (.int .i64 t.kind), .u (.str t.text), .u (.int .i64 t.n), .u (.int .i64 t.pos)]
theorem zbn (l : List Tok) : (zii l).length = l.length := by simp [zii]
theorem zi4 (l : List Tok) : rowsD (l.map fun t => [U.int .i64 t.kind, .str t.text, .int .i64 t.n, .int .i64 t.pos]) = zii l := by simp [rowsD, zii, Function.comp_def]
theorem zk2 (l : List Tok) : zcG (zii l) = some (l.map fun t => [U.int .i64 t.kind, .str t.text, .int .i64 t.n, .int .i64 t.pos]) := by rw [← zi4]; simp
theorem zgU (l) : zaU (zii l) = True := by rw [← zi4]; simp
theorem zfO (n : Nat) (l) : (∀ x ∈ zii l, ∀ y ∈ x, D.under n y = true) ↔ True := by
 refine ⟨fun _ => trivial, fun _ x hx y hy => ?_⟩
 obtain ⟨b, _, rfl⟩ := List.mem_map.1 hx
 simp at hy
 rcases hy with rfl | rfl | rfl | rfl <;> simp [D.under]
attribute [local simp] zcR zb0 evPure opd uOf zaH St.put St.at getK binD binI binS binB nilD aggD zgp zhi lookD lookR zcm Go.VL.nextD zcq zhv zhu zfX zcs mkV zdb zbj zbr mapEff zd1 zfM Key.kk shiftI arith unD convD zdH loadD cellsAt fieldAddrD fieldD indexAddrD indexD sliceD cutD lenD minmaxD nilCheckD buildD fillD zbH zcW zes setAll zcE zeJ zch zgC zcd St.add zaM zbB rowsOf zdw zcA zak zac zaa zba zcz zaR entry zbo zbq valD zb5 zcu zgh zc8 zda zbO zbG zau za2 zbm delAll effD St.effS zcM za6 zaY zcN za7 za0 zbY zaZ zaS zbZ zcH zbv zbV zbi zbT zbU zaJ mkD zbI zbs zbF zau zcf D.ids Op.operands Call.operands zbx makeIfD makeFuncD typeAssertD zhh zds zdt zgK zcn IntKind.bits zcG List.take_of_length_le List.range_succ
attribute [local irreducible] V G H HD HD2 zao Eff CallP CallV EndOK Fun Ret FinOK LoopI LoopW EndW
theorem zny (s : List UInt8) : Fun Tryz.prog 32 [.u (.str s)] (· = zhV (ziZ s)) := by
 unfold ziZ
 by_cases hlong : 2000 < s.length
 ·have hlong2 : 2000 < (s.length : Int) := by omega
  rw [if_pos hlong]
  (refine Fun.of_bodyW Tryz.func32 rfl (by simp) fun Γ hn => ?_); simp only [entry, List.zipIdx_cons, List.zipIdx_nil, List.map_cons, List.map_nil, Nat.zero_add, Tryz.ntmps32]
  repeat' (first
  | (refine zaf ?_; simp [hlong, hlong2])
  | (refine zal ?_; simp [hlong, hlong2])
  | (refine zah ?_; simp [hlong, hlong2])
  | (refine zai ?_; simp [hlong, hlong2])
  | (refine zar ?_; simp only [zao])
  | fail)
  refine EndW.norm (EndW.here ?_)
  (refine EndOK.val (.inr rfl) ?_; simp [zaL, zag, zas, Tryz.results32, zax, zay, ziv, ziw, frz, za9, frzS, fv, zaz, za5, za8, zaF, zat, zaj, zb8, zcx, zcy, zbl])
  simp [zhV]
 rw [if_neg hlong]
 have hlong2 : ¬ 2000 < (s.length : Int) := by omega
 obtain ⟨R, hR⟩ : ∃ R, R = zle (s.length + 1) s 0 := ⟨_, rfl⟩
 rw [← hR]
 (refine Fun.of_bodyW Tryz.func32 rfl (by simp) fun Γ hn => ?_); simp only [entry, List.zipIdx_cons, List.zipIdx_nil, List.map_cons, List.map_nil, Nat.zero_add, Tryz.ntmps32]
 repeat' (first
  | (refine zaf ?_; simp [hlong, hlong2])
  | (refine zal ?_; simp [hlong, hlong2])
  | (refine zah ?_; simp [hlong, hlong2])
  | (refine zai ?_; simp [hlong, hlong2])
  | (refine zaA ?_; simp [hlong, hlong2])
  | (refine zap ?_; simp only [zao])
  | fail)
 refine zhw _ (Wk.own 5 52 4 (by decide) rfl) ?_
 simp [St.own]
 refine zdY (α := { x : List Tok × Nat × Nat // x.2.1 ≤ s.length ∧ s.length < x.2.1 + x.2.2 ∧ x.1.length ≤ x.2.1 ∧ R = zlY x.1 (zle x.2.2 s x.2.1) }) [0] (fun x => [(5, .vec 0 x.1.1.length), (6, .u (.int .i64 x.1.2.1))]) (fun x => [(0, .vec 52 4 (zii x.1.1))]) 1 (fun x => x.1.2.2) ⟨([], 0, s.length + 1), by simp, by simp, by simp, by rw [zm7, hR]⟩ ?_ ?_
 ·exact (Wk.cut rfl (by simp [hn, St.lp]) (by simp [wkO, St.lp, zaa, getK, Ob.under, D.under, zad, zae, zii]) (by simp [wkU, St.lp, zan, zaa, getK, D.under, zii]) (by simp [wkE, St.lp, zan, zaa, getK, zii] <;> (try (intros; simp_all; done)) <;> (try (intros; omega)) <;> (try grind)))
 rintro ⟨⟨acc, p, f⟩, h1, h2, h3, h4⟩
 simp only at h1 h2 h3 h4
 simp [St.lp, St.only, zan, zaa, getK]
 obtain ⟨f', rfl⟩ : ∃ f', f = f' + 1 := ⟨f - 1, by omega⟩
 rw [zle] at h4
 have hsp := zfe (s.drop p) (by rw [List.length_drop]; omega) 76 zbb (fun c _ => zoc c) (by simp)
 have hle := zdN zbb (s.drop p)
 rw [List.length_drop] at hle
 obtain ⟨b, hb⟩ : ∃ b, b = zbM zbb (s.drop p) := ⟨_, rfl⟩
 rw [← hb] at hsp hle h4
 have hp1 : (p : Int) ≤ s.length := by omega
 have hpb : (p : Int) + b ≤ s.length := by omega
 rcases hd : s.drop (p + b) with _ | ⟨c, r⟩
 ·have hdl : (s.drop (p + b)).length = 0 := by rw [hd]; rfl
  rw [List.length_drop] at hdl
  have hpe : p + b = s.length := by omega
  have hpe2 : (p : Int) + b = s.length := by omega
  rw [hd] at h4
  simp only at h4
  have hap : zii acc ++ [[D.u (.int .i64 0), D.u (.str []), D.u (.int .i64 0), D.u (.int .i64 (s.length : Int))]] = zii (acc ++ [⟨0, [], 0, s.length⟩]) := by simp [zii]
  have hlr : zkO 4 (zii acc) := fun r hr => by obtain ⟨t, _, rfl⟩ := List.mem_map.1 hr; rfl
  rw [hpe] at h4
  repeat' (first
  | (refine zaf ?_; simp [h1, hp1, hpe2, zbn, hap, hlr])
  | (refine zal ?_; simp [h1, hp1, hpe2, zbn, hap, hlr])
  | (refine ⟨by omega, ?_⟩)
  | (refine zah ?_; simp [h1, hp1, hpe2, zbn, hap, hlr])
  | (refine zai ?_; simp [h1, hp1, hpe2, zbn, hap, hlr])
  | (refine zaA ?_; simp [h1, hp1, hpe2, zbn, hap, hlr])
  | (refine zar ?_; simp only [zao])
  | (refine CallP.fE (hsp) (by first | rfl | fail) (by first | (simp [h1, hp1, hpe2, zbn, hap, hlr]; done) | (simp [h1, hp1, hpe2, zbn, hap, hlr]; rfl) | fail) ?_; (try simp [h1, hp1, hpe2, zbn, hap, hlr]))
  | fail)
  (refine EndW.frzN 3 ?_; simp [frzN, frz1, zay, zax, St.frz, St.frzS, frzS, fv, zaz, za5, za8, zaF, zat, zaj, del, frz, za9, zk2, zbn, List.length_append])
  refine EndW.norm (EndW.here ?_)
  (refine EndOK.val (.inr rfl) ?_; simp [zaL, zag, zas, Tryz.results32, zax, zay, ziv, ziw, frz, za9, frzS, fv, zaz, za5, za8, zaF, zat, zaj, zb8, zcx, zcy, zbl, zk2, zbn, List.length_append])
  rw [h4]
  simp [zlY, zhV]
 ·have hdl : (s.drop (p + b)).length = r.length + 1 := by rw [hd]; rfl
  rw [List.length_drop] at hdl
  have hpe : ¬ p + b = s.length := by omega
  have hpe2 : ¬ (p : Int) + b = s.length := by omega
  have hnx := zoR (s.drop (p + b)) (by rw [hd]; simp) (by rw [List.length_drop]; omega)
  unfold nextD at hnx
  rw [hd] at h4
  simp only at h4
  rw [hd] at hnx
  have hpb2 : ((p : Int) + b).toNat = p + b := by omega
  have hpb3 : p + b ≤ s.length := by omega
  cases hno : zfV (c :: r) with
  | error e =>
   rw [hno] at h4 hnx
   have he : e ≠ 0 := by
    unfold zfV at hno
    simp only at hno
    split at hno
    ·split at hno <;> cases hno
     omega
    ·split at hno
     ·split at hno <;> cases hno
      omega
     ·split at hno <;> cases hno
      omega
   repeat' (first
  | (refine zaf ?_; simp [h1, hp1, hpe, hpe2, hd, he, hpb, hpb2, hpb3])
  | (refine zal ?_; simp [h1, hp1, hpe, hpe2, hd, he, hpb, hpb2, hpb3])
  | (refine ⟨by omega, ?_⟩)
  | (refine zah ?_; simp [h1, hp1, hpe, hpe2, hd, he, hpb, hpb2, hpb3])
  | (refine zai ?_; simp [h1, hp1, hpe, hpe2, hd, he, hpb, hpb2, hpb3])
  | (refine zaA ?_; simp [h1, hp1, hpe, hpe2, hd, he, hpb, hpb2, hpb3])
  | (refine zar ?_; simp only [zao])
  | (refine zap ?_; simp only [zao])
  | (refine CallP.fE (hsp) (by first | rfl | fail) (by first | (simp [h1, hp1, hpe, hpe2, hd, he, hpb, hpb2, hpb3]; done) | (simp [h1, hp1, hpe, hpe2, hd, he, hpb, hpb2, hpb3]; rfl) | fail) ?_; (try simp [h1, hp1, hpe, hpe2, hd, he, hpb, hpb2, hpb3]))
  | (refine CallP.fE (hnx) (by first | rfl | fail) (by first | (simp [h1, hp1, hpe, hpe2, hd, he, hpb, hpb2, hpb3]; done) | (simp [h1, hp1, hpe, hpe2, hd, he, hpb, hpb2, hpb3]; rfl) | fail) ?_; (try simp [h1, hp1, hpe, hpe2, hd, he, hpb, hpb2, hpb3]))
  | fail)
   refine EndW.norm (EndW.here ?_)
   (refine EndOK.val (.inr rfl) ?_; simp [zaL, zag, zas, Tryz.results32, zax, zay, ziv, ziw, frz, za9, frzS, fv, zaz, za5, za8, zaF, zat, zaj, zb8, zcx, zcy, zbl])
   rw [h4]
   simp [zlY, zhV]
  | ok t =>
   rw [hno] at h4 hnx
   obtain ⟨ht1, ht2⟩ := zfU hno
   simp only [List.length_cons] at ht2
   have hap : zii acc ++ [[D.u (.int .i64 t.kind), D.u (.str t.text), D.u (.int .i64 t.n), D.u (.int .i64 ((p : Int) + b))]] = zii (acc ++ [{ t with pos := ((p + b : Nat) : Int) }]) := by simp [zii]
   have hlr : zkO 4 (zii acc) := fun r hr => by obtain ⟨t, _, rfl⟩ := List.mem_map.1 hr; rfl
   repeat' (first
  | (refine zaf ?_; simp [h1, hp1, hpe, hpe2, hd, hpb, hpb2, hpb3, zbn, hap, hlr])
  | (refine zal ?_; simp [h1, hp1, hpe, hpe2, hd, hpb, hpb2, hpb3, zbn, hap, hlr])
  | (refine ⟨by omega, ?_⟩)
  | (refine zah ?_; simp [h1, hp1, hpe, hpe2, hd, hpb, hpb2, hpb3, zbn, hap, hlr])
  | (refine zai ?_; simp [h1, hp1, hpe, hpe2, hd, hpb, hpb2, hpb3, zbn, hap, hlr])
  | (refine zaA ?_; simp [h1, hp1, hpe, hpe2, hd, hpb, hpb2, hpb3, zbn, hap, hlr])
  | (refine zaC ?_; simp [h1, hp1, hpe, hpe2, hd, hpb, hpb2, hpb3, zbn, hap, hlr])
  | (refine zap ?_; simp only [zao])
  | (refine CallP.fE (hsp) (by first | rfl | fail) (by first | (simp [h1, hp1, hpe, hpe2, hd, hpb, hpb2, hpb3, zbn, hap, hlr]; done) | (simp [h1, hp1, hpe, hpe2, hd, hpb, hpb2, hpb3, zbn, hap, hlr]; rfl) | fail) ?_; (try simp [h1, hp1, hpe, hpe2, hd, hpb, hpb2, hpb3, zbn, hap, hlr]))
  | (refine CallP.fE (hnx) (by first | rfl | fail) (by first | (simp [h1, hp1, hpe, hpe2, hd, hpb, hpb2, hpb3, zbn, hap, hlr]; done) | (simp [h1, hp1, hpe, hpe2, hd, hpb, hpb2, hpb3, zbn, hap, hlr]; rfl) | fail) ?_; (try simp [h1, hp1, hpe, hpe2, hd, hpb, hpb2, hpb3, zbn, hap, hlr]))
  | fail)
   refine LoopW.next ⟨(acc ++ [{ t with pos := ((p + b : Nat) : Int) }], p + b + t.text.length, f'), by simp; omega, by simp; omega, by simp; omega, ?_⟩ (by simp) ?_
   ·rw [h4]
    simp only
    cases zle f' s (p + b + t.text.length) <;> simp [zlY]
   ·skip
    exact (Wk.ren ((fun i => if i = 0 then 3 else i)) rfl (by first | (simp [hn]; done) | (intro i hi; rw [hn] at hi; constructor <;> (try simp) <;> (try (intro _)) <;> omega)) (by simp [zgj, St.lp, zan, zaa, getK, zac, zak, D.under, D.le, D.ren, zgU, zfO] <;> (try (intros; simp_all; done)) <;> (try omega)) (by simp [wkR, St.lp, zaa, getK, zac, zak, obR, leU, zbk, zaU, Ob.under, D.under, D.le, D.ren, zgU, zfO] <;> (try (intros; simp_all; done)) <;> (try omega)) (by simp [zgU, zfO]))
def zbD (s : List UInt8) : Bool := zeW s && !words.contains s
set_option maxRecDepth 100000 in
theorem zeN (s : List UInt8) : Fun Tryz.prog 16 [.u (.str s)] (· = .u (.bool (zbD s))) := by
 have h1 := ziO words s
 have h2 := zk0 s
 have h3 := zjf
 generalize hw : words.contains s = w at h1
 simp only [zp9] at h1 h3
 generalize (words.map fun s => [U.str s]) = W at h1 h3
 unfold zbD
 rw [hw]
 clear hw
 generalize zeW s = b at h2 ⊢
 cases b
 all_goals
  (refine Fun.of_body Tryz.func16 rfl (by simp) fun Γ hn => ?_); simp only [entry, List.zipIdx_cons, List.zipIdx_nil, List.map_cons, List.map_nil, Nat.zero_add, Tryz.ntmps16]
  repeat' (first
  | (refine zaf ?_; simp)
  | (refine zal ?_; simp)
  | (refine zah ?_; simp)
  | (refine zar ?_; simp only [zao])
  | (refine CallP.fE (h1) (by first | rfl | fail) (by first | (simp; done) | (simp; rfl) | fail) ?_; (try simp))
  | (refine CallP.fE (h2) (by first | rfl | fail) (by first | (simp; done) | (simp; rfl) | fail) ?_; (try simp))
  | (refine CallP.fE (h3) (by first | rfl | fail) (by first | (simp; done) | (simp; rfl) | fail) ?_; (try simp))
  | fail)
  (refine EndOK.val (.inr rfl) ?_; simp [zaL, zag, zas, Tryz.results16])
def zdl (op : Int) : Int := if op = 0 ∨ op = 1 then 0 else if op = 12 then 1 else if op = 13 then 3 else if op < 0 ∨ 14 ≤ op then -1 else 2
theorem zjA (op : Int) : Fun Tryz.prog 121 [.u (.int .i64 op)] (· = .u (.int .i64 (zdl op))) := by
 unfold zdl
 (refine Fun.of_body Tryz.func121 rfl (by simp) fun Γ hn => ?_); simp only [entry, List.zipIdx_cons, List.zipIdx_nil, List.map_cons, List.map_nil, Nat.zero_add, Tryz.ntmps121]
 repeat' (first
  | (refine zaf ?_; simp)
  | (refine zal ?_; simp)
  | (refine zah ?_; simp)
  | (refine zai ?_; simp)
  | (refine zaA ?_; simp)
  | (refine zaC ?_; simp)
  | (refine zar ?_; simp only [zao])
  | (refine zap ?_; simp only [zao])
  | (refine ⟨?_, by omega⟩)
  | (refine ⟨fun hc => ?_, fun hc => ?_⟩ <;> (try (exfalso; omega)))
  | (intro hc <;> (try (exfalso; omega)))
  | fail)
 all_goals
  (refine EndOK.val (.inr rfl) ?_; simp [zaL, zag, zas, Tryz.results121])
 all_goals (repeat' split) <;> first | rfl | omega | simp_all
theorem zqk : Exp.row = fun e => [.int .i64 e.op, .int .i64 e.n, .int .i64 e.unit, .str e.s, .sl (e.args.map Exp.row)] := funext fun e => e.row_eq
def zhF (e : Exp) : D := .u (.agg [.int .i64 e.op, .int .i64 e.n, .int .i64 e.unit, .str e.s, .sl (e.args.map Exp.row)])
def zqO (l : List Exp) : U := .sl (l.map fun e => [.int .i64 e.op, .int .i64 e.n, .int .i64 e.unit, .str e.s, .sl (e.args.map Exp.row)])
theorem zqj (l : List Exp) : zqO l = .sl (l.map Exp.row) := by rw [zqO, ← zqk]
theorem zmu (l : List (Exp)) (f : FuncId) (caps : List U) (p : Exp → Bool) (hf : ∀ n ∈ l, Fun Tryz.prog f (zhF n :: caps.map .u) (· = .u (.bool (p n)))) (hcl : zam Tryz.prog f = true)
  (hca : ∀ o, zcu o (caps.map .u) = some (caps.map .u, [])) : Fun Tryz.prog 141 [.u (zqO l), .fnc (.func f) (caps.map .u)] (· = .u (.int .i64 (zhB p l 0))) := by
 (refine Fun.of_body Tryz.func141 rfl (by simp) fun Γ hn => ?_); simp only [entry, List.zipIdx_cons, List.zipIdx_nil, List.map_cons, List.map_nil, Nat.zero_add, Tryz.ntmps141]
 simp only [zqO]
 refine ziV (x := 0) rfl fun hl => ?_
 simp at hl
 repeat' (first
  | (refine zaf ?_; simp)
  | (refine zal ?_; simp)
  | (refine zah ?_; simp)
  | (refine zaA ?_; simp)
  | fail)
 refine zcT (α := { i : Nat // i ≤ l.length ∧ ∀ c ∈ l.take i, p c = false }) [0, 1, 7] (fun i => [(8, .u (.int .i64 i.1))]) (fun i => l.length - i.1) ⟨0, by omega, by simp⟩ ?_ ?_
 ·exact (Wk.env rfl rfl rfl (by simp [wkE, St.lp, zan, zaa, getK] <;> (try (intros; simp_all; done)) <;> (try (intros; omega)) <;> (try grind)))
 rintro ⟨i, hi, hb⟩
 simp [St.lp, St.only, zan, zaa, getK]
 rcases hx : l[i]? with _ | n
 ·have hge : l.length ≤ i := by simpa using hx
  repeat' (first
  | (refine zaf ?_; simp [hx])
  | (refine zal ?_; simp [hx])
  | (refine ⟨by omega, ?_⟩)
  | (refine zah ?_; simp [hx])
  | (refine zar ?_; simp only [zao])
  | (refine zbR ?_; simp [zao])
  | (intro hc <;> (try (exfalso; omega)))
  | fail)
  (refine EndOK.val (.inr rfl) ?_; simp [zaL, zag, zas, Tryz.results141])
  rw [List.take_of_length_le hge] at hb
  exact (zfs hb).symm
 ·have hlt : i < l.length := (List.getElem?_eq_some_iff.1 hx).1
  have h1 := hf n (List.mem_of_getElem? hx)
  simp only [zhF] at h1
  cases hp : p n
  ·rw [hp] at h1
   repeat' (first
  | (refine zaf ?_; simp [hx, hca])
  | (refine zal ?_; simp [hx, hca])
  | (refine ⟨by omega, ?_⟩)
  | (refine zah ?_; simp [hx, hca])
  | (refine zai ?_; simp [hx, hca])
  | (refine zaC ?_; simp [hx, hca])
  | (refine zap ?_; simp only [zao])
  | (refine ⟨?_, by omega⟩)
  | (intro hc <;> (try (exfalso; omega)))
  | (refine CallP.fE (h1) (by first | rfl | fail) (by first | (simp [hx, hca]; done) | (simp [hx, hca]; rfl) | fail) ?_; (try simp [hcl, hx, hca]))
  | fail)
   refine LoopW.next ⟨i + 1, by omega, zby hx hb hp⟩ (by simp; omega) ?_
   exact (Wk.env rfl rfl rfl (by simp [wkE, St.lp, zan, zaa, getK] <;> (try (intros; simp_all; done)) <;> (try (intros; omega)) <;> (try grind)))
  ·rw [hp] at h1
   repeat' (first
  | (refine zaf ?_; simp [hx, hca])
  | (refine zal ?_; simp [hx, hca])
  | (refine zah ?_; simp [hx, hca])
  | (refine zai ?_; simp [hx, hca])
  | (refine zar ?_; simp only [zao])
  | (refine zap ?_; simp only [zao])
  | (refine ⟨?_, by omega⟩)
  | (intro hc <;> (try (exfalso; omega)))
  | (refine CallP.fE (h1) (by first | rfl | fail) (by first | (simp [hx, hca]; done) | (simp [hx, hca]; rfl) | fail) ?_; (try simp [hcl, hx, hca]))
  | fail)
   (refine EndOK.val (.inr rfl) ?_; simp [zaL, zag, zas, Tryz.results141])
   rw [ziE hb hx hp]
   omega
theorem ziQ (l : List (Exp)) (f : FuncId) (caps : List U) (p : Exp → Bool) (hf : ∀ n ∈ l, Fun Tryz.prog f (zhF n :: caps.map .u) (· = .u (.bool (p n)))) (hcl : zam Tryz.prog f = true)
  (hca : ∀ o, zcu o (caps.map .u) = some (caps.map .u, [])) (hcb : ∀ o, zbG o (caps.map .u) = some (caps, [])) : Fun Tryz.prog 122 [.u (zqO l), .fnc (.func f) (caps.map .u)] (· = .u (.bool (l.any p))) := by
 have h1 := zmu l f caps p hf hcl hca
 (refine Fun.of_body Tryz.func122 rfl (by simp) fun Γ hn => ?_); simp only [entry, List.zipIdx_cons, List.zipIdx_nil, List.map_cons, List.map_nil, Nat.zero_add, Tryz.ntmps122]
 simp only [zqO] at h1 ⊢
 repeat' (first
  | (refine zaf ?_; simp [hcb])
  | (refine zal ?_; simp [hcb])
  | (refine zah ?_; simp [hcb])
  | (refine zar ?_; simp only [zao])
  | (refine CallP.fE (h1) (by first | rfl | fail) (by first | (simp [hcb]; done) | (simp [hcb]; rfl) | fail) ?_; (try simp [hcl, hcb]))
  | fail)
 (refine EndOK.val (.inr rfl) ?_; simp [zaL, zag, zas, Tryz.results122])
 have h2 := ziF p l 0 (by omega)
 rw [Bool.eq_iff_iff]
 simpa using h2
def zoP (e : Exp) : Bool := decide (e.s = []) && decide (0 ≤ e.unit) && decide (e.unit < 5) && decide (0 ≤ e.n) && decide (e.n ≤ if e.unit = 0 then 1 else 1099511627776)
def zaE : Nat → Exp → Bool
 | 0, _ => false
 | d + 1, e => decide ((e.args.length : Int) = zdl e.op) && (if e.op = 0 then zoP e else if e.n ≠ 0 ∨ e.unit ≠ 0 then false else if e.op = 1 then zbD e.s else decide (e.s = []) && !e.args.any (fun x => !zaE d x))
set_option maxRecDepth 100000 in
set_option maxHeartbeats 4000000 in
theorem zjd : ∀ (d : Nat) (e : Exp), (d : Int) ≤ 100 → Fun Tryz.prog 69 [zhF e, .u (.int .i64 d)] (· = .u (.bool (zaE d e)))
 | 0, e, _ => by
  (refine Fun.of_body Tryz.func69 rfl (by simp) fun Γ hn => ?_); simp only [entry, List.zipIdx_cons, List.zipIdx_nil, List.map_cons, List.map_nil, Nat.zero_add, Tryz.ntmps69]
  simp only [zhF]
  repeat' (first
  | (refine zaf ?_; simp)
  | (refine zeo ?_; simp)
  | (refine zal ?_; simp)
  | (refine zah ?_; simp)
  | (refine zai ?_; simp)
  | (refine zfJ ?_)
  | (refine hk _ ?_; clear hk k; simp only [zao])
  | (refine zek rfl (by kernel_rfl) (by kernel_rfl) fun k hk => ?_; simp)
  | (refine zen rfl (by simp) (fun hc => ?_) (fun hc => ?_) <;> (try simp at hc) <;> (try (exfalso; omega)) <;> (try simp))
  | (refine zar ?_; simp only [zao])
  | fail)
  (refine EndOK.val (.inr rfl) ?_; simp [zaL, zag, zas, Tryz.results69])
  rfl
 | d + 1, e, hd => by
  have hr : ∀ x : Exp, Fun Tryz.prog 123 (zhF x :: [U.row [.int .i64 ((d + 1 : Nat) : Int)] 0].map .u) (· = .u (.bool (!zaE d x))) := fun x => by
   have h1 := zjd d x (by omega)
   (refine Fun.of_body Tryz.func123 rfl (by simp) fun Γ hn => ?_); simp only [entry, List.zipIdx_cons, List.zipIdx_nil, List.map_cons, List.map_nil, Nat.zero_add, Tryz.ntmps123]
   simp only [zhF] at h1 ⊢
   repeat' (first
  | (refine zaf ?_; simp)
  | (refine zal ?_; simp)
  | (refine ⟨by omega, ?_⟩)
  | (refine zah ?_; simp)
  | (refine zar ?_; simp only [zao])
  | (refine CallP.fE (h1) (by first | rfl | fail) (by first | (simp; done) | (simp; rfl) | fail) ?_; (try simp))
  | fail)
   (refine EndOK.val (.inr rfl) ?_; simp [zaL, zag, zas, Tryz.results123])
  have hcon := ziQ e.args 123 [U.row [.int .i64 ((d + 1 : Nat) : Int)] 0] (fun x => !zaE d x) (fun x _ => hr x) (by simp) (fun _ => rfl) (fun _ => rfl)
  have hnam := zeN e.s
  have hopr := zjA e.op
  simp only [List.map_cons, List.map_nil] at hcon
  rw [zaE]
  unfold zoP
  generalize (e.args.any fun x => !zaE d x) = z at hcon ⊢
  generalize zbD e.s = nm at hnam ⊢
  generalize hop : zdl e.op = oi at hopr ⊢
  (refine Fun.of_body Tryz.func69 rfl (by simp) fun Γ hn => ?_); simp only [entry, List.zipIdx_cons, List.zipIdx_nil, List.map_cons, List.map_nil, Nat.zero_add, Tryz.ntmps69]
  rw [zqj] at hcon
  simp only [zhF]
  by_cases hlen : (e.args.length : Int) = oi
  case neg =>
   repeat' (first
  | (refine zaf ?_; simp [hlen])
  | (refine zeo ?_; simp [hlen])
  | (refine zal ?_; simp [hlen])
  | (refine zah ?_; simp [hlen])
  | (refine zai ?_; simp [hlen])
  | (refine zfJ ?_)
  | (refine hk _ ?_; clear hk k; simp only [zao])
  | (refine zek rfl (by kernel_rfl) (by kernel_rfl) fun k hk => ?_; simp [hlen])
  | (refine zen rfl (by simp [hlen]) (fun hc => ?_) (fun hc => ?_) <;> (try simp [hlen] at hc) <;> (try (exfalso; omega)) <;> (try simp [hlen]))
  | (refine zar ?_; simp only [zao])
  | (refine CallV.fun_ (hopr) (by first | rfl | fail) (by first | (simp [hlen]; done) | (simp [hlen]; rfl) | fail) ?_ <;> (try simp [hlen]))
  | fail)
   (refine EndOK.val (.inr rfl) ?_; simp [zaL, zag, zas, Tryz.results69])
   try (simp_all; done)
  by_cases h0 : e.op = 0
  case pos =>
   by_cases hu : e.unit = 0
   all_goals
    repeat' (first
  | (refine zaf ?_; simp [hlen, h0, hu])
  | (refine zeo ?_; simp [hlen, h0, hu])
  | (refine zal ?_; simp [hlen, h0, hu])
  | (refine zah ?_; simp [hlen, h0, hu])
  | (refine zai ?_; simp [hlen, h0, hu])
  | (refine zfJ ?_)
  | (refine hk _ ?_; clear hk k; simp only [zao])
  | (refine zek rfl (by kernel_rfl) (by kernel_rfl) fun k hk => ?_; simp [hlen, h0, hu])
  | (refine zen rfl (by simp [hlen, h0, hu]) (fun hc => ?_) (fun hc => ?_) <;> (try simp [hlen, h0, hu] at hc) <;> (try (exfalso; omega)) <;> (try simp [hlen, h0, hu]))
  | (refine zaC ?_; simp [hlen, h0, hu])
  | (refine zar ?_; simp only [zao])
  | (refine zap ?_; simp only [zao])
  | (refine ⟨fun hc => ?_, fun hc => ?_⟩ <;> (try (exfalso; omega)))
  | (refine CallV.fun_ (hopr) (by first | rfl | fail) (by first | (simp [hlen, h0, hu]; done) | (simp [hlen, h0, hu]; rfl) | fail) ?_ <;> (try simp [hlen, h0, hu]))
  | fail)
    all_goals
     (refine EndOK.val (.inr rfl) ?_; simp [zaL, zag, zas, Tryz.results69])
   all_goals clear hr hopr hcon hnam
   all_goals grind
  by_cases hnu : e.n ≠ 0 ∨ e.unit ≠ 0
  case pos =>
   repeat' (first
  | (refine zaf ?_; simp [hlen, h0])
  | (refine zeo ?_; simp [hlen, h0])
  | (refine zal ?_; simp [hlen, h0])
  | (refine zah ?_; simp [hlen, h0])
  | (refine zai ?_; simp [hlen, h0])
  | (refine zfJ ?_)
  | (refine hk _ ?_; clear hk k; simp only [zao])
  | (refine zek rfl (by kernel_rfl) (by kernel_rfl) fun k hk => ?_; simp [hlen, h0])
  | (refine zen rfl (by simp [hlen, h0]) (fun hc => ?_) (fun hc => ?_) <;> (try simp [hlen, h0] at hc) <;> (try (exfalso; omega)) <;> (try simp [hlen, h0]))
  | (refine zar ?_; simp only [zao])
  | (refine zap ?_; simp only [zao])
  | (refine ⟨?_, by omega⟩)
  | (refine ⟨fun hc => ?_, fun hc => ?_⟩ <;> (try (exfalso; omega)))
  | (intro hc <;> (try (exfalso; omega)))
  | (refine CallV.fun_ (hopr) (by first | rfl | fail) (by first | (simp [hlen, h0]; done) | (simp [hlen, h0]; rfl) | fail) ?_ <;> (try simp [hlen, h0]))
  | fail)
   all_goals
    (refine EndOK.val (.inr rfl) ?_; simp [zaL, zag, zas, Tryz.results69])
   all_goals clear hr hopr hcon hnam
   all_goals grind
  by_cases h1 : e.op = 1
  case pos =>
   repeat' (first
  | (refine zaf ?_; simp [hlen, h0, h1])
  | (refine zeo ?_; simp [hlen, h0, h1])
  | (refine zal ?_; simp [hlen, h0, h1])
  | (refine ⟨by omega, ?_⟩)
  | (refine zah ?_; simp [hlen, h0, h1])
  | (refine zai ?_; simp [hlen, h0, h1])
  | (refine zfJ ?_)
  | (refine hk _ ?_; clear hk k; simp only [zao])
  | (refine zek rfl (by kernel_rfl) (by kernel_rfl) fun k hk => ?_; simp [hlen, h0, h1])
  | (refine zen rfl (by simp [hlen, h0, h1]) (fun hc => ?_) (fun hc => ?_) <;> (try simp [hlen, h0, h1] at hc) <;> (try (exfalso; omega)) <;> (try simp [hlen, h0, h1]))
  | (refine zar ?_; simp only [zao])
  | (refine zap ?_; simp only [zao])
  | (refine ⟨?_, by omega⟩)
  | (intro hc <;> (try (exfalso; omega)))
  | (refine CallV.fun_ (hopr) (by first | rfl | fail) (by first | (simp [hlen, h0, h1]; done) | (simp [hlen, h0, h1]; rfl) | fail) ?_ <;> (try simp [hlen, h0, h1]))
  | (refine CallP.fE (hnam) (by first | rfl | fail) (by first | (simp [hlen, h0, h1]; done) | (simp [hlen, h0, h1]; rfl) | fail) ?_; (try simp [hlen, h0, h1]))
  | fail)
   all_goals
    (refine EndOK.val (.inr rfl) ?_; simp [zaL, zag, zas, Tryz.results69])
   all_goals clear hr hopr hcon hnam
   all_goals grind
  by_cases hs : e.s = []
  all_goals
   repeat' (first
  | (refine zaf ?_; simp [hlen, h0, h1, hs])
  | (refine zeo ?_; simp [hlen, h0, h1, hs])
  | (refine zal ?_; simp [hlen, h0, h1, hs])
  | (refine ⟨by omega, ?_⟩)
  | (refine zah ?_; simp [hlen, h0, h1, hs])
  | (refine zai ?_; simp [hlen, h0, h1, hs])
  | (refine zfJ ?_)
  | (refine hk _ ?_; clear hk k; simp only [zao])
  | (refine zek rfl (by kernel_rfl) (by kernel_rfl) fun k hk => ?_; simp [hlen, h0, h1, hs])
  | (refine zen rfl (by simp [hlen, h0, h1, hs]) (fun hc => ?_) (fun hc => ?_) <;> (try simp [hlen, h0, h1, hs] at hc) <;> (try (exfalso; omega)) <;> (try simp [hlen, h0, h1, hs]))
  | (refine zar ?_; simp only [zao])
  | (refine zap ?_; simp only [zao])
  | (refine ⟨?_, by omega⟩)
  | (intro hc <;> (try (exfalso; omega)))
  | (refine CallV.fun_ (hopr) (by first | rfl | fail) (by first | (simp [hlen, h0, h1, hs]; done) | (simp [hlen, h0, h1, hs]; rfl) | fail) ?_ <;> (try simp [hlen, h0, h1, hs]))
  | (refine CallP.fE (hcon) (by first | rfl | fail) (by first | (simp [hlen, h0, h1, hs]; done) | (simp [hlen, h0, h1, hs]; rfl) | fail) ?_; (try simp [hlen, h0, h1, hs]))
  | fail)
   all_goals
    (refine EndOK.val (.inr rfl) ?_; simp [zaL, zag, zas, Tryz.results69])
  all_goals clear hr hopr hcon hnam
  all_goals grind
theorem zdO (e : Exp) : Fun Tryz.prog 25 [zhF e] (· = .u (.bool (zaE 12 e))) := by
 have h1 := zjd 12 e (by omega)
 (refine Fun.of_body Tryz.func25 rfl (by simp) fun Γ hn => ?_); simp only [entry, List.zipIdx_cons, List.zipIdx_nil, List.map_cons, List.map_nil, Nat.zero_add, Tryz.ntmps25]
 simp only [zhF] at h1 ⊢
 repeat' (first
  | (refine zaf ?_; simp)
  | (refine zal ?_; simp)
  | (refine zah ?_; simp)
  | (refine zar ?_; simp only [zao])
  | (refine CallP.fE (h1) (by first | rfl | fail) (by first | (simp; done) | (simp; rfl) | fail) ?_; (try simp))
  | fail)
 (refine EndOK.val (.inr rfl) ?_; simp [zaL, zag, zas, Tryz.results25])
end Go.Proofs.YthnemhfamhnfjaaGreatDoor
namespace Go.Proofs.YthnemhfamhnfjaaGreatDoor
open Go Go.VL
abbrev zmY (l : List Tok) : U := .sl (l.map fun t => [.int .i64 t.kind, .str t.text, .int .i64 t.n, .int .i64 t.pos])
abbrev pOb (l : List Tok) (p : Nat) : Ob := .box [.u (zmY l), .u (.int .i64 p)]
abbrev zpO (l : List Tok) (p : Nat) : U := .row [zmY l, .int .i64 p] 0
/-- Tokens as Lex makes them: the end comes last, and nowhere else. -/
structure TokOK (l : List Tok) : Prop where
 fin : ∀ (i : Nat) (t : Tok), l[i]? = some t → t.kind ≠ 0 → i + 1 < l.length
 len : l.length ≤ 1000000
def isB (l : List Tok) (p : Nat) (w : List UInt8) : Bool := match l[p]? with | some t => decide (t.kind ≠ 0) && decide (t.text = w) | none => false
theorem zbf {l : List Tok} {p : Nat} {w : List UInt8} (hl : TokOK l) (h : isB l p w = true) : p + 1 < l.length := by
 unfold isB at h
 split at h
 ·rename_i t ht
  simp only [Bool.and_eq_true, decide_eq_true_eq] at h
  exact hl.fin p t ht h.1
 ·cases h
attribute [local simp] HS zcR zb0 evPure opd uOf zaH St.put St.at getK binD binI binS binB nilD aggD zgp zhi lookD lookR zcm Go.VL.nextD zcq zhv zhu zfX zcs mkV zdb zbj zbr mapEff zd1 zfM Key.kk shiftI arith unD convD zdH loadD cellsAt fieldAddrD fieldD indexAddrD indexD sliceD cutD lenD minmaxD nilCheckD buildD fillD zbH zcW zes setAll zcE zeJ zch zgC zcd St.add zaM zbB rowsOf zdw zcA zak zac zaa zba zcz zaR entry zbo zbq valD zb5 zcu zgh zc8 zda zbO zbG zau za2 zbm delAll effD St.effS zcM za6 zaY zcN za7 za0 zbY zaZ zaS zbZ zcH zbv zbV zbi zbT zbU zaJ mkD zbI zbs zbF zau zcf D.ids Op.operands Call.operands zbx makeIfD makeFuncD typeAssertD zhh zds zdt zgK zcn IntKind.bits zcG List.take_of_length_le List.range_succ
attribute [local irreducible] V G H HD HD2 HD4 zkk RetX zao Eff CallP CallV EndOK Fun Ret FinOK LoopI LoopW EndW
theorem zbW (l : List Tok) (p : Nat) (t : Tok) (hp : l[p]? = some t) (hl : l.length ≤ 1000000) : Fun Tryz.prog 43 [.u (zpO l p)] (· = .u (.agg [.int .i64 t.kind, .str t.text, .int .i64 t.n, .int .i64 t.pos])) := by
 have hlt := (List.getElem?_eq_some_iff.1 hp).1
 unfold zpO zmY
 (refine Fun.of_body Tryz.func43 rfl (by simp) fun Γ hn => ?_); simp only [entry, List.zipIdx_cons, List.zipIdx_nil, List.map_cons, List.map_nil, Nat.zero_add, Tryz.ntmps43]
 repeat' (first
  | (refine zaf ?_; simp [hp])
  | (refine zbt rfl ?_; simp [hp])
  | (refine zcc rfl ?_; simp [hp])
  | (refine zal ?_; simp [hp])
  | (refine zah ?_; simp [hp])
  | (refine zbQ (hC _ (by kernel_rfl)) (hk _ ?_); clear hC hk C k; simp only [zao])
  | (refine zb6 rfl (by kernel_rfl) (by first | (simp [hn]; done) | (simp [hn]; omega) | fail) fun C k hC hk => ?_; simp [hp])
  | (refine zar ?_; simp only [zao])
  | fail)
 (refine EndOK.val (.inr rfl) ?_; simp [zaL, zag, zas, Tryz.results43])
theorem zdR (l : List Tok) (p : Nat) (w : List UInt8) (hp : p < l.length) (hl : l.length ≤ 1000000) : Fun Tryz.prog 79 [.u (zpO l p), .u (.str w)] (· = .u (.bool (isB l p w))) := by
 obtain ⟨t, ht⟩ : ∃ t, l[p]? = some t := ⟨_, List.getElem?_eq_getElem hp⟩
 have hnx := zbW l p t ht hl
 unfold isB
 rw [ht]
 unfold zpO zmY at *
 by_cases h1 : t.kind = 0
 ·(refine Fun.of_body Tryz.func79 rfl (by simp) fun Γ hn => ?_); simp only [entry, List.zipIdx_cons, List.zipIdx_nil, List.map_cons, List.map_nil, Nat.zero_add, Tryz.ntmps79]
  repeat' (first
  | (refine zaf ?_; simp [h1])
  | (refine zal ?_; simp [h1])
  | (refine zah ?_; simp [h1])
  | (refine zar ?_; simp only [zao])
  | (refine CallP.fE (hnx) (by first | rfl | fail) (by first | (simp [h1]; done) | (simp [h1]; rfl) | fail) ?_; (try simp [h1]))
  | fail)
  all_goals
    (refine EndOK.val (.inr rfl) ?_; simp [zaL, zag, zas, Tryz.results79])
  all_goals simp [h1]
 ·(refine Fun.of_body Tryz.func79 rfl (by simp) fun Γ hn => ?_); simp only [entry, List.zipIdx_cons, List.zipIdx_nil, List.map_cons, List.map_nil, Nat.zero_add, Tryz.ntmps79]
  repeat' (first
  | (refine zaf ?_; simp [h1])
  | (refine zal ?_; simp [h1])
  | (refine zah ?_; simp [h1])
  | (refine zar ?_; simp only [zao])
  | (refine CallP.fE (hnx) (by first | rfl | fail) (by first | (simp [h1]; done) | (simp [h1]; rfl) | fail) ?_; (try simp [h1]))
  | fail)
  all_goals
    (refine EndOK.val (.inr rfl) ?_; simp [zaL, zag, zas, Tryz.results79])
  all_goals simp [h1]
theorem zbg (l : List Tok) (p : Nat) (w : List UInt8) (i nx : Nat) (hi : i < nx) (hp : p < l.length) (hl : l.length ≤ 1000000) :
  RetX Tryz.prog 127 [.ptr i 0, .u (.str w)] [(i, pOb l p)] nx (fun r o n => r = .val (.u (.bool (isB l p w))) ∧ o = [(i, pOb l (if isB l p w = true then p + 1 else p))] ∧ n = nx) := by
 have h1 := zdR l p w hp hl
 unfold pOb zpO zmY at *
 cases hb : isB l p w with
 | false =>
  rw [hb] at h1
  (refine RetX.of_bodyW Tryz.func127 rfl (by simp) fun Γ hn hpan => ?_); simp only [entry, List.zipIdx_cons, List.zipIdx_nil, List.map_cons, List.map_nil, Nat.zero_add, Tryz.ntmps127]
  repeat' (first
  | (refine zaf ?_; simp)
  | (refine zal ?_; simp)
  | (refine zah ?_; simp)
  | (refine zai ?_; simp)
  | (refine zar ?_; simp only [zao])
  | (refine CallP.fE (h1) (by first | rfl | fail) (by first | (simp; done) | (simp; rfl) | fail) ?_; (try simp))
  | fail)
  (refine EndW.here ?_; (first | (refine EndOK.fin (.inr rfl) ?_) | (refine EndOK.fin (.inl rfl) ?_)); simp [zaL, zag, Tryz.results127]; refine FinOK.here (by simp) ?_; try simp)
 | true =>
  rw [hb] at h1
  (refine RetX.of_bodyW Tryz.func127 rfl (by simp) fun Γ hn hpan => ?_); simp only [entry, List.zipIdx_cons, List.zipIdx_nil, List.map_cons, List.map_nil, Nat.zero_add, Tryz.ntmps127]
  repeat' (first
  | (refine zaf ?_; simp)
  | (refine zal ?_; simp)
  | (refine ⟨by omega, ?_⟩)
  | (refine zah ?_; simp)
  | (refine zai ?_; simp)
  | (refine zar ?_; simp only [zao])
  | (refine zap ?_; simp only [zao])
  | (refine CallP.fE (h1) (by first | rfl | fail) (by first | (simp; done) | (simp; rfl) | fail) ?_; (try simp))
  | fail)
  (refine EndW.here ?_; (first | (refine EndOK.fin (.inr rfl) ?_) | (refine EndOK.fin (.inl rfl) ?_)); simp [zaL, zag, Tryz.results127]; refine FinOK.here (by simp) ?_; try simp)
/-- The panic of a stop. -/
def chP (pos e : Int) : List PanicEntry := [{ v := .iface 105 (.agg #[.int .i64 pos, .int .i64 e]), recovered := false }]
def isP (l : List Tok) (ob : Ob) : Prop := ∃ q : Nat, ob = pOb l q
theorem zdU (l : List Tok) (p : Nat) (e : Int) (i nx : Nat) (hi : i < nx) :
  RetX Tryz.prog 42 [.ptr i 0, .u (.bool true), .u (.int .i64 e)] [(i, pOb l p)] nx (fun r o n => r = .val (.tup []) ∧ o = [(i, pOb l p)] ∧ n = nx) := by
 (refine RetX.of_bodyW Tryz.func42 rfl (by simp) fun Γ hn hpan => ?_); simp only [entry, List.zipIdx_cons, List.zipIdx_nil, List.map_cons, List.map_nil, Nat.zero_add, Tryz.ntmps42]
 repeat' (first
  | (refine zaf ?_; simp)
  | (refine zal ?_; simp)
  | (refine zah ?_; simp)
  | (refine zai ?_; simp)
  | (refine zap ?_; simp only [zao])
  | fail)
 (refine EndW.here ?_; (first | (refine EndOK.fin (.inr rfl) ?_) | (refine EndOK.fin (.inl rfl) ?_)); simp [zaL, zag, Tryz.results42]; refine FinOK.here (by simp) ?_; try simp)
theorem zcS (l : List Tok) (p : Nat) (t : Tok) (e : Int) (i nx : Nat) (hi : i < nx) (hp : l[p]? = some t) (hl : l.length ≤ 1000000) :
  RetX Tryz.prog 42 [.ptr i 0, .u (.bool false), .u (.int .i64 e)] [(i, pOb l p)] nx (fun r o n => r = .pan (chP t.pos e) ∧ (∃ ob', isP l ob' ∧ o = [(i, ob')]) ∧ n = nx) := by
 have h1 := zbW l p t hp hl
 (refine RetX.of_bodyW Tryz.func42 rfl (by simp) fun Γ hn hpan => ?_); simp only [entry, List.zipIdx_cons, List.zipIdx_nil, List.map_cons, List.map_nil, Nat.zero_add, Tryz.ntmps42]
 repeat' (first
  | (refine zaf ?_; simp)
  | (refine zal ?_; simp)
  | (refine zah ?_; simp)
  | (refine zai ?_; simp)
  | (refine zaC ?_; simp)
  | (refine CallP.fE (h1) (by first | rfl | fail) (by first | (simp; done) | (simp; rfl) | fail) ?_; (try simp))
  | fail)
 all_goals
  (refine hpan _ _ ⟨{ n := _, env := [], obs := [(i, pOb l p)], next := nx }, (Wk.cut rfl (by simp [hn]) (by simp [wkO, zaa, getK, zab, zac, Ob.under, D.under, zad, zae, hi]) (by simp [wkU, zan, zaa, getK, D.under, hi]) (by simp [wkE, zan, zaa, getK, hi])), by simp [hn], ?_⟩; try simp)
  all_goals exact ⟨rfl, p, rfl⟩
inductive PR (α : Type) where
 | ok (a : α) (p : Nat)
 | stop (pos e : Int)
def zc5 (l : List Tok) (p : Nat) : Int := match l[p]? with | some t => t.pos | none => 0
def zbu (l : List Tok) : Nat → List (List UInt8) → PR Unit
 | p, [] => .ok () p
 | p, w :: ws => if isB l p w = true then zbu l (p + 1) ws else .stop (zc5 l p) 12
def PPost {α : Type} (l : List Tok) (i nx : Nat) (val : α → D) : PR α → Out → List (Nat × Ob) → Nat → Prop
 | .ok a q, o, obs, n => o = .val (val a) ∧ obs = [(i, pOb l q)] ∧ n = nx
 | .stop pos e, o, obs, n => o = .pan (chP pos e) ∧ (∃ ob', isP l ob' ∧ obs = [(i, ob')]) ∧ n = nx
theorem zid (l : List Tok) (p : Nat) (ws : List (List UInt8)) (i nx : Nat) (hi : i < nx) (hp : p < l.length) (hl : TokOK l) (hw : ws.length ≤ 100) :
  RetX Tryz.prog 83 [.ptr i 0, .u (.sl (ws.map fun w => [.str w]))] [(i, pOb l p)] nx (PPost l i nx (fun _ => .tup []) (zbu l p ws)) := by
 (refine RetX.of_bodyW Tryz.func83 rfl (by simp) fun Γ hn hpan => ?_); simp only [entry, List.zipIdx_cons, List.zipIdx_nil, List.map_cons, List.map_nil, Nat.zero_add, Tryz.ntmps83]
 repeat' (first
  | (refine zaf ?_; simp)
  | (refine zal ?_; simp)
  | (refine zah ?_; simp)
  | (refine zaA ?_; simp)
  | fail)
 refine zdY (α := { x : Nat × Nat // x.1 ≤ ws.length ∧ x.2 < l.length ∧ zbu l p ws = zbu l x.2 (ws.drop x.1) }) [0, 6, 7] (fun x => [(8, .u (.int .i64 x.1.1))]) (fun x => [(i, pOb l x.1.2)]) nx (fun x => ws.length - x.1.1) ⟨(0, p), by simp, hp, by simp⟩ ?_ ?_
 ·exact (Wk.cut rfl (by simp [hn, St.lp]) (by simp [wkO, St.lp, zaa, getK, Ob.under, D.under, zad, zae, hi]) (by simp [wkU, St.lp, zan, zaa, getK, D.under, hi]) (by simp [wkE, St.lp, zan, zaa, getK, hi] <;> (try (intros; simp_all; done)) <;> (try (intros; omega)) <;> (try grind)))
 rintro ⟨⟨k, q⟩, h1, h2, h3⟩
 simp only at h1 h2 h3
 simp [St.lp, St.only, zan, zaa, getK]
 rcases hx : ws[k]? with _ | w
 ·have hge : ws.length ≤ k := by simpa using hx
  obtain rfl : k = ws.length := by omega
  rw [List.drop_length, zbu] at h3
  repeat' (first
  | (refine zaf ?_; simp [hx])
  | (refine zal ?_; simp [hx])
  | (refine zah ?_; simp [hx])
  | (refine zbR ?_; simp [zao])
  | fail)
  rw [h3]
  (refine EndW.here ?_; (first | (refine EndOK.fin (.inr rfl) ?_) | (refine EndOK.fin (.inl rfl) ?_)); simp [zaL, zag, Tryz.results83]; refine FinOK.here (by simp) ?_; try simp)
  simp [PPost]
 ·have hlt : k < ws.length := (List.getElem?_eq_some_iff.1 hx).1
  have hd : ws.drop k = w :: ws.drop (k + 1) := by
   obtain ⟨h5, h6⟩ := List.getElem?_eq_some_iff.1 hx
   rw [← h6, List.getElem_cons_drop]
  rw [hd, zbu] at h3
  have hh := zbg l q w i nx hi h2 hl.len
  by_cases hb : isB l q w = true
  ·rw [if_pos hb] at h3
   rw [hb, if_pos rfl] at hh
   have hq := zbf hl hb
   have hck := zdU l (q + 1) 12 i nx hi
   repeat' (first
  | (refine zaf ?_; simp [hx])
  | (refine zal ?_; simp [hx])
  | (refine ⟨by omega, ?_⟩)
  | (refine zah ?_; simp [hx])
  | (refine zaC ?_; simp [hx])
  | (refine zap ?_; simp only [zao])
  | (refine ⟨?_, by omega⟩)
  | (intro hc <;> (try (exfalso; omega)))
  | (refine CallP.ok1 (hh) (by first | (simp [hx, zaa, getK, zab, zac]; done) | fail) (by rfl) (by rfl) ?_; (try simp [hx]))
  | (refine CallP.ok1 (hck) (by first | (simp [hx, zaa, getK, zab, zac]; done) | fail) (by rfl) (by rfl) ?_; (try simp [hx]))
  | fail)
   refine LoopW.next ⟨(k + 1, q + 1), by omega, hq, h3⟩ (by simp; omega) ?_
   exact (Wk.cut rfl (by simp [hn, St.lp]) (by simp [wkO, St.lp, zaa, getK, Ob.under, D.under, zad, zae, hi, zab, zac, zaa, getK]) (by simp [wkU, St.lp, zan, zaa, getK, D.under, hi, zab, zac, zaa, getK]) (by simp [wkE, St.lp, zan, zaa, getK, hi, zab, zac, zaa, getK] <;> (try (intros; simp_all; done)) <;> (try (intros; omega)) <;> (try grind)))
  ·have hb2 : isB l q w = false := by simpa using hb
   rw [if_neg hb] at h3
   rw [hb2, if_neg (by simp)] at hh
   obtain ⟨t, ht⟩ : ∃ t, l[q]? = some t := ⟨_, List.getElem?_eq_getElem h2⟩
   have hck := zcS l q t 12 i nx hi ht hl.len
   repeat' (first
  | (refine zaf ?_; simp [hx])
  | (refine zal ?_; simp [hx])
  | (refine zah ?_; simp [hx])
  | (refine zaC ?_; simp [hx])
  | (refine zap ?_; simp only [zao])
  | (refine ⟨?_, by omega⟩)
  | (intro hc <;> (try (exfalso; omega)))
  | (refine CallP.ok1 (hh) (by first | (simp [hx, zaa, getK, zab, zac]; done) | fail) (by rfl) (by rfl) ?_; (try simp [hx]))
  | (refine CallP.zeb (hck) (by first | (simp [hx, zaa, getK, zab, zac]; done) | fail) (by rfl) (by first | assumption | (simp; done) | fail) (by rfl) (by simp) ?_; rintro ob' ⟨q', rfl⟩; refine ⟨_, Wk.refl _, ?_⟩)
  | fail)
   rw [h3] at hpan
   (refine hpan _ _ ⟨{ n := _, env := [], obs := [(i, pOb l q')], next := nx }, (Wk.cut rfl (by simp [hn]) (by simp [wkO, zaa, getK, zab, zac, Ob.under, D.under, zad, zae, hi, zab, zac, zaa, getK]) (by simp [wkU, zan, zaa, getK, D.under, hi, zab, zac, zaa, getK]) (by simp [wkE, zan, zaa, getK, hi, zab, zac, zaa, getK])), by simp [hn], ?_⟩; try simp)
   all_goals exact ⟨by simp [zc5, ht], ⟨_, ⟨q', rfl⟩, rfl⟩, rfl⟩
end Go.Proofs.YthnemhfamhnfjaaGreatDoor
namespace Go.Proofs.YthnemhfamhnfjaaGreatDoor
open Go Go.VL
def PR.bind {α β : Type} : PR α → (α → Nat → PR β) → PR β
 | .ok a p, f => f a p
 | .stop pos e, _ => .stop pos e
theorem PR.zav {α β : Type} {a : α} {p : Nat} {f : α → Nat → PR β} : (PR.ok a p).bind f = f a p := rfl
theorem PR.zaN {α β : Type} {pos e : Int} {f : α → Nat → PR β} : (PR.stop pos e : PR α).bind f = .stop pos e := rfl
theorem PR.zaI {α β : Type} {r : PR α} {f : α → Nat → PR β} {b : β} {q : Nat} (h : r.bind f = .ok b q) : ∃ a p, r = .ok a p ∧ f a p = .ok b q := by
 cases r with
 | ok a p => exact ⟨a, p, rfl, h⟩
 | stop => cases h
theorem PPost.zcw {α : Type} {l i nx} {val : α → D} {r : PR α} {a : α} {q : Nat} (h : r = .ok a q) {d : D} (hd : d = val a) {o : List (Nat × Ob)} (ho : o = [(i, pOb l q)]) : PPost l i nx val r (.val d) o nx := by
 subst h; subst hd; subst ho; exact ⟨rfl, rfl, rfl⟩
theorem PPost.zaw {α : Type} {l i nx} {val : α → D} {r : PR α} {pos e : Int} {q : Nat} (h : r = .stop pos e) : PPost l i nx val r (.pan (chP pos e)) [(i, pOb l q)] nx := by
 subst h; exact ⟨rfl, ⟨_, ⟨q, rfl⟩, rfl⟩, rfl⟩
structure Opr where
 text : List UInt8
 op : Int
 form : Int
def oprs : List Opr := [⟨[111, 114], 11, 1⟩, ⟨[97, 110, 100], 10, 2⟩, ⟨[61, 61], 9, 4⟩, ⟨[60], 8, 4⟩, ⟨[43], 2, 5⟩, ⟨[45], 3, 5⟩, ⟨[42], 4, 6⟩, ⟨[47], 5, 6⟩]
def zeX (l : List Tok) (p : Nat) : Option Opr := oprs.find? fun o => isB l p o.text
def zgJ (l : List Tok) (p : Nat) : PR Int :=
 if isB l p [99, 111, 105, 110, 115] = true then .ok 3 (p + 1)
 else if isB l p [100, 97, 121, 115] = true then .ok 2 (p + 1)
 else if isB l p [112, 101, 114] = true then (zbu l (p + 1) [[109, 105, 108, 108, 101]]).bind fun _ q => .ok 4 q
 else .ok 1 p
mutual
def zc6 (l : List Tok) : Nat → Nat → Int → PR Exp
 | 0, _, _ => .stop 0 0
 | f + 1, p, form => (za4 l f p form).bind fun e q => zdr l f form e.1 e.2 q
def zdr (l : List Tok) : Nat → Int → Exp → Int → Nat → PR Exp
 | 0, _, _, _, _ => .stop 0 0
 | f + 1, form, e, own, q => match zeX l q with
  | none => .ok e q
  | some x => if x.form < form ∨ own < x.form ∨ (own = 4 ∧ x.form = 4) then .ok e q
   else (zc6 l f (q + 1) (x.form + 1)).bind fun e2 r => zdr l f form (.mk x.op 0 0 [] [e, e2]) x.form r
def za4 (l : List Tok) : Nat → Nat → Int → PR (Exp × Int)
 | 0, _, _ => .stop 0 0
 | f + 1, p, form =>
  if form = 0 ∧ isB l p [105, 102] = true then
   (zc6 l f (p + 1) 0).bind fun a q1 => (zbu l q1 [[116, 104, 101, 110]]).bind fun _ q2 => (zc6 l f q2 0).bind fun b q3 =>
   (zbu l q3 [[101, 108, 115, 101]]).bind fun _ q4 => (zc6 l f q4 0).bind fun c q5 => .ok (.mk 13 0 0 [] [a, b, c], 0) q5
  else if form ≤ 3 ∧ isB l p [110, 111, 116] = true then (zc6 l f (p + 1) 3).bind fun a q => .ok (.mk 12 0 0 [] [a], 3) q
  else (zaO l f p).bind fun e q => .ok (e, 7) q
def zaO (l : List Tok) : Nat → Nat → PR Exp
 | 0, _ => .stop 0 0
 | f + 1, p => match l[p]? with
  | none => .stop 0 0
  | some t =>
   if t.kind = 2 then (zgJ l (p + 1)).bind fun u q => .ok (.mk 0 t.n u [] []) q
   else if isB l p [116, 114, 117, 101] = true then .ok (.mk 0 1 0 [] []) (p + 1)
   else if isB l p [102, 97, 108, 115, 101] = true then .ok (.mk 0 0 0 [] []) (p + 1)
   else if isB l p [109, 105, 110] = true ∨ isB l p [109, 97, 120] = true then
    (zbu l (p + 1) [[40]]).bind fun _ q1 => (zc6 l f q1 0).bind fun a q2 => (zbu l q2 [[44]]).bind fun _ q3 => (zc6 l f q3 0).bind fun b q4 =>
    (zbu l q4 [[41]]).bind fun _ q5 => .ok (.mk (if isB l p [109, 97, 120] = true then 7 else 6) 0 0 [] [a, b]) q5
   else if isB l p [40] = true then (zc6 l f (p + 1) 0).bind fun e q1 => (zbu l q1 [[41]]).bind fun _ q2 => .ok e q2
   else if t.kind = 1 ∧ zbD t.text = true then .ok (.mk 1 0 0 t.text []) (p + 1)
   else .stop t.pos 12
end
theorem za1 {l : List Tok} (hl : TokOK l) : ∀ (ws : List (List UInt8)) {p q : Nat}, zbu l p ws = .ok () q → p < l.length → p ≤ q ∧ q < l.length
 | [], p, q, h, hp => by rw [zbu] at h; cases h; exact ⟨Nat.le_refl _, hp⟩
 | w :: ws, p, q, h, hp => by
  rw [zbu] at h
  split at h
  ·rename_i hb
   have := za1 hl ws h (zbf hl hb)
   exact ⟨by omega, this.2⟩
  ·cases h
theorem zow {l : List Tok} (hl : TokOK l) {p q : Nat} {u : Int} (h : zgJ l p = .ok u q) (hp : p < l.length) : p ≤ q ∧ q < l.length := by
 unfold zgJ at h
 split at h
 ·rename_i hb; cases h; exact ⟨by omega, zbf hl hb⟩
 ·split at h
  ·rename_i hb; cases h; exact ⟨by omega, zbf hl hb⟩
  ·split at h
   ·rename_i hb
    obtain ⟨a, r, h1, h2⟩ := PR.zaI h
    cases h2
    have := za1 hl _ h1 (zbf hl hb)
    exact ⟨by omega, this.2⟩
   ·cases h; exact ⟨by omega, hp⟩
theorem zb2 {l : List Tok} (hl : TokOK l) : ∀ (f : Nat),
  (∀ p form e q, zc6 l f p form = .ok e q → p < l.length → p ≤ q ∧ q < l.length) ∧
  (∀ form e own p e' q, zdr l f form e own p = .ok e' q → p < l.length → p ≤ q ∧ q < l.length) ∧
  (∀ p form e q, za4 l f p form = .ok e q → p < l.length → p ≤ q ∧ q < l.length) ∧
  (∀ p e q, zaO l f p = .ok e q → p < l.length → p ≤ q ∧ q < l.length)
 | 0 => ⟨fun _ _ _ _ h => by simp [zc6] at h, fun _ _ _ _ _ _ h => by simp [zdr] at h, fun _ _ _ _ h => by simp [za4] at h, fun _ _ _ h => by simp [zaO] at h⟩
 | f + 1 => by
  obtain ⟨he, hlo, hpr, hpm⟩ := zb2 hl f
  refine ⟨fun p form e q h hp => ?_, fun form e own p e' q h hp => ?_, fun p form e q h hp => ?_, fun p e q h hp => ?_⟩
  ·rw [zc6] at h
   obtain ⟨a, r, h1, h2⟩ := PR.zaI h
   have g1 := hpr _ _ _ _ h1 hp
   have g2 := hlo _ _ _ _ _ _ h2 g1.2
   exact ⟨by omega, g2.2⟩
  ·rw [zdr] at h
   split at h
   ·cases h; exact ⟨by omega, hp⟩
   ·rename_i x hx
    have hb := List.find?_some hx
    have hp2 := zbf hl hb
    split at h
    ·cases h; exact ⟨by omega, hp⟩
    ·obtain ⟨a, r, h1, h2⟩ := PR.zaI h
     have g1 := he _ _ _ _ h1 hp2
     have g2 := hlo _ _ _ _ _ _ h2 g1.2
     exact ⟨by omega, g2.2⟩
  ·rw [za4] at h
   split at h
   ·rename_i hb
    have hp2 := zbf hl hb.2
    obtain ⟨a, r, h1, h⟩ := PR.zaI h
    have g1 := he _ _ _ _ h1 hp2
    obtain ⟨_, r2, h2, h⟩ := PR.zaI h
    have g2 := za1 hl _ h2 g1.2
    obtain ⟨a, r3, h3, h⟩ := PR.zaI h
    have g3 := he _ _ _ _ h3 g2.2
    obtain ⟨_, r4, h4, h⟩ := PR.zaI h
    have g4 := za1 hl _ h4 g3.2
    obtain ⟨a, r5, h5, h⟩ := PR.zaI h
    have g5 := he _ _ _ _ h5 g4.2
    cases h
    exact ⟨by omega, g5.2⟩
   ·split at h
    ·rename_i hb
     have hp2 := zbf hl hb.2
     obtain ⟨a, r, h1, h⟩ := PR.zaI h
     have g1 := he _ _ _ _ h1 hp2
     cases h
     exact ⟨by omega, g1.2⟩
    ·obtain ⟨a, r, h1, h⟩ := PR.zaI h
     have g1 := hpm _ _ _ h1 hp
     cases h
     exact g1
  ·rw [zaO] at h
   split at h
   ·cases h
   ·rename_i t ht
    split at h
    ·rename_i hk
     have hp2 := hl.fin p t ht (by omega)
     obtain ⟨a, r, h1, h⟩ := PR.zaI h
     have g1 := zow hl h1 hp2
     cases h
     exact ⟨by omega, g1.2⟩
    split at h
    ·rename_i hb; cases h; exact ⟨by omega, zbf hl hb⟩
    split at h
    ·rename_i hb; cases h; exact ⟨by omega, zbf hl hb⟩
    split at h
    ·rename_i hb
     have hp2 : p + 1 < l.length := hb.elim (zbf hl) (zbf hl)
     obtain ⟨_, r2, h2, h⟩ := PR.zaI h
     have g2 := za1 hl _ h2 hp2
     obtain ⟨a, r3, h3, h⟩ := PR.zaI h
     have g3 := he _ _ _ _ h3 g2.2
     obtain ⟨_, r4, h4, h⟩ := PR.zaI h
     have g4 := za1 hl _ h4 g3.2
     obtain ⟨a, r5, h5, h⟩ := PR.zaI h
     have g5 := he _ _ _ _ h5 g4.2
     obtain ⟨_, r6, h6, h⟩ := PR.zaI h
     have g6 := za1 hl _ h6 g5.2
     cases h
     exact ⟨by omega, g6.2⟩
    split at h
    ·rename_i hb
     have hp2 := zbf hl hb
     obtain ⟨a, r3, h3, h⟩ := PR.zaI h
     have g3 := he _ _ _ _ h3 hp2
     obtain ⟨_, r4, h4, h⟩ := PR.zaI h
     have g4 := za1 hl _ h4 g3.2
     cases h
     exact ⟨by omega, g4.2⟩
    split at h
    ·rename_i hk
     cases h
     exact ⟨by omega, hl.fin p t ht (by omega)⟩
    ·cases h
end Go.Proofs.YthnemhfamhnfjaaGreatDoor
namespace Go.Proofs.YthnemhfamhnfjaaGreatDoor
open Go Go.VL
abbrev W8 := List UInt8
def zfr : W8 → Int
 | [] => 0
 | c :: _ => if zbp c = true then 1 else if zaT c = true then 2 else 3
theorem zo5 {w : W8} (h : w ≠ []) : zfr w ≠ 0 := by
 cases w with
 | nil => exact absurd rfl h
 | cons c w => rw [zfr]; split <;> (try split) <;> decide
def zpR (w : W8) : Int := if zfr w = 2 then (zex w).getD 0 else 0
def Reads (l : List Tok) (p : Nat) (ws : List W8) : Prop := ∀ i w, ws[i]? = some w → w ≠ [] ∧ ∃ t, l[p + i]? = some t ∧ t.text = w ∧ t.kind = zfr w ∧ t.n = zpR w
theorem Reads.left {l p} {a b : List W8} (h : Reads l p (a ++ b)) : Reads l p a := fun i w hi => h i w (by rw [List.getElem?_append_left (List.getElem?_eq_some_iff.1 hi).1]; exact hi)
theorem Reads.right {l p} {a b : List W8} (h : Reads l p (a ++ b)) : Reads l (p + a.length) b := fun i w hi => by
 have := h (a.length + i) w (by rw [List.getElem?_append_right (by omega), Nat.add_sub_cancel_left]; exact hi)
 rwa [← Nat.add_assoc] at this
theorem Reads.head {l p} {w : W8} {b : List W8} (h : Reads l p (w :: b)) : w ≠ [] ∧ ∃ t, l[p]? = some t ∧ t.text = w ∧ t.kind = zfr w ∧ t.n = zpR w := h 0 w rfl
theorem Reads.tail {l p} {w : W8} {b : List W8} (h : Reads l p (w :: b)) : Reads l (p + 1) b := Reads.right (a := [w]) h
theorem Reads.isB {l p} {w : W8} {b : List W8} (h : Reads l p (w :: b)) (v : W8) : isB l p v = decide (w = v) := by
 obtain ⟨hw, t, ht, h1, h2, h3⟩ := h.head
 have := zo5 hw
 simp [Go.Proofs.YthnemhfamhnfjaaGreatDoor.isB, ht, h1, h2, this]
theorem Reads.want {l p} {w : W8} {b : List W8} (h : Reads l p (w :: b)) : zbu l p [w] = .ok () (p + 1) := by
 rw [zbu, if_pos (by rw [h.isB]; simp), zbu]
theorem Reads.opr {l p} {w : W8} {b : List W8} (h : Reads l p (w :: b)) : zeX l p = oprs.find? fun o => decide (w = o.text) := by
 unfold zeX
 congr 1
 exact funext fun o => h.isB o.text
def Ev {α : Type} (g : Nat → PR α) (r : PR α) : Prop := ∃ f0, ∀ f, f0 ≤ f → g f = r
theorem Ev.succ {α : Type} {g : Nat → PR α} {r : PR α} (h : Ev (fun f => g (f + 1)) r) : Ev g r := by
 obtain ⟨f0, h⟩ := h
 refine ⟨f0 + 1, fun f hf => ?_⟩
 obtain ⟨f, rfl⟩ : ∃ k, f = k + 1 := ⟨f - 1, by omega⟩
 exact h f (by omega)
theorem Ev.const {α : Type} {r : PR α} : Ev (fun _ => r) r := ⟨0, fun _ _ => rfl⟩
theorem Ev.of {α : Type} {g : Nat → PR α} {r : PR α} (h : ∀ f, g f = r) : Ev g r := ⟨0, fun f _ => h f⟩
theorem Ev.bind {α β : Type} {g : Nat → PR α} {a : α} {q : Nat} {F : Nat → α → Nat → PR β} {r : PR β} (h : Ev g (.ok a q)) (h2 : Ev (fun f => F f a q) r) : Ev (fun f => (g f).bind (F f)) r := by
 obtain ⟨f0, h⟩ := h
 obtain ⟨f1, h2⟩ := h2
 refine ⟨max f0 f1, fun f hf => ?_⟩
 show (g f).bind (F f) = r
 rw [h f (by omega), PR.zav]
 exact h2 f (by omega)
theorem Ev.exp {l p form} {e : Exp} {own : Int} {q : Nat} {r} (h : Ev (fun f => za4 l f p form) (.ok (e, own) q)) (h2 : Ev (fun f => zdr l f form e own q) r) : Ev (fun f => zc6 l f p form) r := by
 refine Ev.succ ?_
 simp only [zc6]
 exact Ev.bind h h2
def zcb (op : Int) : Int := if op = 13 then 0 else if op = 12 then 3 else match oprs.find? (fun o => decide (o.op = op)) with | some o => o.form | none => 7
def zdv (n u : Int) : List W8 :=
 if u = 0 then [if n = 1 then [116, 114, 117, 101] else [102, 97, 108, 115, 101]]
 else Lib.itoa n :: (if u = 3 then [[99, 111, 105, 110, 115]] else if u = 2 then [[100, 97, 121, 115]] else if u = 4 then [[112, 101, 114], [109, 105, 108, 108, 101]] else [])
def zor (x : Int × List W8) (least : Int) : List W8 := if x.1 < least then [40] :: x.2 ++ [[41]] else x.2
def zmN (ws : List (Int × List W8)) (i : Nat) (least : Int) : List W8 := match ws[i]? with | some x => zor x least | none => []
def zcV (op n u : Int) (s : W8) (ws : List (Int × List W8)) : List W8 :=
 if op = 0 then zdv n u else if op = 1 then [s]
 else if op = 13 then [105, 102] :: zmN ws 0 0 ++ [116, 104, 101, 110] :: zmN ws 1 0 ++ [101, 108, 115, 101] :: zmN ws 2 0
 else if op = 12 then [110, 111, 116] :: zmN ws 0 3
 else if op = 6 then [109, 105, 110] :: [40] :: zmN ws 0 0 ++ [44] :: zmN ws 1 0 ++ [[41]]
 else if op = 7 then [109, 97, 120] :: [40] :: zmN ws 0 0 ++ [44] :: zmN ws 1 0 ++ [[41]]
 else match oprs.find? (fun o => decide (o.op = op)) with
  | some o => zmN ws 0 (if o.form = 4 then 5 else o.form) ++ o.text :: zmN ws 1 (o.form + 1)
  | none => []
mutual
def za3 : Exp → List W8
 | .mk op n u s args => zcV op n u s (zkT args)
def zkT : List Exp → List (Int × List W8)
 | [] => []
 | .mk op n u s args :: l => (zcb op, zcV op n u s (zkT args)) :: zkT l
end
theorem zj8 : ∀ l : List Exp, zkT l = l.map fun e => (zcb e.op, za3 e)
 | [] => by simp [zkT]
 | .mk op n u s args :: l => by rw [zkT, List.map_cons, zj8 l]; simp [za3, Exp.op]
def zaP (e : Exp) (least : Int) : List W8 := zor (zcb e.op, za3 e) least
def zoJ (e : Exp) (least : Int) : Int := if zcb e.op < least then 7 else zcb e.op
theorem zbX {args : List Exp} {i : Nat} {a : Exp} (h : args[i]? = some a) (least : Int) : zmN (zkT args) i least = zaP a least := by
 rw [zmN, zj8, List.getElem?_map, h]; rfl
end Go.Proofs.YthnemhfamhnfjaaGreatDoor
namespace Go.Proofs.YthnemhfamhnfjaaGreatDoor
open Go Go.VL
theorem zfi {o : Opr} (h : o ∈ oprs) : 1 ≤ o.form ∧ o.form ≤ 6 ∧ o.form ≠ 3 := by
 simp only [oprs, List.mem_cons, List.mem_nil_iff, or_false] at h
 rcases h with rfl | rfl | rfl | rfl | rfl | rfl | rfl | rfl <;> decide
theorem zl5 {op : Int} {o : Opr} (h : oprs.find? (fun o => decide (o.op = op)) = some o) : o.op = op ∧ o ∈ oprs := by
 have h1 := List.find?_some h
 exact ⟨by simpa using h1, List.mem_of_find?_eq_some h⟩
theorem zoK {o : Opr} (h : o ∈ oprs) : oprs.find? (fun x => decide (o.text = x.text)) = some o := by
 simp only [oprs, List.mem_cons, List.mem_nil_iff, or_false] at h
 rcases h with rfl | rfl | rfl | rfl | rfl | rfl | rfl | rfl <;> rfl
theorem znf {o : Opr} (h : o ∈ oprs) : o.text ≠ [99, 111, 105, 110, 115] ∧ o.text ≠ [100, 97, 121, 115] ∧ o.text ≠ [112, 101, 114] := by
 simp only [oprs, List.mem_cons, List.mem_nil_iff, or_false] at h
 rcases h with rfl | rfl | rfl | rfl | rfl | rfl | rfl | rfl <;> decide
theorem zhd (op : Int) : 0 ≤ zcb op ∧ zcb op ≤ 7 := by
 unfold zcb
 split
 ·decide
 ·split
  ·decide
  ·split
   ·rename_i o h
    have := zfi (zl5 h).2
    omega
   ·decide
/-- What stands behind an expression: no unit. -/
def zki (l : List Tok) (q : Nat) : Prop := isB l q [99, 111, 105, 110, 115] = false ∧ isB l q [100, 97, 121, 115] = false ∧ isB l q [112, 101, 114] = false
theorem Reads.noUnit {l p} {w : W8} {b : List W8} (h : Reads l p (w :: b)) (h1 : w ≠ [99, 111, 105, 110, 115]) (h2 : w ≠ [100, 97, 121, 115]) (h3 : w ≠ [112, 101, 114]) : zki l p := by
 refine ⟨?_, ?_, ?_⟩ <;> rw [h.isB] <;> simp [*]
def zmM (l : List Tok) (e : Exp) : Prop := ∀ least form p r, 0 ≤ form → form ≤ least → least ≤ 7 → Reads l p (zaP e least) → zki l (p + (zaP e least).length) →
 (∀ x, zeX l (p + (zaP e least).length) = some x → x.form ≤ zoJ e least) → Ev (fun f => zdr l f form e (zoJ e least) (p + (zaP e least).length)) r → Ev (fun f => zc6 l f p form) r
def zqI (l : List Tok) (e : Exp) : Prop := ∀ form p r, 0 ≤ form → form ≤ zcb e.op → Reads l p (za3 e) → zki l (p + (za3 e).length) →
 (∀ x, zeX l (p + (za3 e).length) = some x → x.form ≤ zcb e.op) → Ev (fun f => zdr l f form e (zcb e.op) (p + (za3 e).length)) r → Ev (fun f => zc6 l f p form) r
theorem zlb {l : List Tok} {q : Nat} {form own : Int} {e : Exp} (h : ∀ x, zeX l q = some x → x.form < form) : Ev (fun f => zdr l f form e own q) (.ok e q) := by
 refine Ev.succ (Ev.of fun f => ?_)
 rw [zdr]
 rcases hx : zeX l q with _ | x
 ·rfl
 ·have := h x hx
  simp only
  rw [if_pos (.inl this)]
theorem zjG {l : List Tok} {e : Exp} (hb : zqI l e) : zmM l e := by
 intro least form p r h0 h1 h7 hr hu hf hk
 by_cases hlt : zcb e.op < least
 ·have hs : zaP e least = [40] :: za3 e ++ [[41]] := by rw [zaP, zor, if_pos hlt]
  have ho : zoJ e least = 7 := by rw [zoJ, if_pos hlt]
  rw [hs] at hr hu hf hk
  rw [ho] at hk
  have hr2 : Reads l (p + 1) (za3 e ++ [[41]]) := Reads.tail hr
  have hr3 : Reads l (p + 1 + (za3 e).length) [[41]] := hr2.right
  have hlen : p + ([40] :: za3 e ++ [[41]]).length = p + 1 + (za3 e).length + 1 := by simp; omega
  rw [hlen] at hk
  obtain ⟨_, t, ht, t1, t2, t3⟩ := Reads.head (b := za3 e ++ [[41]]) hr
  have hi : ∀ v, isB l p v = decide ([40] = v) := fun v => Reads.isB (b := za3 e ++ [[41]]) hr v
  have hopn : zeX l (p + 1 + (za3 e).length) = none := by rw [hr3.opr]; rfl
  refine Ev.exp (e := e) (own := 7) (q := p + 1 + (za3 e).length + 1) ?_ hk
  refine Ev.succ ?_
  have e1 : ∀ f, za4 l (f + 1) p form = (zaO l f p).bind fun e q => .ok (e, 7) q := fun f => by
   rw [za4, hi, hi]; simp
  simp only [e1]
  refine Ev.bind (a := e) (q := p + 1 + (za3 e).length + 1) ?_ Ev.const
  refine Ev.succ ?_
  have hkd : t.kind = 3 := by rw [t2]; decide
  have e2 : ∀ f, zaO l (f + 1) p = (zc6 l f (p + 1) 0).bind fun e q1 => (zbu l q1 [[41]]).bind fun _ q2 => .ok e q2 := fun f => by
   rw [zaO, ht]; simp [hi, hkd]
  simp only [e2]
  refine Ev.bind (a := e) (q := p + 1 + (za3 e).length) ?_ ?_
  ·refine hb 0 (p + 1) _ (Int.le_refl _) (zhd _).1 hr2.left (hr3.noUnit (by decide) (by decide) (by decide)) (fun x hx => ?_) (zlb fun x hx => ?_)
   all_goals rw [hopn] at hx; cases hx
  ·rw [hr3.want]
   exact Ev.of fun _ => rfl
 ·have hs : zaP e least = za3 e := by rw [zaP, zor, if_neg hlt]
  have ho : zoJ e least = zcb e.op := by rw [zoJ, if_neg hlt]
  rw [hs] at hr hu hf hk
  rw [ho] at hf hk
  exact hb form p r h0 (by omega) hr hu hf hk
theorem zpP {e : Exp} {least : Int} (h : least ≤ 7) : least ≤ zoJ e least := by
 unfold zoJ; split <;> omega
theorem zkb {l : List Tok} {a : Exp} (h : zmM l a) {least : Int} {p : Nat} (h0 : 0 ≤ least) (h7 : least ≤ 7) (hr : Reads l p (zaP a least)) (hu : zki l (p + (zaP a least).length))
  (hs : ∀ x, zeX l (p + (zaP a least).length) = some x → x.form < least) : Ev (fun f => zc6 l f p least) (.ok a (p + (zaP a least).length)) :=
 h least least p _ h0 (Int.le_refl _) h7 hr hu (fun x hx => by have := hs x hx; have := zpP (e := a) h7; omega) (zlb hs)
/-- An argument ahead of a word that is no operator. -/
theorem zgD {l : List Tok} {a : Exp} (h : zmM l a) {least : Int} {p : Nat} {w : W8} {b : List W8} (h0 : 0 ≤ least) (h7 : least ≤ 7) (hr : Reads l p (zaP a least ++ w :: b))
  (h1 : w ≠ [99, 111, 105, 110, 115]) (h2 : w ≠ [100, 97, 121, 115]) (h3 : w ≠ [112, 101, 114]) (ho : oprs.find? (fun o => decide (w = o.text)) = none) :
  Ev (fun f => zc6 l f p least) (.ok a (p + (zaP a least).length)) :=
 zkb h h0 h7 hr.left (hr.right.noUnit h1 h2 h3) fun x hx => by rw [hr.right.opr, ho] at hx; cases hx
end Go.Proofs.YthnemhfamhnfjaaGreatDoor
namespace Go.Proofs.YthnemhfamhnfjaaGreatDoor
open Go Go.VL
theorem zgf : ∀ n, Lib.decDigits n ≠ [] := fun n => by
 rw [Lib.decDigits]; split <;> simp
theorem zeI (n : Nat) : ∀ c ∈ Lib.decDigits n, zaT c = true := by
 induction n using Nat.strongRecOn with
 | _ n ih =>
  intro c hc
  have hd : ∀ k, k < 10 → zaT (UInt8.ofNat (48 + k)) = true := by decide
  rw [Lib.decDigits] at hc
  split at hc
  ·rename_i h
   simp only [List.mem_singleton] at hc
   subst hc
   exact hd n h
  ·rename_i h
   rw [List.mem_append, List.mem_singleton] at hc
   rcases hc with hc | rfl
   ·exact ih _ (by omega) c hc
   ·exact hd _ (by omega)
theorem ziM (n : Nat) : zbe (Lib.decDigits n) = n := by
 induction n using Nat.strongRecOn with
 | _ n ih =>
  have hd : ∀ k, k < 10 → ((UInt8.ofNat (48 + k)).toNat : Int) - 48 = k := by decide
  rw [Lib.decDigits]
  split
  ·rename_i h
   simpa [zbe] using hd n h
  ·rename_i h
   rw [zdT, ih _ (by omega), hd _ (by omega)]
   omega
theorem zhG (n : Nat) : (Lib.decDigits n).head? = some 48 → n = 0 := by
 induction n using Nat.strongRecOn with
 | _ n ih =>
  have hd : ∀ k, k < 10 → UInt8.ofNat (48 + k) = 48 → k = 0 := by decide
  rw [Lib.decDigits]
  split
  ·rename_i h
   intro he
   exact hd n h (by simpa using he)
  ·rename_i h
   intro he
   have he2 : (Lib.decDigits (n / 10)).head? = some 48 := by
    have hne := zgf (n / 10)
    revert he hne
    cases Lib.decDigits (n / 10) with
    | nil => intro _ h; exact absurd rfl h
    | cons a r => intro he _; simpa using he
   have := ih _ (by omega) he2
   omega
theorem zfz (n : Nat) : ∀ k, n < 10 ^ (k + 1) → (Lib.decDigits n).length ≤ k + 1 := by
 induction n using Nat.strongRecOn with
 | _ n ih =>
  intro k hk
  rw [Lib.decDigits]
  split
  ·simp
  ·rename_i h
   obtain ⟨k, rfl⟩ : ∃ j, k = j + 1 := ⟨k - 1, by cases k with | zero => simp at hk; omega | succ k => rfl⟩
   have := ih (n / 10) (by omega) k (by rw [Nat.pow_succ] at hk; omega)
   simp
   omega
theorem zij {p : UInt8 → Bool} {l : List UInt8} (h : ∀ c ∈ l, p c = true) : l.takeWhile p = l := by
 induction l with
 | nil => rfl
 | cons a l ih => rw [List.takeWhile_cons, if_pos (h a (by simp)), ih fun c hc => h c (by simp [hc])]
theorem zgz {n : Int} (h0 : 0 ≤ n) (h1 : n ≤ 1099511627776) : zfr (Lib.itoa n) = 2 ∧ zex (Lib.itoa n) = some n ∧ Lib.itoa n ≠ [] := by
 have hi : Lib.itoa n = Lib.decDigits n.toNat := by rw [Lib.itoa, if_neg (by omega)]
 rw [hi]
 have hne := zgf n.toNat
 have hd := zeI n.toNat
 have hlt : n.toNat < 10 ^ (12 + 1) := by
  have : (10 : Nat) ^ 13 = 10000000000000 := by decide
  omega
 have hlen := zfz n.toNat 12 hlt
 have hv := ziM n.toNat
 have hh := zhG n.toNat
 refine ⟨?_, ?_, hne⟩
 ·have h3 : ∀ c, zaT c = true → zbp c = false := fun c h => by
   simp only [zaT, zbp, Bool.and_eq_true, decide_eq_true_eq, Bool.and_eq_false_iff, decide_eq_false_iff_not] at h ⊢
   omega
  cases hc : Lib.decDigits n.toNat with
  | nil => exact absurd hc hne
  | cons c r =>
   have h4 := hd c (by rw [hc]; simp)
   rw [zfr, h3 c h4, h4]; rfl
 ·unfold zex
  have hsp : zbM zaT (Lib.decDigits n.toNat) = (Lib.decDigits n.toNat).length := by rw [zbM, zij hd]
  rw [if_neg, hv, if_neg (by omega)]
  ·rw [Int.toNat_of_nonneg h0]
  ·simp only [not_or]
   refine ⟨hne, fun h => h hsp, fun h => ?_, by omega⟩
   have := hh h.1
   rw [this] at h
   exact h.2 (by rw [Lib.decDigits]; rfl)
end Go.Proofs.YthnemhfamhnfjaaGreatDoor
namespace Go.Proofs.YthnemhfamhnfjaaGreatDoor
open Go Go.VL
theorem Ev.zrt {l : List Tok} {p : Nat} {form : Int} {e : Exp} {q : Nat} (h : Ev (fun f => zaO l (f + 1) p) (.ok e q)) (hif : ∀ f, za4 l (f + 1) p form = (zaO l f p).bind fun e q => .ok (e, 7) q) :
  Ev (fun f => za4 l f p form) (.ok (e, 7) q) := by
 refine Ev.succ ?_
 simp only [hif]
 exact Ev.bind (Ev.succ h) Ev.const
theorem zgY {n u : Int} (h : zoP (.mk 0 n u [] []) = true) : 0 ≤ u ∧ u < 5 ∧ 0 ≤ n ∧ n ≤ 1099511627776 ∧ (u = 0 → n ≤ 1) := by
 have h2 : (decide (([] : List UInt8) = []) && decide (0 ≤ u) && decide (u < 5) && decide (0 ≤ n) && decide (n ≤ if u = 0 then 1 else 1099511627776)) = true := h
 simp only [Bool.and_eq_true, decide_eq_true_eq] at h2
 obtain ⟨⟨⟨⟨_, a⟩, b⟩, c⟩, d⟩ := h2
 split at d
 ·exact ⟨a, b, c, by omega, fun _ => d⟩
 ·rename_i hz
  exact ⟨a, b, c, d, fun h => absurd h hz⟩
theorem zpw {l : List Tok} {n u : Int} (hn : zoP (.mk 0 n u [] []) = true) : zqI l (.mk 0 n u [] []) := by
 intro form p r h0 h1 hr hu hf hk
 have hF : zcb (Exp.mk 0 n u [] []).op = 7 := rfl
 rw [hF] at hk
 obtain ⟨hu0, hu1, hn0, hn2, hn1⟩ := zgY hn
 have hb : za3 (.mk 0 n u [] []) = zdv n u := by rw [za3, zcV, if_pos rfl]
 rw [hb] at hr hk hu
 refine Ev.exp (e := .mk 0 n u [] []) (own := 7) (q := p + (zdv n u).length) ?_ hk
 by_cases hz : u = 0
 ·subst hz
  have hn1 := hn1 rfl
  have hw : zdv n 0 = [if n = 1 then [116, 114, 117, 101] else [102, 97, 108, 115, 101]] := by rw [zdv, if_pos rfl]
  rw [hw] at hr ⊢
  obtain ⟨_, t, ht, t1, t2, t3⟩ := hr.head
  have hi := fun v => hr.isB v
  refine Ev.zrt ?_ fun f => ?_
  ·refine Ev.of fun f => ?_
   have hkd : t.kind = 1 := by rw [t2]; split <;> decide
   rw [zaO, ht]
   simp only [hi, hkd]
   by_cases h1 : n = 1
   ·subst h1; simp
   ·have : n = 0 := by omega
    subst this; simp
  ·rw [za4, hi, hi]
   by_cases h1 : n = 1 <;> simp [h1]
 ·obtain ⟨k1, k2, k3⟩ := zgz hn0 hn2
  have hw : zdv n u = Lib.itoa n :: (if u = 3 then [[99, 111, 105, 110, 115]] else if u = 2 then [[100, 97, 121, 115]] else if u = 4 then [[112, 101, 114], [109, 105, 108, 108, 101]] else []) := by rw [zdv, if_neg hz]
  rw [hw] at hr hu ⊢
  obtain ⟨_, t, ht, t1, t2, t3⟩ := hr.head
  rw [k1] at t2
  rw [zpR, if_pos k1, k2] at t3
  simp only [Option.getD_some] at t3
  have hi : ∀ v, zfr v ≠ 2 → isB l p v = false := fun v hv => by
   rw [hr.isB]
   exact decide_eq_false fun h => hv (h ▸ k1)
  have hunit : zgJ l (p + 1) = .ok u (p + (Lib.itoa n :: (if u = 3 then [[99, 111, 105, 110, 115]] else if u = 2 then [[100, 97, 121, 115]] else if u = 4 then [[112, 101, 114], [109, 105, 108, 108, 101]] else [])).length) := by
   have hr2 := hr.tail
   have hcases : u = 1 ∨ u = 2 ∨ u = 3 ∨ u = 4 := by omega
   rcases hcases with rfl | rfl | rfl | rfl
   ·simp only [List.length_singleton, show ((1 : Int) = 3) = False by simp, show ((1 : Int) = 2) = False by simp, show ((1 : Int) = 4) = False by simp, if_false] at hu ⊢
    rw [zgJ, hu.1, hu.2.1, hu.2.2]; rfl
   ·simp only [show ((2 : Int) = 3) = False by simp, if_false, if_true] at hr2 ⊢
    rw [zgJ, hr2.isB, hr2.isB]; rfl
   ·simp only [if_true] at hr2 ⊢
    rw [zgJ, hr2.isB]; rfl
   ·simp only [show ((4 : Int) = 3) = False by simp, show ((4 : Int) = 2) = False by simp, if_false, if_true] at hr2 ⊢
    rw [zgJ, hr2.isB, hr2.isB, hr2.isB, hr2.tail.want]; rfl
  refine Ev.zrt ?_ fun f => ?_
  ·refine Ev.of fun f => ?_
   rw [zaO, ht]
   simp only [t2, t3, if_true, hunit]
   rfl
  ·rw [za4, hi _ (by decide), hi _ (by decide)]; simp
theorem zoe {l : List Tok} {s : W8} (hn : zbD s = true) : zqI l (.mk 1 0 0 s []) := by
 intro form p r h0 h1 hr hu hf hk
 have hF : zcb (Exp.mk 1 0 0 s []).op = 7 := rfl
 rw [hF] at hk
 have hb : za3 (.mk 1 0 0 s []) = [s] := by rw [za3, zcV, if_neg (by decide), if_pos rfl]
 rw [hb] at hr hk
 refine Ev.exp (e := .mk 1 0 0 s []) (own := 7) (q := p + 1) ?_ hk
 obtain ⟨_, t, ht, t1, t2, t3⟩ := hr.head
 have hi : ∀ v, zbD v = false → isB l p v = false := fun v hv => by
  rw [hr.isB]
  exact decide_eq_false fun h => by rw [← h, hn] at hv; cases hv
 have hkd : t.kind = 1 := by
  rw [t2]
  cases s with
  | nil => simp [zbD, zeW] at hn
  | cons c r =>
   simp only [zbD, zeW, Bool.and_eq_true] at hn
   rw [zfr, if_pos hn.1.1.1]
 refine Ev.zrt ?_ fun f => ?_
 ·refine Ev.of fun f => ?_
  rw [zaO, ht]
  simp only [hi _ (show zbD [116, 114, 117, 101] = false by decide), hi _ (show zbD [102, 97, 108, 115, 101] = false by decide), hi _ (show zbD [109, 105, 110] = false by decide), hi _ (show zbD [109, 97, 120] = false by decide), hi _ (show zbD [40] = false by decide), hkd, t1, hn]
  simp
 ·rw [za4, hi _ (show zbD [105, 102] = false by decide), hi _ (show zbD [110, 111, 116] = false by decide)]; simp
end Go.Proofs.YthnemhfamhnfjaaGreatDoor
namespace Go.Proofs.YthnemhfamhnfjaaGreatDoor
open Go Go.VL
theorem zqs {l : List Tok} {a b c : Exp} (ha : zmM l a) (hb : zmM l b) (hc : zmM l c) : zqI l (.mk 13 0 0 [] [a, b, c]) := by
 intro form p r h0 h1 hr hu hf hk
 have hF : zcb (Exp.mk 13 0 0 [] [a, b, c]).op = 0 := rfl
 rw [hF] at hk h1 hf
 obtain rfl : form = 0 := by omega
 have hw : za3 (.mk 13 0 0 [] [a, b, c]) = [105, 102] :: (zaP a 0 ++ [116, 104, 101, 110] :: (zaP b 0 ++ [101, 108, 115, 101] :: zaP c 0)) := by
  rw [za3, zcV, if_neg (by decide), if_neg (by decide), if_pos rfl, zbX (a := a) rfl, zbX (a := b) rfl, zbX (a := c) rfl]
  simp
 rw [hw] at hr hk hu hf
 have r0 := hr.tail
 have r1 := r0.right
 have r2 := r1.tail
 have r3 := r2.right
 have r4 := r3.tail
 have hlen : p + ([105, 102] :: (zaP a 0 ++ [116, 104, 101, 110] :: (zaP b 0 ++ [101, 108, 115, 101] :: zaP c 0))).length = p + 1 + (zaP a 0).length + 1 + (zaP b 0).length + 1 + (zaP c 0).length := by simp; omega
 rw [hlen] at hk hu hf
 have hno : ∀ x, zeX l (p + 1 + (zaP a 0).length + 1 + (zaP b 0).length + 1 + (zaP c 0).length) = some x → x.form < 0 := fun x hx => by
  have h1 := hf x hx
  have h2 := zfi (List.mem_of_find?_eq_some hx)
  omega
 refine Ev.exp (e := .mk 13 0 0 [] [a, b, c]) (own := 0) ?_ hk
 refine Ev.succ ?_
 have e1 : ∀ f, za4 l (f + 1) p 0 = (zc6 l f (p + 1) 0).bind fun a q1 => (zbu l q1 [[116, 104, 101, 110]]).bind fun _ q2 => (zc6 l f q2 0).bind fun b q3 =>
   (zbu l q3 [[101, 108, 115, 101]]).bind fun _ q4 => (zc6 l f q4 0).bind fun c q5 => .ok (.mk 13 0 0 [] [a, b, c], 0) q5 := fun f => by
  rw [za4, hr.isB]; simp
 simp only [e1]
 refine Ev.bind (zgD ha (by decide) (by decide) r0 (by decide) (by decide) (by decide) rfl) ?_
 rw [r1.want]
 simp only [PR.zav]
 refine Ev.bind (zgD hb (by decide) (by decide) r2 (by decide) (by decide) (by decide) rfl) ?_
 rw [r3.want]
 simp only [PR.zav]
 exact Ev.bind (zkb hc (by decide) (by decide) r4 hu hno) Ev.const
theorem zpx {l : List Tok} {a : Exp} (ha : zmM l a) : zqI l (.mk 12 0 0 [] [a]) := by
 intro form p r h0 h1 hr hu hf hk
 have hF : zcb (Exp.mk 12 0 0 [] [a]).op = 3 := rfl
 rw [hF] at hk h1 hf
 have hw : za3 (.mk 12 0 0 [] [a]) = [110, 111, 116] :: zaP a 3 := by
  rw [za3, zcV, if_neg (by decide), if_neg (by decide), if_neg (by decide), if_pos rfl, zbX (a := a) rfl]
 rw [hw] at hr hk hu hf
 have r0 := hr.tail
 have hlen : p + ([110, 111, 116] :: zaP a 3).length = p + 1 + (zaP a 3).length := by simp; omega
 rw [hlen] at hk hu hf
 have hno : ∀ x, zeX l (p + 1 + (zaP a 3).length) = some x → x.form < 3 := fun x hx => by
  have h1 := hf x hx
  have h2 := zfi (List.mem_of_find?_eq_some hx)
  omega
 refine Ev.exp (e := .mk 12 0 0 [] [a]) (own := 3) ?_ hk
 refine Ev.succ ?_
 have e1 : ∀ f, za4 l (f + 1) p form = (zc6 l f (p + 1) 3).bind fun a q => .ok (.mk 12 0 0 [] [a], 3) q := fun f => by
  rw [za4, hr.isB, hr.isB]; simp [h1]
 simp only [e1]
 exact Ev.bind (zkb ha (by decide) (by decide) r0 hu hno) Ev.const
theorem zlH {l : List Tok} {a b : Exp} {op : Int} {w : W8} (hop : op = 6 ∧ w = [109, 105, 110] ∨ op = 7 ∧ w = [109, 97, 120]) (ha : zmM l a) (hb : zmM l b) : zqI l (.mk op 0 0 [] [a, b]) := by
 intro form p r h0 h1 hr hu hf hk
 have hF : zcb (Exp.mk op 0 0 [] [a, b]).op = 7 := by rcases hop with ⟨rfl, rfl⟩ | ⟨rfl, rfl⟩ <;> rfl
 rw [hF] at hk h1 hf
 have hw : za3 (.mk op 0 0 [] [a, b]) = w :: [40] :: (zaP a 0 ++ [44] :: (zaP b 0 ++ [[41]])) := by
  rcases hop with ⟨rfl, rfl⟩ | ⟨rfl, rfl⟩
  ·rw [za3, zcV, if_neg (by decide), if_neg (by decide), if_neg (by decide), if_neg (by decide), if_pos rfl, zbX (a := a) rfl, zbX (a := b) rfl]; simp
  ·rw [za3, zcV, if_neg (by decide), if_neg (by decide), if_neg (by decide), if_neg (by decide), if_neg (by decide), if_pos rfl, zbX (a := a) rfl, zbX (a := b) rfl]; simp
 rw [hw] at hr hk hu hf
 have rp := hr.tail
 have r0 := rp.tail
 have r1 := r0.right
 have r2 := r1.tail
 have r3 := r2.right
 have hlen : p + (w :: [40] :: (zaP a 0 ++ [44] :: (zaP b 0 ++ [[41]]))).length = p + 1 + 1 + (zaP a 0).length + 1 + (zaP b 0).length + 1 := by simp; omega
 rw [hlen] at hk
 obtain ⟨_, t, ht, t1, t2, t3⟩ := hr.head
 refine Ev.exp (e := .mk op 0 0 [] [a, b]) (own := 7) ?_ hk
 refine Ev.zrt ?_ fun f => ?_
 ·have e1 : ∀ f, zaO l (f + 1) p = (zbu l (p + 1) [[40]]).bind fun _ q1 => (zc6 l f q1 0).bind fun a q2 => (zbu l q2 [[44]]).bind fun _ q3 => (zc6 l f q3 0).bind fun b q4 =>
    (zbu l q4 [[41]]).bind fun _ q5 => .ok (.mk op 0 0 [] [a, b]) q5 := fun f => by
   rw [zaO, ht]
   rcases hop with ⟨rfl, rfl⟩ | ⟨rfl, rfl⟩
   ·have : t.kind = 1 := by rw [t2]; decide
    simp [this, hr.isB]
   ·have : t.kind = 1 := by rw [t2]; decide
    simp [this, hr.isB]
  simp only [e1]
  rw [rp.want]
  simp only [PR.zav]
  refine Ev.bind (zgD ha (by decide) (by decide) r0 (by decide) (by decide) (by decide) rfl) ?_
  rw [r1.want]
  simp only [PR.zav]
  refine Ev.bind (zgD hb (by decide) (by decide) r2 (by decide) (by decide) (by decide) rfl) ?_
  rw [r3.want]
  simp only [PR.zav]
  exact Ev.const
 ·rw [za4, hr.isB, hr.isB]
  rcases hop with ⟨rfl, rfl⟩ | ⟨rfl, rfl⟩ <;> simp
theorem zpv {l : List Tok} {a b : Exp} {o : Opr} (ho : o ∈ oprs) (ha : zmM l a) (hb : zmM l b) : zqI l (.mk o.op 0 0 [] [a, b]) := by
 intro form p r h0 h1 hr hu hf hk
 obtain ⟨g1, g2, g3⟩ := zfi ho
 have hfind : oprs.find? (fun x => decide (x.op = o.op)) = some o := by
  simp only [oprs, List.mem_cons, List.mem_nil_iff, or_false] at ho
  rcases ho with rfl | rfl | rfl | rfl | rfl | rfl | rfl | rfl <;> rfl
 have hne : o.op ≠ 0 ∧ o.op ≠ 1 ∧ o.op ≠ 13 ∧ o.op ≠ 12 ∧ o.op ≠ 6 ∧ o.op ≠ 7 := by
  have ho := ho
  simp only [oprs, List.mem_cons, List.mem_nil_iff, or_false] at ho
  rcases ho with rfl | rfl | rfl | rfl | rfl | rfl | rfl | rfl <;> decide
 obtain ⟨n0, n1, n13, n12, n6, n7⟩ := hne
 have hF : zcb (Exp.mk o.op 0 0 [] [a, b]).op = o.form := by
  show zcb o.op = o.form
  rw [zcb, if_neg n13, if_neg n12, hfind]
 rw [hF] at hk h1 hf
 have hw : za3 (.mk o.op 0 0 [] [a, b]) = zaP a (if o.form = 4 then 5 else o.form) ++ o.text :: zaP b (o.form + 1) := by
  rw [za3, zcV, if_neg n0, if_neg n1, if_neg n13, if_neg n12, if_neg n6, if_neg n7, hfind]
  simp only
  rw [zbX (a := a) rfl, zbX (a := b) rfl]
 rw [hw] at hr hk hu hf
 generalize hle : (if o.form = 4 then 5 else o.form) = lf at hr hk hu hf
 have hlf : o.form ≤ lf ∧ lf ≤ 6 ∧ (o.form = 4 → lf = 5) := by
  rw [← hle]; split <;> omega
 have r1 := hr.right
 have r2 := r1.tail
 have hlen : p + (zaP a lf ++ o.text :: zaP b (o.form + 1)).length = p + (zaP a lf).length + 1 + (zaP b (o.form + 1)).length := by simp; omega
 rw [hlen] at hk hu hf
 have hop : zeX l (p + (zaP a lf).length) = some o := by rw [r1.opr, zoK ho]
 have hown := zpP (e := a) (least := lf) (by omega)
 obtain ⟨p1, p2, p3⟩ := znf ho
 refine ha lf form p r h0 (by omega) (by omega) hr.left (r1.noUnit p1 p2 p3) (fun x hx => ?_) ?_
 ·rw [hop] at hx
  cases hx
  omega
 ·refine Ev.succ ?_
  have e1 : ∀ f, zdr l (f + 1) form a (zoJ a lf) (p + (zaP a lf).length) = (zc6 l f (p + (zaP a lf).length + 1) (o.form + 1)).bind fun e2 r => zdr l f form (.mk o.op 0 0 [] [a, e2]) o.form r := fun f => by
   rw [zdr, hop]
   simp only
   rw [if_neg]
   simp only [not_or, not_and]
   exact ⟨by omega, by omega, fun h4 h5 => by have := hlf.2.2 h5; omega⟩
  simp only [e1]
  exact Ev.bind (F := fun f e2 r => zdr l f form (.mk o.op 0 0 [] [a, e2]) o.form r) (zkb hb (by omega) (by omega) r2 hu fun x hx => by have := hf x hx; omega) hk
end Go.Proofs.YthnemhfamhnfjaaGreatDoor
namespace Go.Proofs.YthnemhfamhnfjaaGreatDoor
open Go Go.VL
theorem zkM {α} {l : List α} (h : l.length = 1) : ∃ a, l = [a] := by
 match l, h with | [a], _ => exact ⟨a, rfl⟩
theorem zkL {α} {l : List α} (h : l.length = 2) : ∃ a b, l = [a, b] := by
 match l, h with | [a, b], _ => exact ⟨a, b, rfl⟩
theorem zkK {α} {l : List α} (h : l.length = 3) : ∃ a b c, l = [a, b, c] := by
 match l, h with | [a, b, c], _ => exact ⟨a, b, c, rfl⟩
/-- The shapes of a right expression. -/
theorem zcl {d : Nat} {op n u : Int} {s : W8} {args : List Exp} (h : zaE (d + 1) (.mk op n u s args) = true) :
  (op = 0 ∧ s = [] ∧ args = [] ∧ zoP (.mk 0 n u [] []) = true) ∨ (op = 1 ∧ n = 0 ∧ u = 0 ∧ args = [] ∧ zbD s = true) ∨
  (n = 0 ∧ u = 0 ∧ s = [] ∧ (∀ x ∈ args, zaE d x = true) ∧ ((op = 12 ∧ args.length = 1) ∨ (op = 13 ∧ args.length = 3) ∨ (op ≠ 0 ∧ op ≠ 1 ∧ op ≠ 12 ∧ op ≠ 13 ∧ 0 ≤ op ∧ op < 14 ∧ args.length = 2))) := by
 have h2 : (decide ((args.length : Int) = zdl op) && (if op = 0 then zoP (.mk op n u s args) else if n ≠ 0 ∨ u ≠ 0 then false else if op = 1 then zbD s else decide (s = []) && !args.any (fun x => !zaE d x))) = true := h
 rw [Bool.and_eq_true, decide_eq_true_eq] at h2
 obtain ⟨h1, h2⟩ := h2
 by_cases h0 : op = 0
 ·subst h0
  rw [if_pos rfl] at h2
  have hs : s = [] := by
   have h3 : (decide (s = []) && decide (0 ≤ u) && decide (u < 5) && decide (0 ≤ n) && decide (n ≤ if u = 0 then 1 else 1099511627776)) = true := h2
   simp only [Bool.and_eq_true, decide_eq_true_eq] at h3
   exact h3.1.1.1.1
  have ha : args = [] := by
   have : zdl 0 = 0 := by decide
   rw [this] at h1
   exact List.eq_nil_of_length_eq_zero (by omega)
  subst hs; subst ha
  exact .inl ⟨rfl, rfl, rfl, h2⟩
 ·rw [if_neg h0] at h2
  by_cases hnu : n ≠ 0 ∨ u ≠ 0
  ·rw [if_pos hnu] at h2; cases h2
  ·rw [if_neg hnu] at h2
   have hn : n = 0 := by omega
   have hu : u = 0 := by omega
   by_cases h1' : op = 1
   ·rw [if_pos h1'] at h2
    subst h1'
    have : zdl 1 = 0 := by decide
    rw [this] at h1
    exact .inr (.inl ⟨rfl, hn, hu, List.eq_nil_of_length_eq_zero (by omega), h2⟩)
   ·rw [if_neg h1', Bool.and_eq_true, decide_eq_true_eq] at h2
    refine .inr (.inr ⟨hn, hu, h2.1, fun x hx => ?_, ?_⟩)
    ·have h3 := h2.2
     rw [Bool.not_eq_true', List.any_eq_false] at h3
     simpa using h3 x hx
    ·unfold zdl at h1
     rw [if_neg (by omega)] at h1
     by_cases h12 : op = 12
     ·rw [if_pos h12] at h1; exact .inl ⟨h12, by omega⟩
     ·rw [if_neg h12] at h1
      by_cases h13 : op = 13
      ·rw [if_pos h13] at h1; exact .inr (.inl ⟨h13, by omega⟩)
      ·rw [if_neg h13] at h1
       by_cases hr : op < 0 ∨ 14 ≤ op
       ·rw [if_pos hr] at h1; omega
       ·rw [if_neg hr] at h1
        exact .inr (.inr ⟨h0, h1', h12, h13, by omega, by omega, by omega⟩)
theorem zgX {op : Int} (h0 : 2 ≤ op) (h1 : op < 12) (h6 : op ≠ 6) (h7 : op ≠ 7) : ∃ o ∈ oprs, o.op = op := by
 have : op = 2 ∨ op = 3 ∨ op = 4 ∨ op = 5 ∨ op = 8 ∨ op = 9 ∨ op = 10 ∨ op = 11 := by omega
 rcases this with rfl | rfl | rfl | rfl | rfl | rfl | rfl | rfl <;> simp [oprs]
theorem zla (l : List Tok) : ∀ (d : Nat) (e : Exp), zaE d e = true → zmM l e
 | 0, e, h => by rw [zaE] at h; cases h
 | d + 1, .mk op n u s args, h => by
  refine zjG ?_
  rcases zcl h with ⟨rfl, rfl, rfl, hn⟩ | ⟨rfl, rfl, rfl, rfl, hn⟩ | ⟨rfl, rfl, rfl, ha, h3⟩
  ·exact zpw hn
  ·exact zoe hn
  ·have hm : ∀ x ∈ args, zmM l x := fun x hx => zla l d x (ha x hx)
   rcases h3 with ⟨rfl, hl⟩ | ⟨rfl, hl⟩ | ⟨g0, g1, g12, g13, g2, g3, hl⟩
   ·obtain ⟨a, rfl⟩ := zkM hl
    exact zpx (hm a (by simp))
   ·obtain ⟨a, b, c, rfl⟩ := zkK hl
    exact zqs (hm a (by simp)) (hm b (by simp)) (hm c (by simp))
   ·obtain ⟨a, b, rfl⟩ := zkL hl
    by_cases h6 : op = 6
    ·exact zlH (.inl ⟨h6, rfl⟩) (hm a (by simp)) (hm b (by simp))
    ·by_cases h7 : op = 7
     ·exact zlH (.inr ⟨h7, rfl⟩) (hm a (by simp)) (hm b (by simp))
     ·obtain ⟨o, ho, rfl⟩ := zgX (op := op) (by omega) (by omega) h6 h7
      exact zpv ho (hm a (by simp)) (hm b (by simp))
/-- A right expression's words, with a word behind them that ends it, are parsed to it. -/
theorem zpb {l : List Tok} {d : Nat} {e : Exp} (h : zaE d e = true) {p : Nat} (hr : Reads l p (zaP e 0)) (hu : zki l (p + (zaP e 0).length)) (ho : zeX l (p + (zaP e 0).length) = none) :
  Ev (fun f => zc6 l f p 0) (.ok e (p + (zaP e 0).length)) :=
 zkb (zla l d e h) (by decide) (by decide) hr hu fun x hx => by rw [ho] at hx; cases hx
end Go.Proofs.YthnemhfamhnfjaaGreatDoor
namespace Go.Proofs.YthnemhfamhnfjaaGreatDoor
open Go Go.VL
/-- What stands behind a word: nothing, or a blank. -/
def zrk (r : W8) : Prop := ∀ c t, r = c :: t → zbb c = true
structure GoodW (w : W8) : Prop where
 next : ∀ r, zrk r → zfV (w ++ r) = .ok ⟨zfr w, w, zpR w, 0⟩
 ne : w ≠ []
 head : ∀ c t, w = c :: t → zbb c = false
theorem zdd {p : UInt8 → Bool} {a r : W8} (ha : ∀ c ∈ a, p c = true) (hr : ∀ c t, r = c :: t → p c = false) : (a ++ r).takeWhile p = a := by
 induction a with
 | nil =>
  cases r with
  | nil => rfl
  | cons c t => rw [List.nil_append, List.takeWhile_cons, hr c t rfl]; rfl
 | cons c a ih => rw [List.cons_append, List.takeWhile_cons, ha c (by simp), if_pos rfl, ih fun x hx => ha x (by simp [hx])]
theorem zlG {c : UInt8} (h : zbb c = true) : zbp c = false ∧ zaT c = false := by
 simp only [zbb, zbp, zaT, Bool.or_eq_true, Bool.and_eq_false_iff, decide_eq_true_eq, decide_eq_false_iff_not] at h ⊢
 omega
theorem znC {c : UInt8} (h : zbp c = true) : zbb c = false ∧ zaT c = false := by
 simp only [zbb, zbp, zaT, Bool.and_eq_true, Bool.or_eq_false_iff, Bool.and_eq_false_iff, decide_eq_true_eq, decide_eq_false_iff_not] at h ⊢
 omega
theorem zlz {c : UInt8} (h : zaT c = true) : zbb c = false ∧ zbp c = false := by
 simp only [zbb, zbp, zaT, Bool.and_eq_true, Bool.or_eq_false_iff, Bool.and_eq_false_iff, decide_eq_true_eq, decide_eq_false_iff_not] at h ⊢
 omega
theorem zaG {w : W8} (h : zeW w = true) : GoodW w := by
 cases w with
 | nil => simp [zeW] at h
 | cons c s =>
  have h0 := h
  simp only [zeW, Bool.and_eq_true, decide_eq_true_eq] at h
  obtain ⟨⟨hc, hlen⟩, hsp⟩ := h
  have hall : ∀ x ∈ c :: s, zco x = true := by
   have h3 : (c :: s).takeWhile (fun c => zbp c || zaT c) = c :: s := (List.takeWhile_sublist _).eq_of_length hsp
   intro x hx
   rw [← h3] at hx
   exact List.all_eq_true.1 (List.all_takeWhile (l := c :: s) (p := fun c => zbp c || zaT c)) x hx
  refine ⟨fun r hr => ?_, by simp, fun x t he => by cases he; exact (znC hc).1⟩
  have htw : ((c :: s) ++ r).takeWhile zco = c :: s := zdd hall fun x t he => by
   have := zlG (hr x t he)
   simp [zco, this]
  have htk : ((c :: s) ++ r).take (zbM zco ((c :: s) ++ r)) = c :: s := by rw [zbM, htw]; simp
  have hkn : zfr (c :: s) = 1 := by rw [zfr, if_pos hc]
  rw [List.cons_append] at htk ⊢
  rw [zfV, if_pos hc, htk, h0, if_pos rfl, hkn, zpR, hkn]
  rfl
theorem zlq {n : Int} (h0 : 0 ≤ n) (h1 : n ≤ 1099511627776) : GoodW (Lib.itoa n) := by
 obtain ⟨k1, k2, k3⟩ := zgz h0 h1
 have hall : ∀ x ∈ Lib.itoa n, zaT x = true := by
  have hi : Lib.itoa n = Lib.decDigits n.toNat := by rw [Lib.itoa, if_neg (by omega)]
  rw [hi]; exact zeI _
 generalize Lib.itoa n = w at k1 k2 k3 hall
 cases w with
 | nil => exact absurd rfl k3
 | cons c s =>
  have hc := hall c (by simp)
  refine ⟨fun r hr => ?_, by simp, fun x t he => by cases he; exact (zlz hc).1⟩
  have htw : ((c :: s) ++ r).takeWhile zaT = c :: s := zdd hall fun x t he => (zlG (hr x t he)).2
  have htk : ((c :: s) ++ r).take (zbM zaT ((c :: s) ++ r)) = c :: s := by rw [zbM, htw]; simp
  rw [List.cons_append] at htk ⊢
  rw [zfV, (zlz hc).2, if_neg (by simp), if_pos hc, htk, k2, k1, zpR, k1, k2]
  rfl
theorem zd7 {w : W8} (h : w ∈ signsL) : GoodW w := by
 simp only [signsL, List.mem_cons, List.mem_nil_iff, or_false] at h
 refine ⟨fun r hr => ?_, by rcases h with rfl | rfl | rfl | rfl | rfl | rfl | rfl | rfl | rfl | rfl | rfl <;> simp, fun c t he => by
  rcases h with rfl | rfl | rfl | rfl | rfl | rfl | rfl | rfl | rfl | rfl | rfl <;> cases he <;> decide⟩
 cases r with
 | nil => rcases h with rfl | rfl | rfl | rfl | rfl | rfl | rfl | rfl | rfl | rfl | rfl <;> rfl
 | cons c t =>
  have hb := hr c t rfl
  have hne : ¬ (61 : UInt8) = c := fun e => by subst e; simp [zbb] at hb
  rcases h with rfl | rfl | rfl | rfl | rfl | rfl | rfl | rfl | rfl | rfl | rfl <;>
   simp [zfV, zbp, zaT, signsL, List.find?, List.isPrefixOf, zfr, zpR, hne]
def zbJ : List (W8 × W8) → W8
 | [] => []
 | x :: l => x.1 ++ (x.2 ++ zbJ l)
/-- Words, each with what stands behind it: blanks; behind the last one maybe nothing. -/
def Spaced : List (W8 × W8) → Prop
 | [] => True
 | [x] => GoodW x.1 ∧ ∀ c ∈ x.2, zbb c = true
 | x :: y :: l => GoodW x.1 ∧ (∀ c ∈ x.2, zbb c = true) ∧ x.2 ≠ [] ∧ Spaced (y :: l)
theorem Spaced.good {x : W8 × W8} {l : List (W8 × W8)} (h : Spaced (x :: l)) : GoodW x.1 ∧ (∀ c ∈ x.2, zbb c = true) ∧ (l ≠ [] → x.2 ≠ []) ∧ Spaced l := by
 cases l with
 | nil => exact ⟨h.1, h.2, fun h => absurd rfl h, trivial⟩
 | cons y l => exact ⟨h.1, h.2.1, fun _ => h.2.2.1, h.2.2.2⟩
theorem zn0 {l : List (W8 × W8)} (h : Spaced l) : ∀ c t, zbJ l = c :: t → zbb c = false := by
 cases l with
 | nil => intro c t he; cases he
 | cons x l =>
  intro c t he
  have hg := h.good.1
  rw [zbJ] at he
  cases hx : x.1 with
  | nil => exact absurd hx hg.ne
  | cons a r =>
   rw [hx] at he
   cases he
   exact hg.head _ _ hx
theorem zhW : ∀ (l : List (W8 × W8)) (f : Nat) (s : W8) (p : Nat) (lead : W8), Spaced l → (∀ c ∈ lead, zbb c = true) → s.drop p = lead ++ zbJ l → l.length < f →
  ∃ ts, zle f s p = .ok ts ∧ ts.length = l.length + 1 ∧ Reads ts 0 (l.map (·.1)) ∧ ∃ t, ts[l.length]? = some t ∧ t.kind = 0
 | l, 0, _, _, _, _, _, _, hf => by omega
 | [], f + 1, s, p, lead, hs, hl, hd, hf => by
  have hsp : zbM zbb (s.drop p) = lead.length := by rw [hd, zbM, zbJ, zdd hl fun c t he => by cases he]
  have hdr : s.drop (p + zbM zbb (s.drop p)) = [] := by rw [hsp, ← List.drop_drop, hd, zbJ]; simp
  rw [zle, hdr]
  refine ⟨_, rfl, rfl, fun i w hi => by simp at hi, _, rfl, rfl⟩
 | x :: l, f + 1, s, p, lead, hs, hl, hd, hf => by
  obtain ⟨hg, hb, hne, hs2⟩ := hs.good
  have hsp : zbM zbb (s.drop p) = lead.length := by rw [hd, zbM, zdd hl (zn0 hs)]
  have hdr : s.drop (p + lead.length) = x.1 ++ (x.2 ++ zbJ l) := by rw [← List.drop_drop, hd, zbJ]; simp
  have hend : zrk (x.2 ++ zbJ l) := fun c t he => by
   cases hx : x.2 with
   | nil =>
    have : l = [] := by
     cases l with
     | nil => rfl
     | cons y l => exact absurd hx (hne (by simp))
    subst this
    rw [hx] at he
    cases he
   | cons a r =>
    rw [hx] at he
    cases he
    exact hb _ (by rw [hx]; simp)
  have hn := hg.next _ hend
  have hd2 : s.drop (p + lead.length + x.1.length) = x.2 ++ zbJ l := by rw [← List.drop_drop, hdr]; simp
  obtain ⟨ts, h1, h2, h3, t, h4, h5⟩ := zhW l f s (p + lead.length + x.1.length) x.2 hs2 hb hd2 (by simp at hf; omega)
  rw [zle, hsp]
  cases hw : x.1 ++ (x.2 ++ zbJ l) with
  | nil =>
   have := hg.ne
   simp at hw
   exact absurd hw.1 this
  | cons c r =>
   rw [hdr, hw]
   rw [hw] at hn
   simp only [hn, h1]
   refine ⟨_, rfl, by simp [h2], fun i w hi => ?_, t, by simpa using h4, h5⟩
   cases i with
   | zero =>
    simp only [List.map_cons, List.getElem?_cons_zero, Option.some.injEq] at hi
    subst hi
    exact ⟨hg.ne, _, rfl, rfl, rfl, rfl⟩
   | succ i =>
    simp only [List.map_cons, List.getElem?_cons_succ] at hi
    obtain ⟨q1, t', q2, q3⟩ := h3 i w hi
    rw [Nat.zero_add] at q2 ⊢
    exact ⟨q1, t', by simpa using q2, q3⟩
theorem ziI : ∀ l : List (W8 × W8), Spaced l → l.length ≤ (zbJ l).length
 | [], _ => Nat.le_refl _
 | x :: l, h => by
  obtain ⟨hg, hb, hne, hs2⟩ := h.good
  have := ziI l hs2
  have h1 := List.length_pos_iff.2 hg.ne
  simp [zbJ]
  omega
/-- THE TOKENS OF A TEXT of words with blanks between them. -/
theorem zmf {l : List (W8 × W8)} (h : Spaced l) (hlen : (zbJ l).length ≤ 2000) : ∃ ts, ziZ (zbJ l) = .ok ts ∧ ts.length = l.length + 1 ∧ Reads ts 0 (l.map (·.1)) ∧ ∃ t, ts[l.length]? = some t ∧ t.kind = 0 := by
 rw [ziZ, if_neg (by omega)]
 have := ziI l h
 exact zhW l _ (zbJ l) 0 [] h (by simp) (by simp) (by omega)
end Go.Proofs.YthnemhfamhnfjaaGreatDoor
namespace Go.Proofs.YthnemhfamhnfjaaGreatDoor
open Go Go.VL
theorem PR.zcv {α β : Type} {r : PR α} {F G : α → Nat → PR β} (h : ∀ a q, r = .ok a q → F a q = G a q) : r.bind F = r.bind G := by
 cases r with
 | ok a q => exact h a q rfl
 | stop => rfl
theorem zls {l : List Tok} (hl : TokOK l) : ∀ (f : Nat),
  (∀ p form, p < l.length → 4 * (l.length - p) + 3 ≤ f → zc6 l (f + 1) p form = zc6 l f p form) ∧
  (∀ p form e own, p < l.length → 4 * (l.length - p) + 2 ≤ f → zdr l (f + 1) form e own p = zdr l f form e own p) ∧
  (∀ p form, p < l.length → 4 * (l.length - p) + 2 ≤ f → za4 l (f + 1) p form = za4 l f p form) ∧
  (∀ p, p < l.length → 4 * (l.length - p) + 1 ≤ f → zaO l (f + 1) p = zaO l f p)
 | 0 => ⟨fun _ _ _ h => by omega, fun _ _ _ _ _ h => by omega, fun _ _ _ h => by omega, fun _ _ h => by omega⟩
 | f + 1 => by
  obtain ⟨he, hlo, hpr, hpm⟩ := zls hl f
  obtain ⟨le, llo, lpr, lpm⟩ := zb2 hl f
  refine ⟨fun p form hp hf => ?_, fun p form e own hp hf => ?_, fun p form hp hf => ?_, fun p hp hf => ?_⟩
  ·simp only [zc6]
   rw [hpr p form hp (by omega)]
   refine PR.zcv fun a q hq => ?_
   have g := lpr _ _ _ _ hq hp
   exact hlo _ _ _ _ g.2 (by omega)
  ·rw [zdr, zdr]
   split
   ·rfl
   ·rename_i x hx
    have hb := List.find?_some hx
    have hp2 := zbf hl hb
    split
    ·rfl
    ·rw [he (p + 1) _ hp2 (by omega)]
     refine PR.zcv fun a q hq => ?_
     have g := le _ _ _ _ hq hp2
     exact hlo _ _ _ _ g.2 (by omega)
  ·simp only [za4]
   split
   ·rename_i hb
    have hp2 := zbf hl hb.2
    rw [he (p + 1) _ hp2 (by omega)]
    refine PR.zcv fun a q1 hq1 => ?_
    have g1 := le _ _ _ _ hq1 hp2
    refine PR.zcv fun _ q2 hq2 => ?_
    have g2 := za1 hl _ hq2 g1.2
    rw [he q2 _ g2.2 (by omega)]
    refine PR.zcv fun b q3 hq3 => ?_
    have g3 := le _ _ _ _ hq3 g2.2
    refine PR.zcv fun _ q4 hq4 => ?_
    have g4 := za1 hl _ hq4 g3.2
    rw [he q4 _ g4.2 (by omega)]
   ·split
    ·rename_i hb
     rw [he (p + 1) _ (zbf hl hb.2) (by omega)]
    ·rw [hpm p hp (by omega)]
  ·simp only [zaO]
   split
   ·rfl
   ·split
    ·rfl
    ·split
     ·rfl
     ·split
      ·rfl
      ·split
       ·rename_i hb
        have hp2 : p + 1 < l.length := hb.elim (zbf hl) (zbf hl)
        refine PR.zcv fun _ q1 hq1 => ?_
        have g1 := za1 hl _ hq1 hp2
        rw [he q1 _ g1.2 (by omega)]
        refine PR.zcv fun a q2 hq2 => ?_
        have g2 := le _ _ _ _ hq2 g1.2
        refine PR.zcv fun _ q3 hq3 => ?_
        have g3 := za1 hl _ hq3 g2.2
        rw [he q3 _ g3.2 (by omega)]
       ·split
        ·rename_i hb
         rw [he (p + 1) _ (zbf hl hb) (by omega)]
        ·rfl
theorem zjW {l : List Tok} (hl : TokOK l) {p f : Nat} {form : Int} (hp : p < l.length) (hf : 4 * (l.length - p) + 3 ≤ f) : ∀ g, zc6 l (f + g) p form = zc6 l f p form
 | 0 => rfl
 | g + 1 => by rw [← Nat.add_assoc, (zls hl (f + g)).1 p form hp (by omega), zjW hl hp hf g]
theorem Ev.fuel {l : List Tok} (hl : TokOK l) {p f : Nat} {form : Int} {r : PR Exp} (h : Ev (fun f => zc6 l f p form) r) (hp : p < l.length) (hf : 4 * (l.length - p) + 3 ≤ f) : zc6 l f p form = r := by
 obtain ⟨f0, h⟩ := h
 rw [← zjW hl hp hf f0]
 exact h (f + f0) (by omega)
end Go.Proofs.YthnemhfamhnfjaaGreatDoor
namespace Go.Proofs.YthnemhfamhnfjaaGreatDoor
open Go Go.VL
theorem zho {a b c : Exp} : za3 (.mk 13 0 0 [] [a, b, c]) = [105, 102] :: (zaP a 0 ++ [116, 104, 101, 110] :: (zaP b 0 ++ [101, 108, 115, 101] :: zaP c 0)) := by
 rw [za3, zcV, if_neg (by decide), if_neg (by decide), if_pos rfl, zbX (a := a) rfl, zbX (a := b) rfl, zbX (a := c) rfl]
 simp
theorem zfD {a : Exp} : za3 (.mk 12 0 0 [] [a]) = [110, 111, 116] :: zaP a 3 := by
 rw [za3, zcV, if_neg (by decide), if_neg (by decide), if_neg (by decide), if_pos rfl, zbX (a := a) rfl]
theorem zfE {a b : Exp} : za3 (.mk 6 0 0 [] [a, b]) = [109, 105, 110] :: [40] :: (zaP a 0 ++ [44] :: (zaP b 0 ++ [[41]])) := by
 rw [za3, zcV, if_neg (by decide), if_neg (by decide), if_neg (by decide), if_neg (by decide), if_pos rfl, zbX (a := a) rfl, zbX (a := b) rfl]; simp
theorem zfF {a b : Exp} : za3 (.mk 7 0 0 [] [a, b]) = [109, 97, 120] :: [40] :: (zaP a 0 ++ [44] :: (zaP b 0 ++ [[41]])) := by
 rw [za3, zcV, if_neg (by decide), if_neg (by decide), if_neg (by decide), if_neg (by decide), if_neg (by decide), if_pos rfl, zbX (a := a) rfl, zbX (a := b) rfl]; simp
theorem zfC {a b : Exp} {o : Opr} (ho : o ∈ oprs) : za3 (.mk o.op 0 0 [] [a, b]) = zaP a (if o.form = 4 then 5 else o.form) ++ o.text :: zaP b (o.form + 1) := by
 have hfind : oprs.find? (fun x => decide (x.op = o.op)) = some o := by
  simp only [oprs, List.mem_cons, List.mem_nil_iff, or_false] at ho
  rcases ho with rfl | rfl | rfl | rfl | rfl | rfl | rfl | rfl <;> rfl
 have hne : o.op ≠ 0 ∧ o.op ≠ 1 ∧ o.op ≠ 13 ∧ o.op ≠ 12 ∧ o.op ≠ 6 ∧ o.op ≠ 7 := by
  simp only [oprs, List.mem_cons, List.mem_nil_iff, or_false] at ho
  rcases ho with rfl | rfl | rfl | rfl | rfl | rfl | rfl | rfl <;> decide
 obtain ⟨n0, n1, n13, n12, n6, n7⟩ := hne
 rw [za3, zcV, if_neg n0, if_neg n1, if_neg n13, if_neg n12, if_neg n6, if_neg n7, hfind]
 simp only
 rw [zbX (a := a) rfl, zbX (a := b) rfl]
theorem zoM {o : Opr} (ho : o ∈ oprs) : GoodW o.text := by
 simp only [oprs, List.mem_cons, List.mem_nil_iff, or_false] at ho
 rcases ho with rfl | rfl | rfl | rfl | rfl | rfl | rfl | rfl
 ·exact zaG (by decide)
 ·exact zaG (by decide)
 all_goals exact zd7 (by decide)
def AllGood (ws : List W8) : Prop := ∀ w ∈ ws, GoodW w
theorem AllGood.nil : AllGood [] := fun _ h => by cases h
theorem AllGood.cons {w : W8} {ws : List W8} (h : GoodW w) (h2 : AllGood ws) : AllGood (w :: ws) := fun x hx => by
 rcases List.mem_cons.1 hx with rfl | hx
 ·exact h
 ·exact h2 x hx
theorem AllGood.app {a b : List W8} (h : AllGood a) (h2 : AllGood b) : AllGood (a ++ b) := fun x hx => by
 rcases List.mem_append.1 hx with hx | hx
 ·exact h x hx
 ·exact h2 x hx
theorem zbL : GoodW [40] ∧ GoodW [41] ∧ GoodW [44] ∧ GoodW [59] ∧ GoodW [61] := ⟨zd7 (by decide), zd7 (by decide), zd7 (by decide), zd7 (by decide), zd7 (by decide)⟩
theorem zni {e : Exp} (h : AllGood (za3 e)) (least : Int) : AllGood (zaP e least) := by
 rw [zaP, zor]
 split
 ·exact (h.app (AllGood.cons zbL.2.1 AllGood.nil)).cons zbL.1
 ·exact h
theorem zl9 {n u : Int} (h : zoP (.mk 0 n u [] []) = true) : AllGood (zdv n u) := by
 obtain ⟨hu0, hu1, hn0, hn2, hn1⟩ := zgY h
 rw [zdv]
 split
 ·refine AllGood.cons ?_ AllGood.nil
  split <;> exact zaG (by decide)
 ·refine AllGood.cons (zlq hn0 hn2) ?_
  split
  ·exact AllGood.cons (zaG (by decide)) AllGood.nil
  ·split
   ·exact AllGood.cons (zaG (by decide)) AllGood.nil
   ·split
    ·exact AllGood.cons (zaG (by decide)) (AllGood.cons (zaG (by decide)) AllGood.nil)
    ·exact AllGood.nil
theorem zgO : ∀ (d : Nat) (e : Exp), zaE d e = true → ∀ least, AllGood (zaP e least)
 | 0, e, h => by rw [zaE] at h; cases h
 | d + 1, .mk op n u s args, h => by
  intro least
  refine zni ?_ least
  rcases zcl h with ⟨rfl, rfl, rfl, hn⟩ | ⟨rfl, rfl, rfl, rfl, hn⟩ | ⟨rfl, rfl, rfl, ha, h3⟩
  ·have hb : za3 (.mk 0 n u [] []) = zdv n u := by rw [za3, zcV, if_pos rfl]
   rw [hb]; exact zl9 hn
  ·have hb : za3 (.mk 1 0 0 s []) = [s] := by rw [za3, zcV, if_neg (by decide), if_pos rfl]
   rw [hb]
   refine AllGood.cons (zaG ?_) AllGood.nil
   rw [zbD, Bool.and_eq_true] at hn
   exact hn.1
  ·have hm : ∀ x ∈ args, ∀ least, AllGood (zaP x least) := fun x hx => zgO d x (ha x hx)
   rcases h3 with ⟨rfl, hl⟩ | ⟨rfl, hl⟩ | ⟨g0, g1, g12, g13, g2, g3, hl⟩
   ·obtain ⟨a, rfl⟩ := zkM hl
    rw [zfD]
    exact (hm a (by simp) 3).cons (zaG (by decide))
   ·obtain ⟨a, b, c, rfl⟩ := zkK hl
    rw [zho]
    exact ((hm a (by simp) 0).app (((hm b (by simp) 0).app ((hm c (by simp) 0).cons (zaG (by decide)))).cons (zaG (by decide)))).cons (zaG (by decide))
   ·obtain ⟨a, b, rfl⟩ := zkL hl
    have hab := ((hm a (by simp) 0).app (((hm b (by simp) 0).app (AllGood.cons zbL.2.1 AllGood.nil)).cons zbL.2.2.1)).cons zbL.1
    by_cases h6 : op = 6
    ·subst h6
     rw [zfE]
     exact hab.cons (zaG (by decide))
    ·by_cases h7 : op = 7
     ·subst h7
      rw [zfF]
      exact hab.cons (zaG (by decide))
     ·obtain ⟨o, ho, rfl⟩ := zgX (op := op) (by omega) (by omega) h6 h7
      rw [zfC ho]
      exact (hm a (by simp) _).app ((hm b (by simp) _).cons (zoM ho))
end Go.Proofs.YthnemhfamhnfjaaGreatDoor
namespace Go.Proofs.YthnemhfamhnfjaaGreatDoor
open Go Go.VL
theorem zoz {l : List (W8 × W8)} {ts : List Tok} (h1 : ts.length = l.length + 1) (h2 : ∃ t, ts[l.length]? = some t ∧ t.kind = 0) (h3 : l.length ≤ 2000) : TokOK ts := by
 obtain ⟨t, ht, hk⟩ := h2
 refine ⟨fun i x hx hne => ?_, by omega⟩
 have hi := (List.getElem?_eq_some_iff.1 hx).1
 by_cases he : i = l.length
 ·subst he
  rw [ht] at hx
  cases hx
  exact absurd hk hne
 ·omega
theorem zpd {ts : List Tok} {q : Nat} {t : Tok} (h : ts[q]? = some t) (hk : t.kind = 0) : (∀ v, isB ts q v = false) ∧ zeX ts q = none := by
 have h1 : ∀ v, isB ts q v = false := fun v => by simp [isB, h, hk]
 exact ⟨h1, by simp [zeX, h1]⟩
/-- Words with one blank between them. -/
def spW : List W8 → List (W8 × W8)
 | [] => []
 | [w] => [(w, [])]
 | w :: v :: l => (w, [32]) :: spW (v :: l)
/-- The text of words: with one blank between them. -/
def zbC (ws : List W8) : W8 := zbJ (spW ws)
theorem zaV (w v : W8) (l : List W8) : zbC (w :: v :: l) = w ++ [32] ++ zbC (v :: l) := by simp [zbC, spW, zbJ]
theorem zcP : ∀ (a b : List W8), a ≠ [] → b ≠ [] → zbC (a ++ b) = zbC a ++ [32] ++ zbC b
 | [], b, h, _ => absurd rfl h
 | [w], b, _, hb => by
  cases b with
  | nil => exact absurd rfl hb
  | cons v l => rw [List.singleton_append, zaV]; simp [zbC, spW, zbJ]
 | w :: v :: l, b, _, hb => by
  have := zcP (v :: l) b (by simp) hb
  rw [List.cons_append, List.cons_append, zaV, zaV, ← List.cons_append, this]
  simp
end Go.Proofs.YthnemhfamhnfjaaGreatDoor
namespace Go.Proofs.YthnemhfamhnfjaaGreatDoor
open Go Go.VL
attribute [local simp] HS zcR zb0 evPure opd uOf zaH St.put St.at getK binD binI binS binB nilD aggD zgp zhi lookD lookR zcm Go.VL.nextD zcq zhv zhu zfX zcs mkV zdb zbj zbr mapEff zd1 zfM Key.kk shiftI arith unD convD zdH loadD cellsAt fieldAddrD fieldD indexAddrD indexD sliceD cutD lenD minmaxD nilCheckD buildD fillD zbH zcW zes setAll zcE zeJ zch zgC zcd St.add zaM zbB rowsOf zdw zcA zak zac zaa zba zcz zaR entry zbo zbq valD zb5 zcu zgh zc8 zda zbO zbG zau za2 zbm delAll effD St.effS zcM za6 zaY zcN za7 za0 zbY zaZ zaS zbZ zcH zbv zbV zbi zbT zbU zaJ mkD zbI zbs zbF zau zcf D.ids Op.operands Call.operands zbx makeIfD makeFuncD typeAssertD zhh zds zdt zgK zcn IntKind.bits zcG List.take_of_length_le List.range_succ
attribute [local irreducible] V G H HD HD2 HD4 zkk RetX zao Eff CallP CallV EndOK Fun Ret FinOK LoopI LoopW EndW
abbrev zer (e : Exp) : D := .u (.agg e.row)
abbrev ziD (n : Int) : D := .u (.int .i64 n)
theorem zaB {i nx : Nat} (h : i < nx) : ¬ i = nx ∧ ¬ nx = i ∧ (∀ k, ¬ i = nx + k) ∧ ∀ k, ¬ nx + k = i := ⟨by omega, by omega, fun k => by omega, fun k => by omega⟩
theorem zov (l : List Tok) (p : Nat) (i nx : Nat) (hi : i < nx) (hp : p < l.length) (hl : TokOK l) :
  RetX Tryz.prog 143 [.ptr i 0] [(i, pOb l p)] nx (PPost l i nx ziD (zgJ l p)) := by
 have hne := zaB hi
 have hh1 := fun nx' (h : nx ≤ nx') => zbg l p [99, 111, 105, 110, 115] i nx' (by omega) hp hl.len
 have hh2 := fun nx' (h : nx ≤ nx') => zbg l p [100, 97, 121, 115] i nx' (by omega) hp hl.len
 have hh3 := fun nx' (h : nx ≤ nx') => zbg l p [112, 101, 114] i nx' (by omega) hp hl.len
 unfold zgJ
 by_cases h1 : isB l p [99, 111, 105, 110, 115] = true
 ·simp only [h1, if_true] at hh1 ⊢
  (refine RetX.of_bodyW Tryz.func143 rfl (by simp) fun Γ hn hpan => ?_); simp only [entry, List.zipIdx_cons, List.zipIdx_nil, List.map_cons, List.map_nil, Nat.zero_add, Tryz.ntmps143]
  repeat' (first
  | (refine zaf ?_; simp [hne])
  | (refine zal ?_; simp [hne])
  | (refine zah ?_; simp [hne])
  | (refine zai ?_; simp [hne])
  | (refine zar ?_; simp only [zao])
  | (refine CallP.ok1 (hh1 _ (by first | omega | (simp; done) | (simp; omega) | fail)) (by first | (simp [hne, zaa, getK, zab, zac]; done) | fail) (by rfl) (by rfl) ?_; (try simp [hne]))
  | fail)
  (refine EndW.here ?_; (first | (refine EndOK.fin (.inr rfl) ?_) | (refine EndOK.fin (.inl rfl) ?_)); simp [zaL, zag, Tryz.results143]; refine FinOK.here (by simp) ?_; try simp)
  exact PPost.zcw rfl rfl (by first | rfl | simp [del])
 ·simp only [h1, Bool.false_eq_true, if_false] at hh1 ⊢
  by_cases h2 : isB l p [100, 97, 121, 115] = true
  ·simp only [h2, if_true] at hh2 ⊢
   (refine RetX.of_bodyW Tryz.func143 rfl (by simp) fun Γ hn hpan => ?_); simp only [entry, List.zipIdx_cons, List.zipIdx_nil, List.map_cons, List.map_nil, Nat.zero_add, Tryz.ntmps143]
   repeat' (first
  | (refine zaf ?_; simp [hne])
  | (refine zal ?_; simp [hne])
  | (refine zah ?_; simp [hne])
  | (refine zai ?_; simp [hne])
  | (refine zar ?_; simp only [zao])
  | (refine CallP.ok1 (hh1 _ (by first | omega | (simp; done) | (simp; omega) | fail)) (by first | (simp [hne, zaa, getK, zab, zac]; done) | fail) (by rfl) (by rfl) ?_; (try simp [hne]))
  | (refine CallP.ok1 (hh2 _ (by first | omega | (simp; done) | (simp; omega) | fail)) (by first | (simp [hne, zaa, getK, zab, zac]; done) | fail) (by rfl) (by rfl) ?_; (try simp [hne]))
  | fail)
   (refine EndW.here ?_; (first | (refine EndOK.fin (.inr rfl) ?_) | (refine EndOK.fin (.inl rfl) ?_)); simp [zaL, zag, Tryz.results143]; refine FinOK.here (by simp) ?_; try simp)
   exact PPost.zcw rfl rfl (by first | rfl | simp [del])
  ·simp only [h2, Bool.false_eq_true, if_false] at hh2 ⊢
   by_cases h3 : isB l p [112, 101, 114] = true
   ·simp only [h3, if_true] at hh3 ⊢
    have hw := fun nx' (h : nx ≤ nx') => zid l (p + 1) [[109, 105, 108, 108, 101]] i nx' (by omega) (zbf hl h3) hl (by simp)
    cases hr : zbu l (p + 1) [[109, 105, 108, 108, 101]] with
    | ok a q =>
     simp only [hr, List.map_cons, List.map_nil] at hw
     (refine RetX.of_bodyW Tryz.func143 rfl (by simp) fun Γ hn hpan => ?_); simp only [entry, List.zipIdx_cons, List.zipIdx_nil, List.map_cons, List.map_nil, Nat.zero_add, Tryz.ntmps143]
     repeat' (first
  | (refine zaf ?_; simp [hne])
  | (refine zal ?_; simp [hne])
  | (refine zah ?_; simp [hne])
  | (refine zai ?_; simp [hne])
  | (refine zar ?_; simp only [zao])
  | (refine CallP.ok1 (hh1 _ (by first | omega | (simp; done) | (simp; omega) | fail)) (by first | (simp [hne, zaa, getK, zab, zac]; done) | fail) (by rfl) (by rfl) ?_; (try simp [hne]))
  | (refine CallP.ok1 (hh2 _ (by first | omega | (simp; done) | (simp; omega) | fail)) (by first | (simp [hne, zaa, getK, zab, zac]; done) | fail) (by rfl) (by rfl) ?_; (try simp [hne]))
  | (refine CallP.ok1 (hh3 _ (by first | omega | (simp; done) | (simp; omega) | fail)) (by first | (simp [hne, zaa, getK, zab, zac]; done) | fail) (by rfl) (by rfl) ?_; (try simp [hne]))
  | (refine CallP.ok1 (hw _ (by first | omega | (simp; done) | (simp; omega) | fail)) (by first | (simp [hne, zaa, getK, zab, zac]; done) | fail) (by rfl) (by rfl) ?_; (try simp [hne]))
  | (refine zaq (by first | rfl | fail) ?_; simp [hne, frzN, frz1, zay, zax, St.frz, St.frzS, frzS, fv, zaz, za5, za8, zaF, zat, zaj, del, frz, za9])
  | fail)
     (refine EndW.wk { n := _, env := [(2, ziD 4)], obs := [(i, pOb l q)], next := nx } (Wk.cut rfl (by simp [hn]) (by simp [wkO, zaa, getK, zab, zac, Ob.under, D.under, zad, zae, hne, hi]) (by simp [wkU, zan, zaa, getK, D.under, hne, hi]) (by simp [wkE, zan, zaa, getK, hne, hi])) (EndW.here ?_); (first | (refine EndOK.fin (.inr rfl) ?_) | (refine EndOK.fin (.inl rfl) ?_)); simp [zaL, zag, Tryz.results143]; refine FinOK.here (by simp) ?_; try simp)
     exact PPost.zcw rfl rfl (by first | rfl | simp [del])
    | stop pos e =>
     simp only [hr, List.map_cons, List.map_nil] at hw
     (refine RetX.of_bodyW Tryz.func143 rfl (by simp) fun Γ hn hpan => ?_); simp only [entry, List.zipIdx_cons, List.zipIdx_nil, List.map_cons, List.map_nil, Nat.zero_add, Tryz.ntmps143]
     repeat' (first
  | (refine zaf ?_; simp [hne])
  | (refine zal ?_; simp [hne])
  | (refine zah ?_; simp [hne])
  | (refine zai ?_; simp [hne])
  | (refine CallP.ok1 (hh1 _ (by first | omega | (simp; done) | (simp; omega) | fail)) (by first | (simp [hne, zaa, getK, zab, zac]; done) | fail) (by rfl) (by rfl) ?_; (try simp [hne]))
  | (refine CallP.ok1 (hh2 _ (by first | omega | (simp; done) | (simp; omega) | fail)) (by first | (simp [hne, zaa, getK, zab, zac]; done) | fail) (by rfl) (by rfl) ?_; (try simp [hne]))
  | (refine CallP.ok1 (hh3 _ (by first | omega | (simp; done) | (simp; omega) | fail)) (by first | (simp [hne, zaa, getK, zab, zac]; done) | fail) (by rfl) (by rfl) ?_; (try simp [hne]))
  | (refine CallP.zeb (hw _ (by first | omega | (simp; done) | (simp; omega) | fail)) (by first | (simp [hne, zaa, getK, zab, zac]; done) | fail) (by rfl) (by first | assumption | (simp; done) | fail) (by rfl) (by simp) ?_; rintro ob' ⟨q', rfl⟩; refine ⟨_, Wk.refl _, ?_⟩)
  | (refine zaq (by first | rfl | fail) ?_; simp [hne, frzN, frz1, zay, zax, St.frz, St.frzS, frzS, fv, zaz, za5, za8, zaF, zat, zaj, del, frz, za9])
  | fail)
     (refine hpan _ _ ⟨{ n := _, env := [], obs := [(i, pOb l q')], next := nx }, (Wk.cut rfl (by simp [hn]) (by simp [wkO, zaa, getK, zab, zac, Ob.under, D.under, zad, zae, hi, zab, zac, zaa, getK]) (by simp [wkU, zan, zaa, getK, D.under, hi, zab, zac, zaa, getK]) (by simp [wkE, zan, zaa, getK, hi, zab, zac, zaa, getK])), by simp [hn], ?_⟩; try simp)
     exact PPost.zaw rfl
   ·simp only [h3, Bool.false_eq_true, if_false] at hh3 ⊢
    (refine RetX.of_bodyW Tryz.func143 rfl (by simp) fun Γ hn hpan => ?_); simp only [entry, List.zipIdx_cons, List.zipIdx_nil, List.map_cons, List.map_nil, Nat.zero_add, Tryz.ntmps143]
    repeat' (first
  | (refine zaf ?_; simp [hne])
  | (refine zal ?_; simp [hne])
  | (refine zah ?_; simp [hne])
  | (refine zai ?_; simp [hne])
  | (refine zar ?_; simp only [zao])
  | (refine zap ?_; simp only [zao])
  | (refine CallP.ok1 (hh1 _ (by first | omega | (simp; done) | (simp; omega) | fail)) (by first | (simp [hne, zaa, getK, zab, zac]; done) | fail) (by rfl) (by rfl) ?_; (try simp [hne]))
  | (refine CallP.ok1 (hh2 _ (by first | omega | (simp; done) | (simp; omega) | fail)) (by first | (simp [hne, zaa, getK, zab, zac]; done) | fail) (by rfl) (by rfl) ?_; (try simp [hne]))
  | (refine CallP.ok1 (hh3 _ (by first | omega | (simp; done) | (simp; omega) | fail)) (by first | (simp [hne, zaa, getK, zab, zac]; done) | fail) (by rfl) (by rfl) ?_; (try simp [hne]))
  | fail)
    (refine EndW.here ?_; (first | (refine EndOK.fin (.inr rfl) ?_) | (refine EndOK.fin (.inl rfl) ?_)); simp [zaL, zag, Tryz.results143]; refine FinOK.here (by simp) ?_; try simp)
    exact PPost.zcw rfl rfl (by first | rfl | simp [del])
end Go.Proofs.YthnemhfamhnfjaaGreatDoor
namespace Go.Proofs.YthnemhfamhnfjaaGreatDoor
open Go Go.VL Go.Shelf Go.RowKit
theorem zoy {k : Kr} {d e : D} {vs : Array Value} (h : RepL k [d, e] vs) : ∃ v u, vs = #[v, u] ∧ Rep k d v ∧ Rep k e u := by
 obtain ⟨h1, h2⟩ := h
 have hs : vs.size = 2 := by simpa using h1
 refine ⟨vs.getD 0 undef, vs.getD 1 undef, ?_, h2 0 d rfl, h2 1 e rfl⟩
 apply Array.ext_getElem?
 intro i
 match i with
 | 0 => simp [show 0 < vs.size by omega]
 | 1 => simp [show 1 < vs.size by omega]
 | i + 2 => rw [Array.getElem?_eq_none (by omega), Array.getElem?_eq_none (by simp)]
theorem zlW {k : Kr} {rows : List (List U)} {v : Value} (h : Rep k (.u (.sl rows)) v) : (rows = [] ∧ ∃ a c, v = .slice a 0 c) ∨ ∃ (b o sz c : Nat) (f : Nat → Nat → Value), v = .slice (some ⟨b, o, none⟩) rows.length c ∧ rows.length ≤ c ∧ (∀ r ∈ rows, r.length = sz) ∧
  (∀ i, i < rows.length → ∀ j, j < sz → k.mem b (o + i * sz + j) = some (.val (f i j))) ∧ ∀ i r, rows[i]? = some r → ∀ j u, r[j]? = some u → RepU k.mem u (f i j) := by
 cases h with
 | u _ _ h => cases h with
  | slE a c _ => exact .inl ⟨rfl, a, c, rfl⟩
  | sl _ b o sz c f hc hx hsz hm hr => exact .inr ⟨b, o, sz, c, f, rfl, hc, hsz, hm, hr⟩
theorem zo8 (ws : List W8) : zbC ws = Lib.join ws [32] := by
 induction ws with
 | nil => rfl
 | cons w l ih =>
  cases l with
  | nil => simp [zbC, spW, zbJ, Lib.join_one]
  | cons v l => rw [zaV, ih, Lib.join_cons, Lib.join_cons]; simp [Lib.joinTail]
theorem zln (ws : List W8) (hlen : (zbC ws).length ≤ 140737488355328) (hN : ws.length ≤ 140737488355328) : Fun Tryz.prog 54 [.u (.sl (ws.map fun w => [.str w])), .u (.str [32])] (· = .u (.str (zbC ws))) :=
 Fun.zop fun k own w vs hsat hrep => by
  obtain ⟨v, u, rfl, hv, hu⟩ := zoy hrep
  have hu := zet hu
  subst hu
  have hsep : ([32] : List UInt8) = (⟨([32] : List UInt8).toArray⟩ : ByteArray).data.toList := rfl
  have none : ∀ a c, ws = [] → v = .slice a 0 c → ∃ v', RepU k.mem (.str (zbC ws)) v' ∧ Calls Tryz.prog 54 #[v, .string ⟨([32] : List UInt8).toArray⟩] w fun e w' => e = .returned v' ∧ Below w.heap.size w w' := fun a c hw hv => by
   subst hv; subst hw
   exact ⟨.string ⟨#[]⟩, .str [], (Tryz.strings_Join_none a c _ w).mono fun e w' ⟨h1, h2⟩ => ⟨h1, h2 ▸ Below.refl _ _⟩⟩
  rcases zlW hv with ⟨he, a, c, rfl⟩ | ⟨b, o, sz, c, f, rfl, hc, hsz, hm, hrr⟩
  ·exact none a c (by simpa using he) rfl
  rw [List.length_map] at hc hm hv none ⊢
  by_cases hw : ws = []
  ·have h0 : ws.length = 0 := by rw [hw]; rfl
   rw [h0] at none ⊢
   exact none _ c hw rfl
  obtain ⟨w0, r0, e0⟩ : ∃ w0 r0, ws = w0 :: r0 := by cases ws with | nil => exact absurd rfl hw | cons a l => exact ⟨a, l, rfl⟩
  have hs1 : sz = 1 := by
   have := hsz [U.str w0] (by rw [e0]; simp)
   simpa using this.symm
  subst hs1
  have hcell : ∀ (j : Nat) x, (ws.map fun w => (⟨w.toArray⟩ : ByteArray))[j]? = some x → w.cell? ⟨b, o + j, Option.none⟩ = some (.string x) := fun j x hj => by
   rw [List.getElem?_map] at hj
   cases hwj : ws[j]? with
   | none => rw [hwj] at hj; cases hj
   | some y =>
    rw [hwj] at hj
    cases hj
    have hjl := (List.getElem?_eq_some_iff.1 hwj).1
    have h1 := hm j hjl 0 Nat.one_pos
    have h2 := hrr j [U.str y] (by simp [hwj]) 0 _ rfl
    have h3 : f j 0 = .string ⟨y.toArray⟩ := (fun z (hz : RepU k.mem (U.str y) z) => by cases hz; rfl : ∀ z, RepU k.mem (U.str y) z → z = .string ⟨y.toArray⟩) _ h2
    have h4 := hsat.cell h1
    rw [h3] at h4
    simpa using h4
  have hlt : b < w.heap.size := hsat.memLt (hm 0 (by rw [e0]; simp) 0 Nat.one_pos)
  have hj := Tryz.strings_Join b o c (ws.map fun w => (⟨w.toArray⟩ : ByteArray)) ⟨([32] : List UInt8).toArray⟩ w hcell hlt (by rw [List.length_map]; exact hN) (by rw [List.length_map]; exact hc)
  have hmm : (ws.map fun w => (⟨w.toArray⟩ : ByteArray)).map (·.data.toList) = ws := by simp [Function.comp_def]
  rw [hmm, List.length_map] at hj
  rw [zo8] at hlen ⊢
  exact ⟨_, .str _, hj hlen⟩
theorem zoB {k : Kr} {own obs} {w : World} (h : Sat k own obs w) : Lib.TabIs Tryz.prog w "internal/strconv.uint64pow10" .u64 Lib.pow10Tab := by
 have he : globs.head! = (globs.head!.1, Lib.pow10Tab.map fun z => Value.int .u64 z) := rfl
 have hm : globs.head! ∈ globs := by unfold globs; exact List.mem_cons_self
 obtain ⟨h1, h2⟩ := k.glob _ hm
 rw [he] at h1 h2
 simp only [List.length_map, Lib.pow10Tab_length] at h1 h2
 obtain ⟨cs, t, fr, h3, h4⟩ := zoU (h.mem _ _ _ h2)
 have h5 : Tryz.prog.globalNamed "internal/strconv.uint64pow10" = some globs.head!.1 := by kernel_rfl
 unfold Lib.TabIs World.var?
 rw [h5, Option.bind_some, h3]
 simp only [Option.some.injEq]
 apply Array.ext_getElem?
 intro j
 by_cases hj : j < 20
 ·have h6 := h.cell (h1 j hj)
  have h7 : cs[j]? = some ((Lib.pow10Tab.map fun z => Value.int .u64 z).getD j undef) := by simpa [World.cell?, h3] using h6
  rw [h7]
  simp [List.getD, Lib.pow10Tab_length, hj]
 ·rw [Array.getElem?_eq_none (by omega), Array.getElem?_eq_none (by simp [Lib.pow10Tab_length]; omega)]
theorem zlo (n : Int) (h0 : -9223372036854775808 ≤ n) (h1 : n ≤ 9223372036854775807) : Fun Tryz.prog 56 [.u (.int .i64 n)] (· = .u (.str (Lib.itoa n))) :=
 Fun.zop fun k own w vs hsat hrep => by
  obtain ⟨v, rfl, hv⟩ := ziu hrep
  have hv := zbz hv
  subst hv
  refine ⟨_, .str _, (Tryz.strconv_Itoa n h0 h1 w (zoB hsat)).mono ?_⟩
  rintro e w' ⟨h1, q, os, rfl⟩
  refine ⟨h1, rfl, rfl, rfl, ?_, fun x hx => ?_⟩
  ·show w.heap.size ≤ (w.heap ++ os).size
   simp
  ·show (w.heap ++ os)[x]? = w.heap[x]?
   rw [Array.getElem?_append_left hx]
attribute [local simp] HS zcR zb0 evPure opd uOf zaH St.put St.at getK binD binI binS binB nilD aggD zgp zhi lookD lookR zcm Go.VL.nextD zcq zhv zhu zfX zcs mkV zdb zbj zbr mapEff zd1 zfM Key.kk shiftI arith unD convD zdH loadD cellsAt fieldAddrD fieldD indexAddrD indexD sliceD cutD lenD minmaxD nilCheckD buildD fillD zbH zcW zes setAll zcE zeJ zch zgC zcd St.add zaM zbB rowsOf zdw zcA zak zac zaa zba zcz zaR entry zbo zbq valD zb5 zcu zgh zc8 zda zbO zbG zau za2 zbm delAll effD St.effS zcM za6 zaY zcN za7 za0 zbY zaZ zaS zbZ zcH zbv zbV zbi zbT zbU zaJ mkD zbI zbs zbF zau zcf D.ids Op.operands Call.operands zbx makeIfD makeFuncD typeAssertD zhh zds zdt zgK zcn IntKind.bits zcG List.take_of_length_le List.range_succ
attribute [local irreducible] V G H HD HD2 HD4 zkk RetX zao Eff CallP CallV EndOK Fun Ret FinOK LoopI LoopW EndW
theorem zlE : zkS Tryz.prog 74 9 = some u8T := by kernel_rfl
theorem zlM (l s : W8) (i j nx : Nat) (hi : i < nx) (hj : j < nx) (hij : i ≠ j) (hlen : l.length + s.length ≤ 140737488355328) :
  RetX Tryz.prog 53 [.ptr i 0, .u (.str s)] [(i, .box [.ptr i 0, .vec j l.length]), (j, .vec u8T 1 (zcB l))] nx
   (fun r o n => r = .val (.tup [.u (.int .i64 s.length), .u (.oth .nilIface)]) ∧ o = [(i, .box [.ptr i 0, .vec nx (l.length + s.length)]), (nx, .vec u8T 1 (zcB (l ++ s)))] ∧ n = nx + 1) := by
 have hne := zaB hi
 have hne2 := zaB hj
 have hcp := fun nx' (h : nx ≤ nx') => zn5 i nx' (by omega) (.vec j l.length)
 have hbi := zlE
 have hca : zam Tryz.prog 108 = true := by kernel_rfl
 have hbl := zmH l
 rw [show zcB (l ++ s) = rowsD (zd9 l ++ zd9 s) by rw [zcB, zmI]]
 (refine RetX.of_bodyW Tryz.func53 rfl (by simp) fun Γ hn hpan => ?_); simp only [entry, List.zipIdx_cons, List.zipIdx_nil, List.map_cons, List.map_nil, Nat.zero_add, Tryz.ntmps53]
 repeat' (first
  | (refine zkj ?_; simp [zfH, hne, hne2, hij, Ne.symm hij, del, hbi, hbl, hlen])
  | (refine zaf ?_; simp [hne, hne2, hij, Ne.symm hij, del, hbi, hbl, hlen])
  | (refine zal ?_; simp [hne, hne2, hij, Ne.symm hij, del, hbi, hbl, hlen])
  | (refine zah ?_; simp [hne, hne2, hij, Ne.symm hij, del, hbi, hbl, hlen])
  | (refine zar ?_; simp only [zao])
  | (refine CallP.ok1 (hcp _ (by first | omega | (simp; done) | (simp; omega) | fail)) (by first | (simp [hne, hne2, hij, Ne.symm hij, del, hbi, hbl, hlen, zaa, getK, zab, zac]; done) | fail) (by rfl) (by rfl) ⟨by first | assumption | (simp; done) | fail, by simp, ?_⟩; (try simp [hne, hne2, hij, Ne.symm hij, del, hbi, hbl, hlen]))
  | fail)
 (refine EndW.here ?_; (first | (refine EndOK.fin (.inr rfl) ?_) | (refine EndOK.fin (.inl rfl) ?_)); simp [zaL, zag, Tryz.results53, hne, hne2, hi, hj, hij, Ne.symm hij]; refine FinOK.cut [(i, .box [.ptr i 0, .vec nx (l.length + s.length)]), (nx, .vec u8T 1 (rowsD (zd9 l) ++ rowsD (zd9 s)))] (nx + 1) (by simp [zaa, getK, zab, zac, Ob.under, D.under, zad, zae, hne, hne2, hi, hj, hij, Ne.symm hij] <;> omega) (by simp [D.under]) (by simp [hn]) ?_; try simp)
theorem zmP (s : W8) (i nx : Nat) (hi : i < nx) (hlen : s.length ≤ 140737488355328) :
  RetX Tryz.prog 53 [.ptr i 0, .u (.str s)] [(i, .nw bT)] nx
   (fun r o n => r = .val (.tup [.u (.int .i64 s.length), .u (.oth .nilIface)]) ∧ o = [(i, .box [.ptr i 0, .vec (nx + 1) s.length]), (nx + 1, .vec u8T 1 (zcB s))] ∧ n = nx + 2) := by
 have hne := zaB hi
 have hcp := fun nx' (h : nx ≤ nx') => zph i nx' (by omega)
 have hbi := zlE
 have hca : zam Tryz.prog 108 = true := by kernel_rfl
 (refine RetX.of_bodyW Tryz.func53 rfl (by simp) fun Γ hn hpan => ?_); simp only [entry, List.zipIdx_cons, List.zipIdx_nil, List.map_cons, List.map_nil, Nat.zero_add, Tryz.ntmps53]
 repeat' (first
  | (refine zkj ?_; simp [zfH, hne, del, hbi, hlen])
  | (refine zaf ?_; simp [hne, del, hbi, hlen])
  | (refine zal ?_; simp [hne, del, hbi, hlen])
  | (refine zah ?_; simp [hne, del, hbi, hlen])
  | (refine zar ?_; simp only [zao])
  | (refine CallP.okL (hcp _ (by first | omega | (simp; done) | (simp; omega) | fail)) (by first | (simp [hne, del, hbi, hlen, zaa, getK, zab, zac, zak, zaJ, del]; done) | fail) (by rfl) (by rfl) ⟨by first | assumption | (simp; done) | fail, by simp, ?_⟩; (try simp [hne, del, hbi, hlen, zdf, del]))
  | fail)
 (refine EndW.here ?_; (first | (refine EndOK.fin (.inr rfl) ?_) | (refine EndOK.fin (.inl rfl) ?_)); simp [zaL, zag, Tryz.results53, hne, hi]; refine FinOK.cut [(i, .box [.ptr i 0, .vec (nx + 1) s.length]), (nx + 1, .vec u8T 1 (zcB s))] (nx + 2) (by simp [zaa, getK, zab, zac, Ob.under, D.under, zad, zae, hne, hi] <;> omega) (by simp [D.under]) (by simp [hn]) ?_; try simp)
def zbP (ws : List W8) : W8 := zbC ws ++ [32, 59, 10]
theorem znx (l : W8) (ws : List W8) (i j nx : Nat) (hi : i < nx) (hj : j < nx) (hij : i ≠ j) (hlen : l.length + (zbP ws).length ≤ 140737488355328) (hN : ws.length ≤ 140737488355328) :
  RetX Tryz.prog 52 [.u (.sl (ws.map fun w => [.str w])), .ptr i 0] [(i, .box [.ptr i 0, .vec j l.length]), (j, .vec u8T 1 (zcB l))] nx
   (fun r o n => r = .val (.tup []) ∧ o = [(i, .box [.ptr i 0, .vec nx (l ++ zbP ws).length]), (nx, .vec u8T 1 (zcB (l ++ zbP ws)))] ∧ n = nx + 1) := by
 have hne := zaB hi
 have hne2 := zaB hj
 have hjl : (zbC ws).length ≤ 140737488355328 := by simp only [zbP, List.length_append] at hlen; omega
 have hjn := zln ws hjl hN
 have hwr := fun nx' (h : nx ≤ nx') => zlM l (zbP ws) i j nx' (by omega) (by omega) hij hlen
 have hca : zam Tryz.prog 53 = true := by kernel_rfl
 rw [List.length_append]
 have hlt : zbC ws ++ [32, 59, 10] = zbP ws := rfl
 generalize zbP ws = T at *
 clear hlen
 (refine RetX.of_bodyW Tryz.func52 rfl (by simp) fun Γ hn hpan => ?_); simp only [entry, List.zipIdx_cons, List.zipIdx_nil, List.map_cons, List.map_nil, Nat.zero_add, Tryz.ntmps52]
 repeat' (first
  | (refine zaf ?_; simp [hne, hne2, hij, Ne.symm hij, del, hlt])
  | (refine zal ?_; simp [hne, hne2, hij, Ne.symm hij, del, hlt])
  | (refine ⟨by omega, ?_⟩)
  | (refine zaC ?_; simp [hne, hne2, hij, Ne.symm hij, del, hlt])
  | (refine CallP.fE (hjn) (by first | rfl | fail) (by first | (simp [hne, hne2, hij, Ne.symm hij, del, hlt]; done) | (simp [hne, hne2, hij, Ne.symm hij, del, hlt]; rfl) | fail) ⟨by first | assumption | (simp; done) | fail, by simp, ?_⟩; (try simp [hne, hne2, hij, Ne.symm hij, del, hlt]))
  | (refine CallP.okL (hwr _ (by first | omega | (simp; done) | (simp; omega) | fail)) (by first | (simp [hne, hne2, hij, Ne.symm hij, del, hlt, zaa, getK, zab, zac, zak, zaJ, del]; done) | fail) (by rfl) (by rfl) ⟨by first | assumption | (simp; done) | fail, by simp, ?_⟩; (try simp [hne, hne2, hij, Ne.symm hij, del, hlt, zdf, del]))
  | fail)
 (refine EndW.here ?_; (first | (refine EndOK.fin (.inr rfl) ?_) | (refine EndOK.fin (.inl rfl) ?_)); simp [zaL, zag, Tryz.results52, hne, hne2, hi, hj, hij, Ne.symm hij]; refine FinOK.cut [(i, .box [.ptr i 0, .vec nx (l.length + T.length)]), (nx, .vec u8T 1 (zcB (l ++ T)))] (nx + 1) (by simp [zaa, getK, zab, zac, Ob.under, D.under, zad, zae, hne, hne2, hi, hj, hij, Ne.symm hij] <;> omega) (by simp [D.under]) (by simp [hn]) ?_; try simp)
theorem zgy (ws : List W8) (i nx : Nat) (hi : i < nx) (hlen : (zbP ws).length ≤ 140737488355328) (hN : ws.length ≤ 140737488355328) :
  RetX Tryz.prog 52 [.u (.sl (ws.map fun w => [.str w])), .ptr i 0] [(i, .nw bT)] nx
   (fun r o n => r = .val (.tup []) ∧ o = [(i, .box [.ptr i 0, .vec (nx + 1) (zbP ws).length]), (nx + 1, .vec u8T 1 (zcB (zbP ws)))] ∧ n = nx + 2) := by
 have hne := zaB hi
 have hjl : (zbC ws).length ≤ 140737488355328 := by simp only [zbP, List.length_append] at hlen; omega
 have hjn := zln ws hjl hN
 have hwr := fun nx' (h : nx ≤ nx') => zmP (zbP ws) i nx' (by omega) hlen
 have hca : zam Tryz.prog 53 = true := by kernel_rfl
 have hlt : zbC ws ++ [32, 59, 10] = zbP ws := rfl
 generalize zbP ws = T at *
 clear hlen
 (refine RetX.of_bodyW Tryz.func52 rfl (by simp) fun Γ hn hpan => ?_); simp only [entry, List.zipIdx_cons, List.zipIdx_nil, List.map_cons, List.map_nil, Nat.zero_add, Tryz.ntmps52]
 repeat' (first
  | (refine zaf ?_; simp [hne, del, hlt])
  | (refine zal ?_; simp [hne, del, hlt])
  | (refine ⟨by omega, ?_⟩)
  | (refine zaC ?_; simp [hne, del, hlt])
  | (refine CallP.fE (hjn) (by first | rfl | fail) (by first | (simp [hne, del, hlt]; done) | (simp [hne, del, hlt]; rfl) | fail) ⟨by first | assumption | (simp; done) | fail, by simp, ?_⟩; (try simp [hne, del, hlt]))
  | (refine CallP.okL (hwr _ (by first | omega | (simp; done) | (simp; omega) | fail)) (by first | (simp [hne, del, hlt, zaa, getK, zab, zac, zak, zaJ, del]; done) | fail) (by rfl) (by rfl) ⟨by first | assumption | (simp; done) | fail, by simp, ?_⟩; (try simp [hne, del, hlt, zdf, del]))
  | fail)
 (refine EndW.here ?_; (first | (refine EndOK.fin (.inr rfl) ?_) | (refine EndOK.fin (.inl rfl) ?_)); simp [zaL, zag, Tryz.results52, hne, hi]; refine FinOK.cut [(i, .box [.ptr i 0, .vec (nx + 1) T.length]), (nx + 1, .vec u8T 1 (zcB T))] (nx + 2) (by simp [zaa, getK, zab, zac, Ob.under, D.under, zad, zae, hne, hi] <;> omega) (by simp [D.under]) (by simp [hn]) ?_; try simp)
end Go.Proofs.YthnemhfamhnfjaaGreatDoor
namespace Go.Proofs.YthnemhfamhnfjaaGreatDoor
open Go Go.VL
attribute [local simp] zcR zb0 evPure opd uOf zaH St.put St.at getK binD binI binS binB nilD aggD zgp zhi lookD lookR zcm Go.VL.nextD zcq zhv zhu zfX zcs mkV zdb zbj zbr mapEff zd1 zfM Key.kk shiftI arith unD convD zdH loadD cellsAt fieldAddrD fieldD indexAddrD indexD sliceD cutD lenD minmaxD nilCheckD buildD fillD zbH zcW zes setAll zcE zeJ zch zgC zcd St.add zaM zbB rowsOf zdw zcA zak zac zaa zba zcz zaR entry zbo zbq valD zb5 zcu zgh zc8 zda zbO zbG zau za2 zbm delAll effD St.effS zcM za6 zaY zcN za7 za0 zbY zaZ zaS zbZ zcH zbv zbV zbi zbT zbU zaJ mkD zbI zbs zbF zau zcf D.ids Op.operands Call.operands zbx makeIfD makeFuncD typeAssertD zhh zds zdt zgK zcn IntKind.bits zcG List.take_of_length_le List.range_succ
attribute [local irreducible] V G H HD HD2 zao Eff CallP CallV EndOK Fun Ret FinOK LoopI LoopW EndW
def zli (l : Let) : List U := [.str l.name, .int .i64 l.body.op, .int .i64 l.body.n, .int .i64 l.body.unit, .str l.body.s, .sl (l.body.args.map Exp.row)]
def znL (l : Let) : D := .u (.agg [.str l.name, .int .i64 l.body.op, .int .i64 l.body.n, .int .i64 l.body.unit, .str l.body.s, .sl (l.body.args.map Exp.row)])
def zfm (l : List Let) : U := .sl (l.map fun l => [.str l.name, .int .i64 l.body.op, .int .i64 l.body.n, .int .i64 l.body.unit, .str l.body.s, .sl (l.body.args.map Exp.row)])
theorem zms (l : List (Let)) (f : FuncId) (caps : List U) (p : Let → Bool) (hf : ∀ n ∈ l, Fun Tryz.prog f (znL n :: caps.map .u) (· = .u (.bool (p n)))) (hcl : zam Tryz.prog f = true)
  (hca : ∀ o, zcu o (caps.map .u) = some (caps.map .u, [])) : Fun Tryz.prog 120 [.u (zfm l), .fnc (.func f) (caps.map .u)] (· = .u (.int .i64 (zhB p l 0))) := by
 (refine Fun.of_body Tryz.func120 rfl (by simp) fun Γ hn => ?_); simp only [entry, List.zipIdx_cons, List.zipIdx_nil, List.map_cons, List.map_nil, Nat.zero_add, Tryz.ntmps120]
 simp only [zfm]
 refine ziV (x := 0) rfl fun hl => ?_
 simp at hl
 repeat' (first
  | (refine zaf ?_; simp)
  | (refine zal ?_; simp)
  | (refine zah ?_; simp)
  | (refine zaA ?_; simp)
  | fail)
 refine zcT (α := { i : Nat // i ≤ l.length ∧ ∀ c ∈ l.take i, p c = false }) [0, 1, 7] (fun i => [(8, .u (.int .i64 i.1))]) (fun i => l.length - i.1) ⟨0, by omega, by simp⟩ ?_ ?_
 ·exact (Wk.env rfl rfl rfl (by simp [wkE, St.lp, zan, zaa, getK] <;> (try (intros; simp_all; done)) <;> (try (intros; omega)) <;> (try grind)))
 rintro ⟨i, hi, hb⟩
 simp [St.lp, St.only, zan, zaa, getK]
 rcases hx : l[i]? with _ | n
 ·have hge : l.length ≤ i := by simpa using hx
  repeat' (first
  | (refine zaf ?_; simp [hx])
  | (refine zal ?_; simp [hx])
  | (refine ⟨by omega, ?_⟩)
  | (refine zah ?_; simp [hx])
  | (refine zar ?_; simp only [zao])
  | (refine zbR ?_; simp [zao])
  | (intro hc <;> (try (exfalso; omega)))
  | fail)
  (refine EndOK.val (.inr rfl) ?_; simp [zaL, zag, zas, Tryz.results120])
  rw [List.take_of_length_le hge] at hb
  exact (zfs hb).symm
 ·have hlt : i < l.length := (List.getElem?_eq_some_iff.1 hx).1
  have h1 := hf n (List.mem_of_getElem? hx)
  simp only [znL] at h1
  cases hp : p n
  ·rw [hp] at h1
   repeat' (first
  | (refine zaf ?_; simp [hx, hca])
  | (refine zal ?_; simp [hx, hca])
  | (refine ⟨by omega, ?_⟩)
  | (refine zah ?_; simp [hx, hca])
  | (refine zai ?_; simp [hx, hca])
  | (refine zaC ?_; simp [hx, hca])
  | (refine zap ?_; simp only [zao])
  | (refine ⟨?_, by omega⟩)
  | (intro hc <;> (try (exfalso; omega)))
  | (refine CallP.fE (h1) (by first | rfl | fail) (by first | (simp [hx, hca]; done) | (simp [hx, hca]; rfl) | fail) ?_; (try simp [hcl, hx, hca]))
  | fail)
   refine LoopW.next ⟨i + 1, by omega, zby hx hb hp⟩ (by simp; omega) ?_
   exact (Wk.env rfl rfl rfl (by simp [wkE, St.lp, zan, zaa, getK] <;> (try (intros; simp_all; done)) <;> (try (intros; omega)) <;> (try grind)))
  ·rw [hp] at h1
   repeat' (first
  | (refine zaf ?_; simp [hx, hca])
  | (refine zal ?_; simp [hx, hca])
  | (refine zah ?_; simp [hx, hca])
  | (refine zai ?_; simp [hx, hca])
  | (refine zar ?_; simp only [zao])
  | (refine zap ?_; simp only [zao])
  | (refine ⟨?_, by omega⟩)
  | (intro hc <;> (try (exfalso; omega)))
  | (refine CallP.fE (h1) (by first | rfl | fail) (by first | (simp [hx, hca]; done) | (simp [hx, hca]; rfl) | fail) ?_; (try simp [hcl, hx, hca]))
  | fail)
   (refine EndOK.val (.inr rfl) ?_; simp [zaL, zag, zas, Tryz.results120])
   rw [ziE hb hx hp]
   omega
theorem zfA (l : List (Let)) (f : FuncId) (caps : List U) (p : Let → Bool) (hf : ∀ n ∈ l, Fun Tryz.prog f (znL n :: caps.map .u) (· = .u (.bool (p n)))) (hcl : zam Tryz.prog f = true)
  (hca : ∀ o, zcu o (caps.map .u) = some (caps.map .u, [])) (hcb : ∀ o, zbG o (caps.map .u) = some (caps, [])) : Fun Tryz.prog 67 [.u (zfm l), .fnc (.func f) (caps.map .u)] (· = .u (.bool (l.any p))) := by
 have h1 := zms l f caps p hf hcl hca
 (refine Fun.of_body Tryz.func67 rfl (by simp) fun Γ hn => ?_); simp only [entry, List.zipIdx_cons, List.zipIdx_nil, List.map_cons, List.map_nil, Nat.zero_add, Tryz.ntmps67]
 simp only [zfm] at h1 ⊢
 repeat' (first
  | (refine zaf ?_; simp [hcb])
  | (refine zal ?_; simp [hcb])
  | (refine zah ?_; simp [hcb])
  | (refine zar ?_; simp only [zao])
  | (refine CallP.fE (h1) (by first | rfl | fail) (by first | (simp [hcb]; done) | (simp [hcb]; rfl) | fail) ?_; (try simp [hcl, hcb]))
  | fail)
 (refine EndOK.val (.inr rfl) ?_; simp [zaL, zag, zas, Tryz.results67])
 have h2 := ziF p l 0 (by omega)
 rw [Bool.eq_iff_iff]
 simpa using h2
def zq0 (n : Int) : D := .u (.int .i64 n)
def zqe (l : List Int) : U := .sl (l.map fun n => [.int .i64 n])
theorem zmt (l : List (Int)) (f : FuncId) (caps : List U) (p : Int → Bool) (hf : ∀ n ∈ l, Fun Tryz.prog f (zq0 n :: caps.map .u) (· = .u (.bool (p n)))) (hcl : zam Tryz.prog f = true)
  (hca : ∀ o, zcu o (caps.map .u) = some (caps.map .u, [])) : Fun Tryz.prog 140 [.u (zqe l), .fnc (.func f) (caps.map .u)] (· = .u (.int .i64 (zhB p l 0))) := by
 (refine Fun.of_body Tryz.func140 rfl (by simp) fun Γ hn => ?_); simp only [entry, List.zipIdx_cons, List.zipIdx_nil, List.map_cons, List.map_nil, Nat.zero_add, Tryz.ntmps140]
 simp only [zqe]
 refine ziV (x := 0) rfl fun hl => ?_
 simp at hl
 repeat' (first
  | (refine zaf ?_; simp)
  | (refine zal ?_; simp)
  | (refine zah ?_; simp)
  | (refine zaA ?_; simp)
  | fail)
 refine zcT (α := { i : Nat // i ≤ l.length ∧ ∀ c ∈ l.take i, p c = false }) [0, 1, 7] (fun i => [(8, .u (.int .i64 i.1))]) (fun i => l.length - i.1) ⟨0, by omega, by simp⟩ ?_ ?_
 ·exact (Wk.env rfl rfl rfl (by simp [wkE, St.lp, zan, zaa, getK] <;> (try (intros; simp_all; done)) <;> (try (intros; omega)) <;> (try grind)))
 rintro ⟨i, hi, hb⟩
 simp [St.lp, St.only, zan, zaa, getK]
 rcases hx : l[i]? with _ | n
 ·have hge : l.length ≤ i := by simpa using hx
  repeat' (first
  | (refine zaf ?_; simp [hx])
  | (refine zal ?_; simp [hx])
  | (refine ⟨by omega, ?_⟩)
  | (refine zah ?_; simp [hx])
  | (refine zar ?_; simp only [zao])
  | (refine zbR ?_; simp [zao])
  | (intro hc <;> (try (exfalso; omega)))
  | fail)
  (refine EndOK.val (.inr rfl) ?_; simp [zaL, zag, zas, Tryz.results140])
  rw [List.take_of_length_le hge] at hb
  exact (zfs hb).symm
 ·have hlt : i < l.length := (List.getElem?_eq_some_iff.1 hx).1
  have h1 := hf n (List.mem_of_getElem? hx)
  simp only [zq0] at h1
  cases hp : p n
  ·rw [hp] at h1
   repeat' (first
  | (refine zaf ?_; simp [hx, hca])
  | (refine zal ?_; simp [hx, hca])
  | (refine ⟨by omega, ?_⟩)
  | (refine zah ?_; simp [hx, hca])
  | (refine zai ?_; simp [hx, hca])
  | (refine zaC ?_; simp [hx, hca])
  | (refine zap ?_; simp only [zao])
  | (refine ⟨?_, by omega⟩)
  | (intro hc <;> (try (exfalso; omega)))
  | (refine CallP.fE (h1) (by first | rfl | fail) (by first | (simp [hx, hca]; done) | (simp [hx, hca]; rfl) | fail) ?_; (try simp [hcl, hx, hca]))
  | fail)
   refine LoopW.next ⟨i + 1, by omega, zby hx hb hp⟩ (by simp; omega) ?_
   exact (Wk.env rfl rfl rfl (by simp [wkE, St.lp, zan, zaa, getK] <;> (try (intros; simp_all; done)) <;> (try (intros; omega)) <;> (try grind)))
  ·rw [hp] at h1
   repeat' (first
  | (refine zaf ?_; simp [hx, hca])
  | (refine zal ?_; simp [hx, hca])
  | (refine zah ?_; simp [hx, hca])
  | (refine zai ?_; simp [hx, hca])
  | (refine zar ?_; simp only [zao])
  | (refine zap ?_; simp only [zao])
  | (refine ⟨?_, by omega⟩)
  | (intro hc <;> (try (exfalso; omega)))
  | (refine CallP.fE (h1) (by first | rfl | fail) (by first | (simp [hx, hca]; done) | (simp [hx, hca]; rfl) | fail) ?_; (try simp [hcl, hx, hca]))
  | fail)
   (refine EndOK.val (.inr rfl) ?_; simp [zaL, zag, zas, Tryz.results140])
   rw [ziE hb hx hp]
   omega
theorem ziP (l : List (Int)) (f : FuncId) (caps : List U) (p : Int → Bool) (hf : ∀ n ∈ l, Fun Tryz.prog f (zq0 n :: caps.map .u) (· = .u (.bool (p n)))) (hcl : zam Tryz.prog f = true)
  (hca : ∀ o, zcu o (caps.map .u) = some (caps.map .u, [])) (hcb : ∀ o, zbG o (caps.map .u) = some (caps, [])) : Fun Tryz.prog 118 [.u (zqe l), .fnc (.func f) (caps.map .u)] (· = .u (.bool (l.any p))) := by
 have h1 := zmt l f caps p hf hcl hca
 (refine Fun.of_body Tryz.func118 rfl (by simp) fun Γ hn => ?_); simp only [entry, List.zipIdx_cons, List.zipIdx_nil, List.map_cons, List.map_nil, Nat.zero_add, Tryz.ntmps118]
 simp only [zqe] at h1 ⊢
 repeat' (first
  | (refine zaf ?_; simp [hcb])
  | (refine zal ?_; simp [hcb])
  | (refine zah ?_; simp [hcb])
  | (refine zar ?_; simp only [zao])
  | (refine CallP.fE (h1) (by first | rfl | fail) (by first | (simp [hcb]; done) | (simp [hcb]; rfl) | fail) ?_; (try simp [hcl, hcb]))
  | fail)
 (refine EndOK.val (.inr rfl) ?_; simp [zaL, zag, zas, Tryz.results118])
 have h2 := ziF p l 0 (by omega)
 rw [Bool.eq_iff_iff]
 simpa using h2
def inB (lo hi : Int) (l : List Int) : Bool := !l.any fun n => decide (n < lo) || decide (hi < n)
theorem zqf (lo hi n : Int) : Fun Tryz.prog 119 (zq0 n :: [U.row [.int .i64 lo] 0, U.row [.int .i64 hi] 0].map .u) (· = .u (.bool (decide (n < lo) || decide (hi < n)))) := by
 simp only [zq0, List.map_cons, List.map_nil]
 (refine Fun.of_body Tryz.func119 rfl (by simp) fun Γ hn => ?_); simp only [entry, List.zipIdx_cons, List.zipIdx_nil, List.map_cons, List.map_nil, Nat.zero_add, Tryz.ntmps119]
 repeat' (first
  | (refine zaf ?_; simp)
  | (refine zal ?_; simp)
  | (refine zah ?_; simp)
  | (refine zar ?_; simp only [zao])
  | (refine ⟨fun hc => ?_, fun hc => ?_⟩ <;> (try (exfalso; omega)))
  | fail)
 all_goals
  (refine EndOK.val (.inr rfl) ?_; simp [zaL, zag, zas, Tryz.results119])
 all_goals grind
theorem zjR (lo hi : Int) (l : List Int) : Fun Tryz.prog 66 [.u (.int .i64 lo), .u (.int .i64 hi), .u (zqe l)] (· = .u (.bool (inB lo hi l))) := by
 have h1 := ziP l 119 [U.row [.int .i64 lo] 0, U.row [.int .i64 hi] 0] _ (fun n _ => zqf lo hi n) (by simp) (fun _ => rfl) (fun _ => rfl)
 simp only [List.map_cons, List.map_nil] at h1
 unfold inB
 (refine Fun.of_body Tryz.func66 rfl (by simp) fun Γ hn => ?_); simp only [entry, List.zipIdx_cons, List.zipIdx_nil, List.map_cons, List.map_nil, Nat.zero_add, Tryz.ntmps66]
 simp only [zqe] at h1 ⊢
 repeat' (first
  | (refine zaf ?_; simp)
  | (refine zal ?_; simp)
  | (refine zah ?_; simp)
  | (refine zar ?_; simp only [zao])
  | (refine CallP.fE (h1) (by first | rfl | fail) (by first | (simp; done) | (simp; rfl) | fail) ?_; (try simp))
  | fail)
 (refine EndOK.val (.inr rfl) ?_; simp [zaL, zag, zas, Tryz.results66])
theorem zlV (x l : Let) : Fun Tryz.prog 68 (znL x :: [U.row (zli l) 0].map .u) (· = .u (.bool (decide (x.name = l.name)))) := by
 simp only [znL, zli, List.map_cons, List.map_nil]
 (refine Fun.of_body Tryz.func68 rfl (by simp) fun Γ hn => ?_); simp only [entry, List.zipIdx_cons, List.zipIdx_nil, List.map_cons, List.map_nil, Nat.zero_add, Tryz.ntmps68]
 repeat' (first
  | (refine zaf ?_; simp)
  | (refine zal ?_; simp)
  | (refine zah ?_; simp)
  | (refine zar ?_; simp only [zao])
  | fail)
 (refine EndOK.val (.inr rfl) ?_; simp [zaL, zag, zas, Tryz.results68])
structure By where
 kind : Int
 period : Int
 grace : Int
 wait : Int
 last : Int
 order : Int
 sld : Bool
 backs : Int
 voices : Int
 jury : Int
 fund : Int
 lets : List Let
 due : Exp
 fine : Exp
 pay : Exp
 cover : Exp
 hold : Exp
 deriving Inhabited
def zbc (b : By) : List U := [.int .i64 b.kind, .int .i64 b.period, .int .i64 b.grace, .int .i64 b.wait, .int .i64 b.last, .int .i64 b.order, .bool b.sld, .int .i64 b.backs, .int .i64 b.voices, .int .i64 b.jury, .int .i64 b.fund,
 .sl (b.lets.map fun l => [.str l.name, .int .i64 l.body.op, .int .i64 l.body.n, .int .i64 l.body.unit, .str l.body.s, .sl (l.body.args.map Exp.row)]),
 .int .i64 b.due.op, .int .i64 b.due.n, .int .i64 b.due.unit, .str b.due.s, .sl (b.due.args.map Exp.row),
 .int .i64 b.fine.op, .int .i64 b.fine.n, .int .i64 b.fine.unit, .str b.fine.s, .sl (b.fine.args.map Exp.row),
 .int .i64 b.pay.op, .int .i64 b.pay.n, .int .i64 b.pay.unit, .str b.pay.s, .sl (b.pay.args.map Exp.row),
 .int .i64 b.cover.op, .int .i64 b.cover.n, .int .i64 b.cover.unit, .str b.cover.s, .sl (b.cover.args.map Exp.row),
 .int .i64 b.hold.op, .int .i64 b.hold.n, .int .i64 b.hold.unit, .str b.hold.s, .sl (b.hold.args.map Exp.row)]
def zmw (b : By) : Bool := inB 0 2 [b.kind] && inB 0 2 [b.order] && inB 1 1000 [b.period, b.last] && inB 0 1000 [b.grace, b.wait, b.voices, b.fund] && inB 0 60 [b.backs, b.jury]
def zfp (seen : List Let) : List Let → Bool
 | [] => true
 | l :: r => zbD l.name && zaE 12 l.body && !seen.any (fun x => decide (x.name = l.name)) && zfp (seen ++ [l]) r
theorem zoX {L : List Let} {i : Nat} {l : Let} (h : L[i]? = some l) : zfp (L.take i) (L.drop i) = (zbD l.name && zaE 12 l.body && !(L.take i).any (fun x => decide (x.name = l.name)) && zfp (L.take (i + 1)) (L.drop (i + 1))) := by
 obtain ⟨hi, rfl⟩ := List.getElem?_eq_some_iff.1 h
 rw [List.drop_eq_getElem_cons hi, zfp, List.take_succ_eq_append_getElem hi]
def zmB (b : By) : Bool := zaE 12 b.due && zaE 12 b.fine && zaE 12 b.pay && zaE 12 b.cover && zaE 12 b.hold
def zca (b : By) : Bool := zmw b && !(b.sld && decide (b.kind ≠ 1)) && decide (b.lets.length ≤ 20) && zfp [] b.lets && zmB b
set_option maxRecDepth 100000 in
set_option maxHeartbeats 4000000 in
theorem zdG (b : By) : Fun Tryz.prog 23 [.u (.agg (zbc b))] (· = .u (.bool (zca b))) := by
 have i1 := zjR 0 2 [b.kind]
 have i2 := zjR 0 2 [b.order]
 have i3 := zjR 1 1000 [b.period, b.last]
 have i4 := zjR 0 1000 [b.grace, b.wait, b.voices, b.fund]
 have i5 := zjR 0 60 [b.backs, b.jury]
 simp only [zqe, List.map_cons, List.map_nil] at i1 i2 i3 i4 i5
 have hr : ∀ e : Exp, Fun Tryz.prog 25 [.u (.agg [.int .i64 e.op, .int .i64 e.n, .int .i64 e.unit, .str e.s, .sl (e.args.map Exp.row)])] (· = .u (.bool (zaE 12 e))) := fun e => zdO e
 have e1 := hr b.due
 have e2 := hr b.fine
 have e3 := hr b.pay
 have e4 := hr b.cover
 have e5 := hr b.hold
 unfold zca zmw zmB
 generalize inB 0 2 [b.kind] = c1 at i1 ⊢
 generalize inB 0 2 [b.order] = c2 at i2 ⊢
 generalize inB 1 1000 [b.period, b.last] = c3 at i3 ⊢
 generalize inB 0 1000 [b.grace, b.wait, b.voices, b.fund] = c4 at i4 ⊢
 generalize inB 0 60 [b.backs, b.jury] = c5 at i5 ⊢
 (refine Fun.of_body Tryz.func23 rfl (by simp) fun Γ hn => ?_); simp only [entry, List.zipIdx_cons, List.zipIdx_nil, List.map_cons, List.map_nil, Nat.zero_add, Tryz.ntmps23]
 simp only [zbc]
 repeat' (first
  | (refine zaf ?_; simp)
  | (refine zal ?_; simp)
  | (refine zah ?_; simp)
  | (refine zai ?_; simp)
  | (refine zaA ?_; simp)
  | (refine zar ?_; simp only [zao])
  | (refine zap ?_; simp only [zao])
  | (refine ⟨fun hc => ?_, fun hc => ?_⟩ <;> (try (exfalso; omega)))
  | (refine CallP.fE (i1) (by first | rfl | fail) (by first | (simp; done) | (simp; rfl) | fail) ?_; (try simp))
  | (refine CallP.fE (i2) (by first | rfl | fail) (by first | (simp; done) | (simp; rfl) | fail) ?_; (try simp))
  | (refine CallP.fE (i3) (by first | rfl | fail) (by first | (simp; done) | (simp; rfl) | fail) ?_; (try simp))
  | (refine CallP.fE (i4) (by first | rfl | fail) (by first | (simp; done) | (simp; rfl) | fail) ?_; (try simp))
  | (refine CallP.fE (i5) (by first | rfl | fail) (by first | (simp; done) | (simp; rfl) | fail) ?_; (try simp))
  | fail)
 all_goals try ((refine EndOK.val (.inr rfl) ?_; simp [zaL, zag, zas, Tryz.results23]); clear i1 i2 i3 i4 i5 hr e1 e2 e3 e4 e5; grind)
 all_goals
  refine zcT (α := { i : Nat // i ≤ b.lets.length ∧ zfp [] b.lets = zfp (b.lets.take i) (b.lets.drop i) }) [1, 62, 63] (fun i => [(64, .u (.int .i64 i.1))]) (fun i => b.lets.length - i.1) ⟨0, by omega, by simp⟩ ?_ ?_
  ·exact (Wk.cut rfl (by simp [hn, St.lp]) (by simp [wkO, St.lp, zaa, getK, Ob.under, D.under, zad, zae]) (by simp [wkU, St.lp, zan, zaa, getK, D.under]) (by simp [wkE, St.lp, zan, zaa, getK] <;> (try (intros; simp_all; done)) <;> (try (intros; omega)) <;> (try grind)))
  rintro ⟨i, hi, hb⟩
  simp [St.lp, St.only, zan, zaa, getK]
  rcases hx : b.lets[i]? with _ | l
  ·have hge : b.lets.length ≤ i := by simpa using hx
   have hb' : zfp [] b.lets = true := by rw [hb, List.drop_of_length_le hge]; rfl
   generalize zaE 12 b.due = x1 at e1 ⊢
   generalize zaE 12 b.fine = x2 at e2 ⊢
   generalize zaE 12 b.pay = x3 at e3 ⊢
   generalize zaE 12 b.cover = x4 at e4 ⊢
   generalize zaE 12 b.hold = x5 at e5 ⊢
   repeat' (first
  | (refine zaf ?_; simp [hx])
  | (refine zal ?_; simp [hx])
  | (refine ⟨by omega, ?_⟩)
  | (refine zah ?_; simp [hx])
  | (refine zar ?_; simp only [zao])
  | (refine zbR ?_; simp [zao])
  | (refine ⟨fun hc => ?_, fun hc => ?_⟩ <;> (try (exfalso; omega)))
  | (intro hc <;> (try (exfalso; omega)))
  | (refine CallP.fE (e1) (by first | rfl | fail) (by first | (simp [hx]; done) | (simp [hx]; rfl) | fail) ?_; (try simp [hx]))
  | (refine CallP.fE (e2) (by first | rfl | fail) (by first | (simp [hx]; done) | (simp [hx]; rfl) | fail) ?_; (try simp [hx]))
  | (refine CallP.fE (e3) (by first | rfl | fail) (by first | (simp [hx]; done) | (simp [hx]; rfl) | fail) ?_; (try simp [hx]))
  | (refine CallP.fE (e4) (by first | rfl | fail) (by first | (simp [hx]; done) | (simp [hx]; rfl) | fail) ?_; (try simp [hx]))
  | (refine CallP.fE (e5) (by first | rfl | fail) (by first | (simp [hx]; done) | (simp [hx]; rfl) | fail) ?_; (try simp [hx]))
  | fail)
   all_goals
    (refine EndOK.val (.inr rfl) ?_; simp [zaL, zag, zas, Tryz.results23])
   all_goals
    clear i1 i2 i3 i4 i5 hr e1 e2 e3 e4 e5
    grind
  ·have hlt : i < b.lets.length := (List.getElem?_eq_some_iff.1 hx).1
   have hnx := zoX hx
   have e6 := zeN l.name
   have e7 := hr l.body
   have e8 := zfA (b.lets.take i) 68 [U.row (zli l) 0] _ (fun x _ => zlV x l) (by simp) (fun _ => rfl) (fun _ => rfl)
   simp only [zfm, zli, List.map_cons, List.map_nil] at e8
   generalize zbD l.name = y1 at e6 hnx
   generalize zaE 12 l.body = y2 at e7 hnx
   generalize ((b.lets.take i).any fun x => decide (x.name = l.name)) = y3 at e8 hnx
   repeat' (first
  | (refine zaf ?_; simp [hx])
  | (refine zal ?_; simp [hx])
  | (refine ⟨by omega, ?_⟩)
  | (refine zah ?_; simp [hx])
  | (refine zai ?_; simp [hx])
  | (refine zaC ?_; simp [hx])
  | (refine zar ?_; simp only [zao])
  | (refine zap ?_; simp only [zao])
  | (refine ⟨?_, by omega⟩)
  | (refine ⟨fun hc => ?_, fun hc => ?_⟩ <;> (try (exfalso; omega)))
  | (intro hc <;> (try (exfalso; omega)))
  | (refine CallP.fE (e6) (by first | rfl | fail) (by first | (simp [hx]; done) | (simp [hx]; rfl) | fail) ?_; (try simp [hx]))
  | (refine CallP.fE (e7) (by first | rfl | fail) (by first | (simp [hx]; done) | (simp [hx]; rfl) | fail) ?_; (try simp [hx]))
  | (refine CallP.fE (e8) (by first | rfl | fail) (by first | (simp [hx]; done) | (simp [hx]; rfl) | fail) ?_; (try simp [hx]))
  | fail)
   all_goals first
    | (refine LoopW.next ⟨i + 1, by omega, by simp_all⟩ (by simp; omega) ?_; exact (Wk.cut rfl (by simp [hn, St.lp]) (by simp [wkO, St.lp, zaa, getK, Ob.under, D.under, zad, zae]) (by simp [wkU, St.lp, zan, zaa, getK, D.under]) (by simp [wkE, St.lp, zan, zaa, getK] <;> (try (intros; simp_all; done)) <;> (try (intros; omega)) <;> (try grind))))
    | ((refine EndOK.val (.inr rfl) ?_; simp [zaL, zag, zas, Tryz.results23]); clear i1 i2 i3 i4 i5 hr e1 e2 e3 e4 e5 e6 e7 e8; grind)
end Go.Proofs.YthnemhfamhnfjaaGreatDoor
namespace Go.Proofs.YthnemhfamhnfjaaGreatDoor
open Go Go.VL
attribute [local simp] HS zcR zb0 evPure opd uOf zaH St.put St.at getK binD binI binS binB nilD aggD zgp zhi lookD lookR zcm Go.VL.nextD zcq zhv zhu zfX zcs mkV zdb zbj zbr mapEff zd1 zfM Key.kk shiftI arith unD convD zdH loadD cellsAt fieldAddrD fieldD indexAddrD indexD sliceD cutD lenD minmaxD nilCheckD buildD fillD zbH zcW zes setAll zcE zeJ zch zgC zcd St.add zaM zbB rowsOf zdw zcA zak zac zaa zba zcz zaR entry zbo zbq valD zb5 zcu zgh zc8 zda zbO zbG zau za2 zbm delAll effD St.effS zcM za6 zaY zcN za7 za0 zbY zaZ zaS zbZ zcH zbv zbV zbi zbT zbU zaJ mkD zbI zbs zbF zau zcf D.ids Op.operands Call.operands zbx makeIfD makeFuncD typeAssertD zhh zds zdt zgK zcn IntKind.bits zcG List.take_of_length_le List.range_succ
attribute [local irreducible] V G H HD HD2 HD4 zkk RetX zao Eff CallP CallV EndOK Fun Ret FinOK LoopI LoopW EndW
abbrev zjz (e : Exp × Int) : D := .tup [.u (.agg e.1.row), .u (.int .i64 e.2)]
def zht (l : List Tok) (f : Nat) : Prop := ∀ (p : Nat) (form : Int) (i nx : Nat), i < nx → p < l.length → 4 * (l.length - p) + 3 ≤ f → 0 ≤ form → form ≤ 7 →
 RetX Tryz.prog 41 [.ptr i 0, ziD form] [(i, pOb l p)] nx (PPost l i nx zer (zc6 l f p form))
def zqA (l : List Tok) (f : Nat) : Prop := ∀ (p : Nat) (form : Int) (i nx : Nat), i < nx → p < l.length → 4 * (l.length - p) + 2 ≤ f → 0 ≤ form → form ≤ 7 →
 RetX Tryz.prog 95 [.ptr i 0, ziD form] [(i, pOb l p)] nx (PPost l i nx zjz (za4 l f p form))
def zib (l : List Tok) (f : Nat) : Prop := ∀ (p : Nat) (i nx : Nat), i < nx → p < l.length → 4 * (l.length - p) + 1 ≤ f →
 RetX Tryz.prog 133 [.ptr i 0] [(i, pOb l p)] nx (PPost l i nx zer (zaO l f p))
theorem zeq {l : List Tok} (hl : TokOK l) (w : List UInt8) {q i nx : Nat} (hi : i < nx) (hq : q < l.length) :
  RetX Tryz.prog 83 [.ptr i 0, .u (.sl [[.str w]])] [(i, pOb l q)] nx (PPost l i nx (fun _ => .tup []) (zbu l q [w])) := zid l q [w] i nx hi hq hl (by simp)
theorem zkx {l : List Tok} (hl : TokOK l) {f p : Nat} {t : Tok} (ht : l[p]? = some t) (hk : t.kind = 2) {i nx : Nat} (hi : i < nx) :
  RetX Tryz.prog 133 [.ptr i 0] [(i, pOb l p)] nx (PPost l i nx zer (zaO l (f + 1) p)) := by
 have hne := zaB hi
 have hp := (List.getElem?_eq_some_iff.1 ht).1
 have hnx := zbW l p t ht hl.len
 have hp2 := hl.fin p t ht (by omega)
 have hll := hl.len
 rw [zaO, ht]
 simp only [hk, if_true] at hnx ⊢
 have hu := fun nx' (h : nx ≤ nx') => zov l (p + 1) i nx' (by omega) hp2 hl
 cases hr : zgJ l (p + 1) with
 | ok a q =>
  simp only [hr] at hu
  (refine RetX.of_bodyW Tryz.func133 rfl (by simp) fun Γ hn hpan => ?_); simp only [entry, List.zipIdx_cons, List.zipIdx_nil, List.map_cons, List.map_nil, Nat.zero_add, Tryz.ntmps133]
  repeat' (first
  | (refine zhr (fun nx' h' => hu nx' (by simp at h'; omega)) (by first | (simp [hne, zaa, getK, zab, zac, zak, zaJ]; done) | fail) (by rfl) (by first | assumption | simp) (by rfl) (by simp [D.under, Ob.under]) (by simp) ?_; (try simp [hne]))
  | (refine zaf ?_; simp [hne])
  | (refine zbt rfl ?_; simp [hne])
  | (refine zcc rfl ?_; simp [hne])
  | (refine zal ?_; simp [hne])
  | (refine ⟨by omega, ?_⟩)
  | (refine zah ?_; simp [hne])
  | (refine zai ?_; simp [hne])
  | (refine zbQ (hC _ (zcr [i] nx (by simp <;> omega) (by simp <;> omega) (by apply Exists.intro; apply And.intro; (focus (repeat' (first | exact KF.nil | exact KL.nil | apply KF.cons | apply KL.cons 0 rfl | apply KL.cons 1 rfl | apply KL.cons 2 rfl | apply KL.cons 3 rfl | apply KL.cons 4 rfl | apply KL.cons 5 rfl | apply KL.cons 6 rfl | apply KL.cons 7 rfl | apply KL.cons 8 rfl | apply KL.cons 9 rfl))); kernel_rfl))) (hk _ ?_); clear hC hk C k; simp only [zao])
  | (refine zb6 rfl (by kernel_rfl) (by first | (simp [hn]; done) | (simp [hn]; omega) | fail) fun C k hC hk => ?_; simp [hne])
  | (refine zar ?_; simp only [zao])
  | (refine CallP.fE (hnx) (by first | rfl | fail) (by first | (simp [hne]; done) | (simp [hne]; rfl) | fail) ?_; (try simp [hne]))
  | fail)
  refine EndW.norm ?_
  simp [St.norm, zbl, zb8, zcx, zcy, hne]
  (refine EndW.here ?_; (first | (refine EndOK.fin (.inr rfl) ?_) | (refine EndOK.fin (.inl rfl) ?_)); simp [zaL, zag, Tryz.results133, hne, hi]; refine FinOK.cut [(i, pOb l q)] (nx) (by simp [zaa, getK, zab, zac, Ob.under, D.under, zad, zae, hne, hi] <;> omega) (by simp [D.under]) (by simp [hn]) ?_; try simp)
  exact PPost.zcw rfl (by simp [Exp.row]) rfl
 | stop pos e =>
  simp only [hr] at hu
  (refine RetX.of_bodyW Tryz.func133 rfl (by simp) fun Γ hn hpan => ?_); simp only [entry, List.zipIdx_cons, List.zipIdx_nil, List.map_cons, List.map_nil, Nat.zero_add, Tryz.ntmps133]
  repeat' (first
  | (refine zfK (fun nx' h' => hu nx' (by simp at h'; omega)) (by first | (simp [hne, zaa, getK, zab, zac, zak, zaJ]; done) | fail) (by rfl) (by first | assumption | simp) (by rfl) (by simp) ?_ ?_; rintro env' ob' n' hn' ⟨q', rfl⟩; refine ⟨_, Wk.refl _, ?_⟩)
  | (refine zeK rfl (by simp) ?_; simp)
  | (refine zaf ?_; simp [hne])
  | (refine zbt rfl ?_; simp [hne])
  | (refine zal ?_; simp [hne])
  | (refine ⟨by omega, ?_⟩)
  | (refine zah ?_; simp [hne])
  | (refine zai ?_; simp [hne])
  | (refine zfL (hC _ (zcr [i] nx (by simp <;> omega) (by simp <;> omega) (by apply Exists.intro; apply And.intro; (focus (repeat' (first | exact KF.nil | exact KL.nil | apply KF.cons | apply KL.cons 0 rfl | apply KL.cons 1 rfl | apply KL.cons 2 rfl | apply KL.cons 3 rfl | apply KL.cons 4 rfl | apply KL.cons 5 rfl | apply KL.cons 6 rfl | apply KL.cons 7 rfl | apply KL.cons 8 rfl | apply KL.cons 9 rfl))); kernel_rfl))) rfl; done)
  | (refine zb6 rfl (by kernel_rfl) (by first | (simp [hn]; done) | (simp [hn]; omega) | fail) fun C k hC hk => ?_; simp [hne])
  | (refine CallP.fE (hnx) (by first | rfl | fail) (by first | (simp [hne]; done) | (simp [hne]; rfl) | fail) ?_; (try simp [hne]))
  | fail)
  (refine hpan _ _ ⟨{ n := _, env := [], obs := [(i, pOb l q')], next := nx }, (Wk.cut rfl (by simp [hn]) (by simp [wkO, zaa, getK, zab, zac, Ob.under, D.under, zad, zae, hi, hne, zab, zac, zaa, getK]) (by simp [wkU, zan, zaa, getK, D.under, hi, hne, zab, zac, zaa, getK]) (by simp [wkE, zan, zaa, getK, hi, hne, zab, zac, zaa, getK])), by simp [hn], ?_⟩; try simp)
  exact PPost.zaw (by simp [PR.bind])
theorem zjm {l : List Tok} (hl : TokOK l) {f p : Nat} {t : Tok} (ht : l[p]? = some t) (hk : ¬ t.kind = 2) (h1 : isB l p [116, 114, 117, 101] = true) {i nx : Nat} (hi : i < nx) :
  RetX Tryz.prog 133 [.ptr i 0] [(i, pOb l p)] nx (PPost l i nx zer (zaO l (f + 1) p)) := by
 have hne := zaB hi
 have hp := (List.getElem?_eq_some_iff.1 ht).1
 have hnx := zbW l p t ht hl.len
 have hll := hl.len
 rw [zaO, ht]
 have hh1 := fun nx' (h : nx ≤ nx') => zbg l p [116, 114, 117, 101] i nx' (by omega) hp hl.len
 simp only [hk, h1, if_false, if_true] at hh1 ⊢
 (refine RetX.of_bodyW Tryz.func133 rfl (by simp) fun Γ hn hpan => ?_); simp only [entry, List.zipIdx_cons, List.zipIdx_nil, List.map_cons, List.map_nil, Nat.zero_add, Tryz.ntmps133]
 repeat' (first
  | (refine zaf ?_; simp [hne, hk, del])
  | (refine zal ?_; simp [hne, hk, del])
  | (refine zah ?_; simp [hne, hk, del])
  | (refine zai ?_; simp [hne, hk, del])
  | (refine zar ?_; simp only [zao])
  | (refine CallP.fE (hnx) (by first | rfl | fail) (by first | (simp [hne, hk, del]; done) | (simp [hne, hk, del]; rfl) | fail) ?_; (try simp [hne, hk, del]))
  | (refine CallP.ok1 (hh1 _ (by first | omega | (simp; done) | (simp; omega) | fail)) (by first | (simp [hne, hk, del, zaa, getK, zab, zac]; done) | fail) (by rfl) (by rfl) ?_; (try simp [hne, hk, del]))
  | fail)
 refine EndW.norm ?_
 simp [St.norm, zbl, zb8, zcx, zcy, hne]
 (refine EndW.here ?_; (first | (refine EndOK.fin (.inr rfl) ?_) | (refine EndOK.fin (.inl rfl) ?_)); simp [zaL, zag, Tryz.results133, hne, hi]; refine FinOK.cut [(i, pOb l (p + 1))] (nx) (by simp [zaa, getK, zab, zac, Ob.under, D.under, zad, zae, hne, hi] <;> omega) (by simp [D.under]) (by simp [hn]) ?_; try simp)
 exact PPost.zcw rfl (by simp [Exp.row]) rfl
theorem zio {l : List Tok} (hl : TokOK l) {f p : Nat} {t : Tok} (ht : l[p]? = some t) (hk : ¬ t.kind = 2) (h1 : isB l p [116, 114, 117, 101] = false) (h2 : isB l p [102, 97, 108, 115, 101] = true) {i nx : Nat} (hi : i < nx) :
  RetX Tryz.prog 133 [.ptr i 0] [(i, pOb l p)] nx (PPost l i nx zer (zaO l (f + 1) p)) := by
 have hne := zaB hi
 have hp := (List.getElem?_eq_some_iff.1 ht).1
 have hnx := zbW l p t ht hl.len
 have hll := hl.len
 rw [zaO, ht]
 have hh1 := fun nx' (h : nx ≤ nx') => zbg l p [116, 114, 117, 101] i nx' (by omega) hp hl.len
 have hh2 := fun nx' (h : nx ≤ nx') => zbg l p [102, 97, 108, 115, 101] i nx' (by omega) hp hl.len
 simp only [hk, h1, h2, if_false, if_true, Bool.false_eq_true] at hh1 hh2 ⊢
 (refine RetX.of_bodyW Tryz.func133 rfl (by simp) fun Γ hn hpan => ?_); simp only [entry, List.zipIdx_cons, List.zipIdx_nil, List.map_cons, List.map_nil, Nat.zero_add, Tryz.ntmps133]
 repeat' (first
  | (refine zaf ?_; simp [hne, hk, del])
  | (refine zal ?_; simp [hne, hk, del])
  | (refine zah ?_; simp [hne, hk, del])
  | (refine zai ?_; simp [hne, hk, del])
  | (refine zar ?_; simp only [zao])
  | (refine CallP.fE (hnx) (by first | rfl | fail) (by first | (simp [hne, hk, del]; done) | (simp [hne, hk, del]; rfl) | fail) ?_; (try simp [hne, hk, del]))
  | (refine CallP.ok1 (hh1 _ (by first | omega | (simp; done) | (simp; omega) | fail)) (by first | (simp [hne, hk, del, zaa, getK, zab, zac]; done) | fail) (by rfl) (by rfl) ?_; (try simp [hne, hk, del]))
  | (refine CallP.ok1 (hh2 _ (by first | omega | (simp; done) | (simp; omega) | fail)) (by first | (simp [hne, hk, del, zaa, getK, zab, zac]; done) | fail) (by rfl) (by rfl) ?_; (try simp [hne, hk, del]))
  | fail)
 refine EndW.norm ?_
 simp [St.norm, zbl, zb8, zcx, zcy, hne]
 (refine EndW.here ?_; (first | (refine EndOK.fin (.inr rfl) ?_) | (refine EndOK.fin (.inl rfl) ?_)); simp [zaL, zag, Tryz.results133, hne, hi]; refine FinOK.cut [(i, pOb l (p + 1))] (nx) (by simp [zaa, getK, zab, zac, Ob.under, D.under, zad, zae, hne, hi] <;> omega) (by simp [D.under]) (by simp [hn]) ?_; try simp)
 exact PPost.zcw rfl (by simp [Exp.row]) rfl
theorem zcY {l : List Tok} {F : FuncId} {r : PR Exp} {e : Exp} {q i nx : Nat} {ds : List D} {obs : List (Nat × Ob)} (h : RetX Tryz.prog F ds obs nx (PPost l i nx zer r)) (hr : r = .ok e q) :
  RetX Tryz.prog F ds obs nx fun r o n => r = .val (.u (.agg [.int .i64 e.op, .int .i64 e.n, .int .i64 e.unit, .str e.s, .sl (e.args.map Exp.row)])) ∧ o = [(i, pOb l q)] ∧ n = nx := by
 subst hr
 rw [← Exp.row_eq]
 exact h
theorem zin {l : List Tok} (hl : TokOK l) {f p : Nat} (hE : zht l f) (hf : 4 * (l.length - p) ≤ f) {t : Tok} (ht : l[p]? = some t) (hk : ¬ t.kind = 2) (h1 : isB l p [116, 114, 117, 101] = false) (h2 : isB l p [102, 97, 108, 115, 101] = false)
  (h3 : isB l p [109, 105, 110] = false) (h4 : isB l p [109, 97, 120] = false) (h5 : isB l p [40] = true) {i nx : Nat} (hi : i < nx) :
  RetX Tryz.prog 133 [.ptr i 0] [(i, pOb l p)] nx (PPost l i nx zer (zaO l (f + 1) p)) := by
 have hne := zaB hi
 have hp := (List.getElem?_eq_some_iff.1 ht).1
 have hnx := zbW l p t ht hl.len
 have hll := hl.len
 have hp2 := zbf hl h5
 rw [zaO, ht]
 have hh1 := fun nx' (h : nx ≤ nx') => zbg l p [116, 114, 117, 101] i nx' (by omega) hp hl.len
 have hh2 := fun nx' (h : nx ≤ nx') => zbg l p [102, 97, 108, 115, 101] i nx' (by omega) hp hl.len
 have hm1 := zdR l p [109, 105, 110] hp hl.len
 have hm2 := zdR l p [109, 97, 120] hp hl.len
 have hh3 := fun nx' (h : nx ≤ nx') => zbg l p [40] i nx' (by omega) hp hl.len
 simp only [hk, h1, h2, h3, h4, h5, if_false, if_true, Bool.false_eq_true, or_self] at hh1 hh2 hm1 hm2 hh3 ⊢
 have he := fun nx' (h : nx ≤ nx') => hE (p + 1) 0 i nx' (by omega) hp2 (by omega) (by omega) (by omega)
 cases hr : zc6 l f (p + 1) 0 with
 | stop pos e =>
  simp only [hr] at he
  (refine RetX.of_bodyW Tryz.func133 rfl (by simp) fun Γ hn hpan => ?_); simp only [entry, List.zipIdx_cons, List.zipIdx_nil, List.map_cons, List.map_nil, Nat.zero_add, Tryz.ntmps133]
  repeat' (first
  | (refine zaf ?_; simp [hne, hk, del, Nat.add_assoc])
  | (refine zal ?_; simp [hne, hk, del, Nat.add_assoc])
  | (refine zah ?_; simp [hne, hk, del, Nat.add_assoc])
  | (refine zai ?_; simp [hne, hk, del, Nat.add_assoc])
  | (refine CallP.fE (hnx) (by first | rfl | fail) (by first | (simp [hne, hk, del, Nat.add_assoc]; done) | (simp [hne, hk, del, Nat.add_assoc]; rfl) | fail) ?_; (try simp [hne, hk, del, Nat.add_assoc]))
  | (refine CallP.fE (hm1) (by first | rfl | fail) (by first | (simp [hne, hk, del, Nat.add_assoc]; done) | (simp [hne, hk, del, Nat.add_assoc]; rfl) | fail) ?_; (try simp [hne, hk, del, Nat.add_assoc]))
  | (refine CallP.fE (hm2) (by first | rfl | fail) (by first | (simp [hne, hk, del, Nat.add_assoc]; done) | (simp [hne, hk, del, Nat.add_assoc]; rfl) | fail) ?_; (try simp [hne, hk, del, Nat.add_assoc]))
  | (refine CallP.ok1 (hh1 _ (by first | omega | (simp; done) | (simp; omega) | fail)) (by first | (simp [hne, hk, del, Nat.add_assoc, zaa, getK, zab, zac]; done) | fail) (by rfl) (by rfl) ?_; (try simp [hne, hk, del, Nat.add_assoc]))
  | (refine CallP.ok1 (hh2 _ (by first | omega | (simp; done) | (simp; omega) | fail)) (by first | (simp [hne, hk, del, Nat.add_assoc, zaa, getK, zab, zac]; done) | fail) (by rfl) (by rfl) ?_; (try simp [hne, hk, del, Nat.add_assoc]))
  | (refine CallP.ok1 (hh3 _ (by first | omega | (simp; done) | (simp; omega) | fail)) (by first | (simp [hne, hk, del, Nat.add_assoc, zaa, getK, zab, zac]; done) | fail) (by rfl) (by rfl) ?_; (try simp [hne, hk, del, Nat.add_assoc]))
  | (refine CallP.zeb (he _ (by first | omega | (simp; done) | (simp; omega) | fail)) (by first | (simp [hne, hk, del, Nat.add_assoc, zaa, getK, zab, zac]; done) | fail) (by rfl) (by first | assumption | (simp; done) | fail) (by rfl) (by simp) ?_; rintro ob' ⟨q', rfl⟩; refine ⟨_, Wk.refl _, ?_⟩)
  | fail)
  (refine hpan _ _ ⟨{ n := _, env := [], obs := [(i, pOb l q')], next := nx }, (Wk.cut rfl (by simp [hn]) (by simp [wkO, zaa, getK, zab, zac, Ob.under, D.under, zad, zae, hi, hne, zab, zac, zaa, getK]) (by simp [wkU, zan, zaa, getK, D.under, hi, hne, zab, zac, zaa, getK]) (by simp [wkE, zan, zaa, getK, hi, hne, zab, zac, zaa, getK])), by simp [hn], ?_⟩; try simp)
  exact PPost.zaw (by simp [PR.bind, *])
 | ok e1 q1 =>
  have he := fun nx' h => zcY (he nx' h) hr
  obtain ⟨g1, g2⟩ := (zb2 hl f).1 _ _ _ _ hr hp2
  have hw := fun nx' (h : nx ≤ nx') => zeq hl [41] (q := q1) (i := i) (nx := nx') (by omega) g2
  cases hr2 : zbu l q1 [[41]] with
  | stop pos e =>
   simp only [hr2] at hw
   (refine RetX.of_bodyW Tryz.func133 rfl (by simp) fun Γ hn hpan => ?_); simp only [entry, List.zipIdx_cons, List.zipIdx_nil, List.map_cons, List.map_nil, Nat.zero_add, Tryz.ntmps133]
   repeat' (first
  | (refine zaf ?_; simp [hne, hk, del, Nat.add_assoc])
  | (refine zal ?_; simp [hne, hk, del, Nat.add_assoc])
  | (refine zah ?_; simp [hne, hk, del, Nat.add_assoc])
  | (refine zai ?_; simp [hne, hk, del, Nat.add_assoc])
  | (refine CallP.fE (hnx) (by first | rfl | fail) (by first | (simp [hne, hk, del, Nat.add_assoc]; done) | (simp [hne, hk, del, Nat.add_assoc]; rfl) | fail) ?_; (try simp [hne, hk, del, Nat.add_assoc]))
  | (refine CallP.fE (hm1) (by first | rfl | fail) (by first | (simp [hne, hk, del, Nat.add_assoc]; done) | (simp [hne, hk, del, Nat.add_assoc]; rfl) | fail) ?_; (try simp [hne, hk, del, Nat.add_assoc]))
  | (refine CallP.fE (hm2) (by first | rfl | fail) (by first | (simp [hne, hk, del, Nat.add_assoc]; done) | (simp [hne, hk, del, Nat.add_assoc]; rfl) | fail) ?_; (try simp [hne, hk, del, Nat.add_assoc]))
  | (refine CallP.ok1 (hh1 _ (by first | omega | (simp; done) | (simp; omega) | fail)) (by first | (simp [hne, hk, del, Nat.add_assoc, zaa, getK, zab, zac]; done) | fail) (by rfl) (by rfl) ?_; (try simp [hne, hk, del, Nat.add_assoc]))
  | (refine CallP.ok1 (hh2 _ (by first | omega | (simp; done) | (simp; omega) | fail)) (by first | (simp [hne, hk, del, Nat.add_assoc, zaa, getK, zab, zac]; done) | fail) (by rfl) (by rfl) ?_; (try simp [hne, hk, del, Nat.add_assoc]))
  | (refine CallP.ok1 (hh3 _ (by first | omega | (simp; done) | (simp; omega) | fail)) (by first | (simp [hne, hk, del, Nat.add_assoc, zaa, getK, zab, zac]; done) | fail) (by rfl) (by rfl) ?_; (try simp [hne, hk, del, Nat.add_assoc]))
  | (refine CallP.ok1 (he _ (by first | omega | (simp; done) | (simp; omega) | fail)) (by first | (simp [hne, hk, del, Nat.add_assoc, zaa, getK, zab, zac]; done) | fail) (by rfl) (by rfl) ?_; (try simp [hne, hk, del, Nat.add_assoc]))
  | (refine CallP.zeb (hw _ (by first | omega | (simp; done) | (simp; omega) | fail)) (by first | (simp [hne, hk, del, Nat.add_assoc, zaa, getK, zab, zac]; done) | fail) (by rfl) (by first | assumption | (simp; done) | fail) (by rfl) (by simp) ?_; rintro ob' ⟨q', rfl⟩; refine ⟨_, Wk.refl _, ?_⟩)
  | (refine zaq (by first | rfl | fail) ?_; simp [hne, hk, del, Nat.add_assoc, frzN, frz1, zay, zax, St.frz, St.frzS, frzS, fv, zaz, za5, za8, zaF, zat, zaj, del, frz, za9])
  | fail)
   (refine hpan _ _ ⟨{ n := _, env := [], obs := [(i, pOb l q')], next := nx }, (Wk.cut rfl (by simp [hn]) (by simp [wkO, zaa, getK, zab, zac, Ob.under, D.under, zad, zae, hi, hne, zab, zac, zaa, getK]) (by simp [wkU, zan, zaa, getK, D.under, hi, hne, zab, zac, zaa, getK]) (by simp [wkE, zan, zaa, getK, hi, hne, zab, zac, zaa, getK])), by simp [hn], ?_⟩; try simp)
   exact PPost.zaw (by simp [PR.bind, *])
  | ok u2 q =>
   simp only [hr2] at hw
   (refine RetX.of_bodyW Tryz.func133 rfl (by simp) fun Γ hn hpan => ?_); simp only [entry, List.zipIdx_cons, List.zipIdx_nil, List.map_cons, List.map_nil, Nat.zero_add, Tryz.ntmps133]
   repeat' (first
  | (refine zaf ?_; simp [hne, hk, del, Nat.add_assoc])
  | (refine zal ?_; simp [hne, hk, del, Nat.add_assoc])
  | (refine zah ?_; simp [hne, hk, del, Nat.add_assoc])
  | (refine zai ?_; simp [hne, hk, del, Nat.add_assoc])
  | (refine zar ?_; simp only [zao])
  | (refine CallP.fE (hnx) (by first | rfl | fail) (by first | (simp [hne, hk, del, Nat.add_assoc]; done) | (simp [hne, hk, del, Nat.add_assoc]; rfl) | fail) ?_; (try simp [hne, hk, del, Nat.add_assoc]))
  | (refine CallP.fE (hm1) (by first | rfl | fail) (by first | (simp [hne, hk, del, Nat.add_assoc]; done) | (simp [hne, hk, del, Nat.add_assoc]; rfl) | fail) ?_; (try simp [hne, hk, del, Nat.add_assoc]))
  | (refine CallP.fE (hm2) (by first | rfl | fail) (by first | (simp [hne, hk, del, Nat.add_assoc]; done) | (simp [hne, hk, del, Nat.add_assoc]; rfl) | fail) ?_; (try simp [hne, hk, del, Nat.add_assoc]))
  | (refine CallP.ok1 (hh1 _ (by first | omega | (simp; done) | (simp; omega) | fail)) (by first | (simp [hne, hk, del, Nat.add_assoc, zaa, getK, zab, zac]; done) | fail) (by rfl) (by rfl) ?_; (try simp [hne, hk, del, Nat.add_assoc]))
  | (refine CallP.ok1 (hh2 _ (by first | omega | (simp; done) | (simp; omega) | fail)) (by first | (simp [hne, hk, del, Nat.add_assoc, zaa, getK, zab, zac]; done) | fail) (by rfl) (by rfl) ?_; (try simp [hne, hk, del, Nat.add_assoc]))
  | (refine CallP.ok1 (hh3 _ (by first | omega | (simp; done) | (simp; omega) | fail)) (by first | (simp [hne, hk, del, Nat.add_assoc, zaa, getK, zab, zac]; done) | fail) (by rfl) (by rfl) ?_; (try simp [hne, hk, del, Nat.add_assoc]))
  | (refine CallP.ok1 (he _ (by first | omega | (simp; done) | (simp; omega) | fail)) (by first | (simp [hne, hk, del, Nat.add_assoc, zaa, getK, zab, zac]; done) | fail) (by rfl) (by rfl) ?_; (try simp [hne, hk, del, Nat.add_assoc]))
  | (refine CallP.ok1 (hw _ (by first | omega | (simp; done) | (simp; omega) | fail)) (by first | (simp [hne, hk, del, Nat.add_assoc, zaa, getK, zab, zac]; done) | fail) (by rfl) (by rfl) ?_; (try simp [hne, hk, del, Nat.add_assoc]))
  | (refine zaq (by first | rfl | fail) ?_; simp [hne, hk, del, Nat.add_assoc, frzN, frz1, zay, zax, St.frz, St.frzS, frzS, fv, zaz, za5, za8, zaF, zat, zaj, del, frz, za9])
  | fail)
   refine EndW.norm ?_
   simp [St.norm, zbl, zb8, zcx, zcy, hne]
   (refine EndW.here ?_; (first | (refine EndOK.fin (.inr rfl) ?_) | (refine EndOK.fin (.inl rfl) ?_)); simp [zaL, zag, Tryz.results133, hne, hi]; refine FinOK.cut [(i, pOb l q)] (nx) (by simp [zaa, getK, zab, zac, Ob.under, D.under, zad, zae, hne, hi] <;> omega) (by simp [D.under]) (by simp [hn]) ?_; try simp)
   exact PPost.zcw (by simp [PR.bind, *]; rfl) (by simp [Exp.row_eq]) rfl
end Go.Proofs.YthnemhfamhnfjaaGreatDoor
