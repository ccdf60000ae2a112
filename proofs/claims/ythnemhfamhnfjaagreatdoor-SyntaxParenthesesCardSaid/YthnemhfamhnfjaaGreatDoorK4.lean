/- Texts joined by a program of mine: Ub Uc UD UI Ud Ea#p Eb#p Ea Eb Ec#p Ed#p Zj#p Ec Ed Ee Ya Yb Yc Yd Ye Yf Yg Yh Yv Yi Yj Zg#p Zw#p Ef Eg Eh Ei. -/
import Derived.Test.YthnemhfamhnfjaaGreatDoorK3
import Derived.Lib.ItoaNum
set_option linter.all false
set_option maxRecDepth 100000
set_option maxHeartbeats 8000000
namespace Go.Proofs.YthnemhfamhnfjaaGreatDoor
open Go Go.VL
attribute [local simp] zde zb7 evPure opd uOf zaF St.put St.at getK binD binI binS binB nilD aggD zhn ziD lookD lookR zcB Go.VL.nextD zcF ziQ ziP zgW zcz mkV zdB zbq zbB mapEff zev zgg Key.kk shiftI arith unD convD zeg loadD cellsAt fieldAddrD fieldD indexAddrD indexD sliceD cutD lenD minmaxD nilCheckD buildD fillD zbU zdn ze5 setAll zcU zff zcx zhN zct St.add zaR zbR rowsOf zd0 zcJ zak zac zaa za9 zcI zaP entry zbO zbY valD zb8 zcA zhf zdz zdA zb1 zbQ zax zaW zbu delAll effD St.effS zdj zbl za5 zdk zbm za7 zcl za6 zaV zcm zdh zbJ zci zbt zcg zch zaK mkD zbL zbC zbP zax zcv D.ids Op.operands Call.operands zbI makeIfD makeFuncD typeAssertD ziB zdR zdS zhX zcD IntKind.bits zcV List.take_of_length_le List.range_succ
attribute [local irreducible] V G H HD HD2 zao Eff CallP CallV EndOK Fun Ret FinOK LoopI LoopW EndW
def zpI (l : List (List UInt8)) : U := .sl (l.map fun s => [.str s])
def znI : List (List UInt8) → List UInt8 → Int → Int
 | [], _, _ => -1
 | s :: l, x, i => if x = s then i else znI l x (i + 1)
theorem zpR {l : List (List UInt8)} {x : List UInt8} {i : Nat} {k : Int} (h : ∀ c ∈ l.take i, ¬ x = c) (hx : l[i]? = some x) : znI l x k = k + i := by
 induction l generalizing i k with
 | nil => simp at hx
 | cons s l ih =>
  cases i with
  | zero => simp at hx; simp [znI, hx]
  | succ i =>
   rw [znI, if_neg (h s (by simp)), ih (i := i) (fun c hc => h c (by simp [hc])) (by simpa using hx)]
   omega
theorem znH {l : List (List UInt8)} {x : List UInt8} {k : Int} (h : ∀ c ∈ l, ¬ x = c) : znI l x k = -1 := by
 induction l generalizing k with
 | nil => rfl
 | cons s l ih => rw [znI, if_neg (h s (by simp)), ih fun c hc => h c (by simp [hc])]
theorem zmi (l : List (List UInt8)) (x : List UInt8) : Fun Tryz.prog 105 [.u (zpI l), .u (.str x)] (· = .u (.int .i64 (znI l x 0))) := by
 (refine Fun.of_body Tryz.func105 rfl (by simp) fun Γ hn => ?_); simp only [entry, ziC, ziN, maC, maN, oA, Tryz.ntmps105]
 simp only [zpI]
 refine zj7 (x := 0) rfl fun hl => ?_
 simp at hl
 repeat' (first
  | ((first | refine zaf ?_ | refine zaj ?_ | refine zag ?_ | refine zav ?_ | fail); simp)
  | fail)
 refine zdg (α := { i : Nat // i ≤ l.length ∧ ∀ c ∈ l.take i, ¬ x = c }) [0, 1, 7] (fun i => [(8, .u (.int .i64 i.1))]) (fun i => l.length - i.1) ⟨0, by omega, by simp⟩ ?_ ?_
 ·exact (Wk.env rfl rfl rfl (by simp [wkE, St.lp, zam, zaa, getK] <;> (try (intros; simp_all; done)) <;> (try (intros; omega)) <;> (try grind)))
 rintro ⟨i, hi, hb⟩
 simp [St.lp, St.only, zam, zaa, getK]
 rcases hx : l[i]? with _ | c
 ·have hge : l.length ≤ i := by simpa using hx
  repeat' (first
  | ((first | refine zaf ?_ | refine zaj ?_ | fail); simp [hx])
  | (refine ⟨by omega, ?_⟩)
  | (refine zag ?_; simp [hx])
  | (refine zaq ?_; simp only [zao])
  | (refine zbb ?_; simp [zao])
  | (intro hc <;> (try (exfalso; omega)))
  | fail)
  (refine EndOK.val (.inr rfl) ?_; simp [zaJ, zah, zau, Tryz.results105])
  rw [List.take_of_length_le hge] at hb
  exact (znH hb).symm
 ·have hlt := (lGE.1 hx).1
  by_cases hxc : x = c
  ·subst hxc
   repeat' (first
  | ((first | refine zaf ?_ | refine zaj ?_ | refine zag ?_ | refine zai ?_ | fail); simp [hx])
  | ((first | refine zaq ?_ | refine zap ?_ | fail); simp only [zao])
  | (refine ⟨?_, by omega⟩)
  | (intro hc <;> (try (exfalso; omega)))
  | fail)
   (refine EndOK.val (.inr rfl) ?_; simp [zaJ, zah, zau, Tryz.results105])
   rw [zpR hb hx]
   omega
  ·repeat' (first
  | ((first | refine zaf ?_ | refine zaj ?_ | fail); simp [hx, hxc])
  | (refine ⟨by omega, ?_⟩)
  | ((first | refine zag ?_ | refine zai ?_ | refine zat ?_ | fail); simp [hx, hxc])
  | (refine zap ?_; simp only [zao])
  | (refine ⟨?_, by omega⟩)
  | (intro hc <;> (try (exfalso; omega)))
  | fail)
   refine LoopW.next ⟨i + 1, by omega, zbE hx hb hxc⟩ (by simp; omega) ?_
   exact (Wk.env rfl rfl rfl (by simp [wkE, St.lp, zam, zaa, getK] <;> (try (intros; simp_all; done)) <;> (try (intros; omega)) <;> (try grind)))
theorem zoQ (l : List (List UInt8)) (x : List UInt8) : ∀ k : Int, 0 ≤ k → decide (0 ≤ znI l x k) = l.contains x := by
 induction l with
 | nil => intro k hk; simp [znI]
 | cons s l ih =>
  intro k hk
  by_cases h : x = s
  ·subst h; simp [znI, hk]
  ·rw [znI, if_neg h, ih (k + 1) (by omega)]
   simp [h]
theorem ziy (l : List (List UInt8)) (x : List UInt8) : Fun Tryz.prog 48 [.u (zpI l), .u (.str x)] (· = .u (.bool (l.contains x))) := by
 have h1 := zmi l x
 (refine Fun.of_body Tryz.func48 rfl (by simp) fun Γ hn => ?_); simp only [entry, ziC, ziN, maC, maN, oA, Tryz.ntmps48]
 simp only [zpI] at h1 ⊢
 repeat' (first
  | ((first | refine zaf ?_ | refine zaj ?_ | refine zag ?_ | fail); simp)
  | (refine zaq ?_; simp only [zao])
  | (refine CallP.fE (h1) (by first | rfl | fail) (by first | (simp; done) | (simp; rfl) | fail) ?_; (try simp))
  | fail)
 (refine EndOK.val (.inr rfl) ?_; simp [zaJ, zah, zau, Tryz.results48])
 have h2 := zoQ l x 0 (by omega)
 simpa using h2
def words : List (List UInt8) := [[97, 110, 100], [98, 97, 99, 107, 115], [98, 105, 100, 100, 105, 110, 103], [99, 105, 114, 99, 108, 101], [99, 111, 105, 110, 115], [99, 111, 118, 101, 114], [100, 97, 121, 115], [100, 114, 97, 119], [100, 117, 101], [101, 108, 115, 101], [102, 97, 108, 115, 101], [102, 105, 110, 101], [102, 117, 110, 100], [103, 114, 97, 99, 101], [104, 111, 108, 100], [105, 102], [106, 111, 105, 110], [106, 117, 114, 121], [108, 101, 116], [109, 97, 120], [109, 105, 108, 108, 101], [109, 105, 110], [110, 101, 101, 100], [110, 111, 116], [111, 114], [111, 114, 100, 101, 114], [112, 97, 121], [112, 101, 114], [114, 111, 116, 97, 116, 105, 110, 103], [115, 97, 118, 105, 110, 103], [115, 101, 97, 108, 101, 100], [116, 104, 101, 110], [116, 114, 117, 101], [118, 111, 105, 99, 101, 115], [119, 97, 105, 116]]
set_option maxHeartbeats 4000000 in
set_option maxRecDepth 100000 in
theorem zja : Fun Tryz.prog 49 [] (· = .u (zpI words)) := by
 (refine Fun.of_bodyW Tryz.func49 rfl (by simp) fun Γ hn => ?_); simp only [entry, ziC, ziN, maC, maN, oA, Tryz.ntmps49]
 simp only [zpI, words, List.map_cons, List.map_nil]
 repeat' (first
  | ((first | refine zaf ?_ | refine zaj ?_ | refine zag ?_ | fail); simp [zbY, zbO])
  | (refine zaq ?_; simp only [zao])
  | fail)
 (refine EndW.frzN 1 ?_; simp [frzN, frz1, zaA, zaz, St.frz, St.frzS, frzS, fv, zaE, zaY, za1, zaD, zas, zal, del, frz, za2])
 refine EndW.here ?_
 (refine EndOK.val (.inr rfl) ?_; simp [zaJ, zah, zau, Tryz.results49])
def zcy (s : List UInt8) : Bool := zf9 s && !words.contains s
set_option maxRecDepth 100000 in
theorem zeT (s : List UInt8) : Fun Tryz.prog 16 [.u (.str s)] (· = .u (.bool (zcy s))) := by
 have h1 := ziy words s
 have h2 := zkS s
 have h3 := zja
 generalize hw : words.contains s = w at h1
 simp only [zpI] at h1 h3
 generalize (words.map fun s => [U.str s]) = W at h1 h3
 unfold zcy
 rw [hw]
 clear hw
 generalize zf9 s = b at h2 ⊢
 cases b
 all_goals
  (refine Fun.of_body Tryz.func16 rfl (by simp) fun Γ hn => ?_); simp only [entry, ziC, ziN, maC, maN, oA, Tryz.ntmps16]
  repeat' (first
  | ((first | refine zaf ?_ | refine zaj ?_ | refine zag ?_ | fail); simp)
  | (refine zaq ?_; simp only [zao])
  | (refine CallP.fE (h1) (by first | rfl | fail) (by first | (simp; done) | (simp; rfl) | fail) ?_; (try simp))
  | (refine CallP.fE (h2) (by first | rfl | fail) (by first | (simp; done) | (simp; rfl) | fail) ?_; (try simp))
  | (refine CallP.fE (h3) (by first | rfl | fail) (by first | (simp; done) | (simp; rfl) | fail) ?_; (try simp))
  | fail)
  (refine EndOK.val (.inr rfl) ?_; simp [zaJ, zah, zau, Tryz.results16])
def zc7 (op : Int) : Int := if op = 0 ∨ op = 1 then 0 else if op = 12 then 1 else if op = 13 then 3 else if op < 0 ∨ 14 ≤ op then -1 else 2
theorem zjr (op : Int) : Fun Tryz.prog 121 [.u (.int .i64 op)] (· = .u (.int .i64 (zc7 op))) := by
 unfold zc7
 (refine Fun.of_body Tryz.func121 rfl (by simp) fun Γ hn => ?_); simp only [entry, ziC, ziN, maC, maN, oA, Tryz.ntmps121]
 repeat' (first
  | ((first | refine zaf ?_ | refine zaj ?_ | refine zag ?_ | refine zai ?_ | refine zav ?_ | refine zat ?_ | fail); simp)
  | ((first | refine zaq ?_ | refine zap ?_ | fail); simp only [zao])
  | (refine ⟨?_, by omega⟩)
  | (refine ⟨fun hc => ?_, fun hc => ?_⟩ <;> (try (exfalso; omega)))
  | (intro hc <;> (try (exfalso; omega)))
  | fail)
 all_goals
  (refine EndOK.val (.inr rfl) ?_; simp [zaJ, zah, zau, Tryz.results121])
 all_goals (repeat' split) <;> first | rfl | omega | simp_all
theorem zpX : Exp.row = fun e => [.int .i64 e.op, .int .i64 e.n, .int .i64 e.unit, .str e.s, .sl (e.args.map Exp.row)] := funext fun e => e.row_eq
def zhe (e : Exp) : D := .u (.agg [.int .i64 e.op, .int .i64 e.n, .int .i64 e.unit, .str e.s, .sl (e.args.map Exp.row)])
def zqq (l : List Exp) : U := .sl (l.map fun e => [.int .i64 e.op, .int .i64 e.n, .int .i64 e.unit, .str e.s, .sl (e.args.map Exp.row)])
theorem zpV (l : List Exp) : zqq l = .sl (l.map Exp.row) := by rw [zqq, ← zpX]
theorem zmm (l : List (Exp)) (f : FuncId) (caps : List U) (p : Exp → Bool) (hf : ∀ n ∈ l, Fun Tryz.prog f (zhe n :: caps.map .u) (· = .u (.bool (p n)))) (hcl : zan Tryz.prog f = true)
  (hca : ∀ o, zcA o (caps.map .u) = some (caps.map .u, [])) : Fun Tryz.prog 141 [.u (zqq l), .fnc (.func f) (caps.map .u)] (· = .u (.int .i64 (zhj p l 0))) := by
 (refine Fun.of_body Tryz.func141 rfl (by simp) fun Γ hn => ?_); simp only [entry, ziC, ziN, maC, maN, oA, Tryz.ntmps141]
 simp only [zqq]
 refine zj7 (x := 0) rfl fun hl => ?_
 simp at hl
 repeat' (first
  | ((first | refine zaf ?_ | refine zaj ?_ | refine zag ?_ | refine zav ?_ | fail); simp)
  | fail)
 refine zdg (α := { i : Nat // i ≤ l.length ∧ ∀ c ∈ l.take i, p c = false }) [0, 1, 7] (fun i => [(8, .u (.int .i64 i.1))]) (fun i => l.length - i.1) ⟨0, by omega, by simp⟩ ?_ ?_
 ·exact (Wk.env rfl rfl rfl (by simp [wkE, St.lp, zam, zaa, getK] <;> (try (intros; simp_all; done)) <;> (try (intros; omega)) <;> (try grind)))
 rintro ⟨i, hi, hb⟩
 simp [St.lp, St.only, zam, zaa, getK]
 rcases hx : l[i]? with _ | n
 ·have hge : l.length ≤ i := by simpa using hx
  repeat' (first
  | ((first | refine zaf ?_ | refine zaj ?_ | fail); simp [hx])
  | (refine ⟨by omega, ?_⟩)
  | (refine zag ?_; simp [hx])
  | (refine zaq ?_; simp only [zao])
  | (refine zbb ?_; simp [zao])
  | (intro hc <;> (try (exfalso; omega)))
  | fail)
  (refine EndOK.val (.inr rfl) ?_; simp [zaJ, zah, zau, Tryz.results141])
  rw [List.take_of_length_le hge] at hb
  exact (zfq hb).symm
 ·have hlt : i < l.length := (lGE.1 hx).1
  have h1 := hf n (List.mem_of_getElem? hx)
  simp only [zhe] at h1
  cases hp : p n
  ·rw [hp] at h1
   repeat' (first
  | ((first | refine zaf ?_ | refine zaj ?_ | fail); simp [hx, hca])
  | (refine ⟨by omega, ?_⟩)
  | ((first | refine zag ?_ | refine zai ?_ | refine zat ?_ | fail); simp [hx, hca])
  | (refine zap ?_; simp only [zao])
  | (refine ⟨?_, by omega⟩)
  | (intro hc <;> (try (exfalso; omega)))
  | (refine CallP.fE (h1) (by first | rfl | fail) (by first | simp [hx, hca] <;> rfl | fail) ?_; (try simp [hcl, hx, hca]))
  | fail)
   refine LoopW.next ⟨i + 1, by omega, zbE hx hb hp⟩ (by simp; omega) ?_
   exact (Wk.env rfl rfl rfl (by simp [wkE, St.lp, zam, zaa, getK] <;> (try (intros; simp_all; done)) <;> (try (intros; omega)) <;> (try grind)))
  ·rw [hp] at h1
   repeat' (first
  | ((first | refine zaf ?_ | refine zaj ?_ | refine zag ?_ | refine zai ?_ | fail); simp [hx, hca])
  | ((first | refine zaq ?_ | refine zap ?_ | fail); simp only [zao])
  | (refine ⟨?_, by omega⟩)
  | (intro hc <;> (try (exfalso; omega)))
  | (refine CallP.fE (h1) (by first | rfl | fail) (by first | simp [hx, hca] <;> rfl | fail) ?_; (try simp [hcl, hx, hca]))
  | fail)
   (refine EndOK.val (.inr rfl) ?_; simp [zaJ, zah, zau, Tryz.results141])
   rw [zip hb hx hp]
   omega
theorem ziA (l : List (Exp)) (f : FuncId) (caps : List U) (p : Exp → Bool) (hf : ∀ n ∈ l, Fun Tryz.prog f (zhe n :: caps.map .u) (· = .u (.bool (p n)))) (hcl : zan Tryz.prog f = true)
  (hca : ∀ o, zcA o (caps.map .u) = some (caps.map .u, [])) (hcb : ∀ o, zbQ o (caps.map .u) = some (caps, [])) : Fun Tryz.prog 122 [.u (zqq l), .fnc (.func f) (caps.map .u)] (· = .u (.bool (l.any p))) := by
 have h1 := zmm l f caps p hf hcl hca
 (refine Fun.of_body Tryz.func122 rfl (by simp) fun Γ hn => ?_); simp only [entry, ziC, ziN, maC, maN, oA, Tryz.ntmps122]
 simp only [zqq] at h1 ⊢
 repeat' (first
  | ((first | refine zaf ?_ | refine zaj ?_ | refine zag ?_ | fail); simp [hcb])
  | (refine zaq ?_; simp only [zao])
  | (refine CallP.fE (h1) (by first | rfl | fail) (by first | simp [hcb] <;> rfl | fail) ?_; (try simp [hcl, hcb]))
  | fail)
 (refine EndOK.val (.inr rfl) ?_; simp [zaJ, zah, zau, Tryz.results122])
 have h2 := ziq p l 0 (by omega)
 rw [Bool.eq_iff_iff]
 simpa using h2
def zpq (e : Exp) : Bool := decide (e.s = []) && decide (0 ≤ e.unit) && decide (e.unit < 5) && decide (0 ≤ e.n) && decide (e.n ≤ if e.unit = 0 then 1 else 1099511627776)
def zaH : Nat → Exp → Bool
 | 0, _ => false
 | d + 1, e => decide ((e.args.length : Int) = zc7 e.op) && (if e.op = 0 then zpq e else if e.n ≠ 0 ∨ e.unit ≠ 0 then false else if e.op = 1 then zcy e.s else decide (e.s = []) && !e.args.any (fun x => !zaH d x))
set_option maxRecDepth 100000 in
set_option maxHeartbeats 4000000 in
theorem zi8 : ∀ (d : Nat) (e : Exp), (d : Int) ≤ 100 → Fun Tryz.prog 69 [zhe e, .u (.int .i64 d)] (· = .u (.bool (zaH d e)))
 | 0, e, _ => by
  (refine Fun.of_body Tryz.func69 rfl (by simp) fun Γ hn => ?_); simp only [entry, ziC, ziN, maC, maN, oA, Tryz.ntmps69]
  simp only [zhe]
  repeat' (first
  | ((first | refine zaf ?_ | refine zeP ?_ | refine zaj ?_ | refine zag ?_ | refine zai ?_ | fail); simp)
  | (refine zf8 ?_)
  | (refine hk _ ?_; clear hk k; simp only [zao])
  | (refine zeO rfl (by kernel_rfl) (by kernel_rfl) fun k hk => ?_; simp)
  | (refine ze2 rfl (by simp) (fun hc => ?_) (fun hc => ?_) <;> (try simp at hc) <;> (try (exfalso; omega)) <;> (try simp))
  | (refine zaq ?_; simp only [zao])
  | fail)
  (refine EndOK.val (.inr rfl) ?_; simp [zaJ, zah, zau, Tryz.results69])
  rfl
 | d + 1, e, hd => by
  have hr : ∀ x : Exp, Fun Tryz.prog 123 (zhe x :: [U.row [.int .i64 ((d + 1 : Nat) : Int)] 0].map .u) (· = .u (.bool (!zaH d x))) := fun x => by
   have h1 := zi8 d x (by omega)
   (refine Fun.of_body Tryz.func123 rfl (by simp) fun Γ hn => ?_); simp only [entry, ziC, ziN, maC, maN, oA, Tryz.ntmps123]
   simp only [zhe] at h1 ⊢
   repeat' (first
  | ((first | refine zaf ?_ | refine zaj ?_ | fail); simp)
  | (refine ⟨by omega, ?_⟩)
  | (refine zag ?_; simp)
  | (refine zaq ?_; simp only [zao])
  | (refine CallP.fE (h1) (by first | rfl | fail) (by first | (simp; done) | (simp; rfl) | fail) ?_; (try simp))
  | fail)
   (refine EndOK.val (.inr rfl) ?_; simp [zaJ, zah, zau, Tryz.results123])
  have hcon := ziA e.args 123 [U.row [.int .i64 ((d + 1 : Nat) : Int)] 0] (fun x => !zaH d x) (fun x _ => hr x) (by simp) (fun _ => rfl) (fun _ => rfl)
  have hnam := zeT e.s
  have hopr := zjr e.op
  simp only [List.map_cons, List.map_nil] at hcon
  rw [zaH]
  unfold zpq
  generalize (e.args.any fun x => !zaH d x) = z at hcon ⊢
  generalize zcy e.s = nm at hnam ⊢
  generalize hop : zc7 e.op = oi at hopr ⊢
  (refine Fun.of_body Tryz.func69 rfl (by simp) fun Γ hn => ?_); simp only [entry, ziC, ziN, maC, maN, oA, Tryz.ntmps69]
  rw [zpV] at hcon
  simp only [zhe]
  by_cases hlen : (e.args.length : Int) = oi
  case neg =>
   repeat' (first
  | ((first | refine zaf ?_ | refine zeP ?_ | refine zaj ?_ | refine zag ?_ | refine zai ?_ | fail); simp [hlen])
  | (refine zf8 ?_)
  | (refine hk _ ?_; clear hk k; simp only [zao])
  | (refine zeO rfl (by kernel_rfl) (by kernel_rfl) fun k hk => ?_; simp [hlen])
  | (refine ze2 rfl (by simp [hlen]) (fun hc => ?_) (fun hc => ?_) <;> (try simp [hlen] at hc) <;> (try (exfalso; omega)) <;> (try simp [hlen]))
  | (refine zaq ?_; simp only [zao])
  | (refine CallV.fun_ (hopr) (by first | rfl | fail) (by first | simp [hlen] <;> rfl | fail) ?_ <;> (try simp [hlen]))
  | fail)
   (refine EndOK.val (.inr rfl) ?_; simp [zaJ, zah, zau, Tryz.results69])
   try (simp_all; done)
  by_cases h0 : e.op = 0
  case pos =>
   by_cases hu : e.unit = 0
   all_goals
    repeat' (first
  | ((first | refine zaf ?_ | refine zeP ?_ | refine zaj ?_ | refine zag ?_ | refine zai ?_ | fail); simp [hlen, h0, hu])
  | (refine zf8 ?_)
  | (refine hk _ ?_; clear hk k; simp only [zao])
  | (refine zeO rfl (by kernel_rfl) (by kernel_rfl) fun k hk => ?_; simp [hlen, h0, hu])
  | (refine ze2 rfl (by simp [hlen, h0, hu]) (fun hc => ?_) (fun hc => ?_) <;> (try simp [hlen, h0, hu] at hc) <;> (try (exfalso; omega)) <;> (try simp [hlen, h0, hu]))
  | (refine zat ?_; simp [hlen, h0, hu])
  | ((first | refine zaq ?_ | refine zap ?_ | fail); simp only [zao])
  | (refine ⟨fun hc => ?_, fun hc => ?_⟩ <;> (try (exfalso; omega)))
  | (refine CallV.fun_ (hopr) (by first | rfl | fail) (by first | simp [hlen, h0, hu] <;> rfl | fail) ?_ <;> (try simp [hlen, h0, hu]))
  | fail)
    all_goals
     (refine EndOK.val (.inr rfl) ?_; simp [zaJ, zah, zau, Tryz.results69])
   all_goals clear hr hopr hcon hnam
   all_goals grind
  by_cases hnu : e.n ≠ 0 ∨ e.unit ≠ 0
  case pos =>
   repeat' (first
  | ((first | refine zaf ?_ | refine zeP ?_ | refine zaj ?_ | refine zag ?_ | refine zai ?_ | fail); simp [hlen, h0])
  | (refine zf8 ?_)
  | (refine hk _ ?_; clear hk k; simp only [zao])
  | (refine zeO rfl (by kernel_rfl) (by kernel_rfl) fun k hk => ?_; simp [hlen, h0])
  | (refine ze2 rfl (by simp [hlen, h0]) (fun hc => ?_) (fun hc => ?_) <;> (try simp [hlen, h0] at hc) <;> (try (exfalso; omega)) <;> (try simp [hlen, h0]))
  | ((first | refine zaq ?_ | refine zap ?_ | fail); simp only [zao])
  | (refine ⟨?_, by omega⟩)
  | (refine ⟨fun hc => ?_, fun hc => ?_⟩ <;> (try (exfalso; omega)))
  | (intro hc <;> (try (exfalso; omega)))
  | (refine CallV.fun_ (hopr) (by first | rfl | fail) (by first | simp [hlen, h0] <;> rfl | fail) ?_ <;> (try simp [hlen, h0]))
  | fail)
   all_goals
    (refine EndOK.val (.inr rfl) ?_; simp [zaJ, zah, zau, Tryz.results69])
   all_goals clear hr hopr hcon hnam
   all_goals grind
  by_cases h1 : e.op = 1
  case pos =>
   repeat' (first
  | ((first | refine zaf ?_ | refine zeP ?_ | refine zaj ?_ | fail); simp [hlen, h0, h1])
  | (refine ⟨by omega, ?_⟩)
  | ((first | refine zag ?_ | refine zai ?_ | fail); simp [hlen, h0, h1])
  | (refine zf8 ?_)
  | (refine hk _ ?_; clear hk k; simp only [zao])
  | (refine zeO rfl (by kernel_rfl) (by kernel_rfl) fun k hk => ?_; simp [hlen, h0, h1])
  | (refine ze2 rfl (by simp [hlen, h0, h1]) (fun hc => ?_) (fun hc => ?_) <;> (try simp [hlen, h0, h1] at hc) <;> (try (exfalso; omega)) <;> (try simp [hlen, h0, h1]))
  | ((first | refine zaq ?_ | refine zap ?_ | fail); simp only [zao])
  | (refine ⟨?_, by omega⟩)
  | (intro hc <;> (try (exfalso; omega)))
  | (refine CallV.fun_ (hopr) (by first | rfl | fail) (by first | simp [hlen, h0, h1] <;> rfl | fail) ?_ <;> (try simp [hlen, h0, h1]))
  | (refine CallP.fE (hnam) (by first | rfl | fail) (by first | simp [hlen, h0, h1] <;> rfl | fail) ?_; (try simp [hlen, h0, h1]))
  | fail)
   all_goals
    (refine EndOK.val (.inr rfl) ?_; simp [zaJ, zah, zau, Tryz.results69])
   all_goals clear hr hopr hcon hnam
   all_goals grind
  by_cases hs : e.s = []
  all_goals
   repeat' (first
  | ((first | refine zaf ?_ | refine zeP ?_ | refine zaj ?_ | fail); simp [hlen, h0, h1, hs])
  | (refine ⟨by omega, ?_⟩)
  | ((first | refine zag ?_ | refine zai ?_ | fail); simp [hlen, h0, h1, hs])
  | (refine zf8 ?_)
  | (refine hk _ ?_; clear hk k; simp only [zao])
  | (refine zeO rfl (by kernel_rfl) (by kernel_rfl) fun k hk => ?_; simp [hlen, h0, h1, hs])
  | (refine ze2 rfl (by simp [hlen, h0, h1, hs]) (fun hc => ?_) (fun hc => ?_) <;> (try simp [hlen, h0, h1, hs] at hc) <;> (try (exfalso; omega)) <;> (try simp [hlen, h0, h1, hs]))
  | ((first | refine zaq ?_ | refine zap ?_ | fail); simp only [zao])
  | (refine ⟨?_, by omega⟩)
  | (intro hc <;> (try (exfalso; omega)))
  | (refine CallV.fun_ (hopr) (by first | rfl | fail) (by first | simp [hlen, h0, h1, hs] <;> rfl | fail) ?_ <;> (try simp [hlen, h0, h1, hs]))
  | (refine CallP.fE (hcon) (by first | rfl | fail) (by first | simp [hlen, h0, h1, hs] <;> rfl | fail) ?_; (try simp [hlen, h0, h1, hs]))
  | fail)
   all_goals
    (refine EndOK.val (.inr rfl) ?_; simp [zaJ, zah, zau, Tryz.results69])
  all_goals clear hr hopr hcon hnam
  all_goals grind
theorem zdE (e : Exp) : Fun Tryz.prog 25 [zhe e] (· = .u (.bool (zaH 12 e))) := by
 have h1 := zi8 12 e (by omega)
 (refine Fun.of_body Tryz.func25 rfl (by simp) fun Γ hn => ?_); simp only [entry, ziC, ziN, maC, maN, oA, Tryz.ntmps25]
 simp only [zhe] at h1 ⊢
 repeat' (first
  | ((first | refine zaf ?_ | refine zaj ?_ | refine zag ?_ | fail); simp)
  | (refine zaq ?_; simp only [zao])
  | (refine CallP.fE (h1) (by first | rfl | fail) (by first | (simp; done) | (simp; rfl) | fail) ?_; (try simp))
  | fail)
 (refine EndOK.val (.inr rfl) ?_; simp [zaJ, zah, zau, Tryz.results25])
def zlb (l : Let) : List U := [.str l.name, .int .i64 l.body.op, .int .i64 l.body.n, .int .i64 l.body.unit, .str l.body.s, .sl (l.body.args.map Exp.row)]
def znA (l : Let) : D := .u (.agg [.str l.name, .int .i64 l.body.op, .int .i64 l.body.n, .int .i64 l.body.unit, .str l.body.s, .sl (l.body.args.map Exp.row)])
def zgT (l : List Let) : U := .sl (l.map fun l => [.str l.name, .int .i64 l.body.op, .int .i64 l.body.n, .int .i64 l.body.unit, .str l.body.s, .sl (l.body.args.map Exp.row)])
theorem zmk (l : List (Let)) (f : FuncId) (caps : List U) (p : Let → Bool) (hf : ∀ n ∈ l, Fun Tryz.prog f (znA n :: caps.map .u) (· = .u (.bool (p n)))) (hcl : zan Tryz.prog f = true)
  (hca : ∀ o, zcA o (caps.map .u) = some (caps.map .u, [])) : Fun Tryz.prog 120 [.u (zgT l), .fnc (.func f) (caps.map .u)] (· = .u (.int .i64 (zhj p l 0))) := by
 (refine Fun.of_body Tryz.func120 rfl (by simp) fun Γ hn => ?_); simp only [entry, ziC, ziN, maC, maN, oA, Tryz.ntmps120]
 simp only [zgT]
 refine zj7 (x := 0) rfl fun hl => ?_
 simp at hl
 repeat' (first
  | ((first | refine zaf ?_ | refine zaj ?_ | refine zag ?_ | refine zav ?_ | fail); simp)
  | fail)
 refine zdg (α := { i : Nat // i ≤ l.length ∧ ∀ c ∈ l.take i, p c = false }) [0, 1, 7] (fun i => [(8, .u (.int .i64 i.1))]) (fun i => l.length - i.1) ⟨0, by omega, by simp⟩ ?_ ?_
 ·exact (Wk.env rfl rfl rfl (by simp [wkE, St.lp, zam, zaa, getK] <;> (try (intros; simp_all; done)) <;> (try (intros; omega)) <;> (try grind)))
 rintro ⟨i, hi, hb⟩
 simp [St.lp, St.only, zam, zaa, getK]
 rcases hx : l[i]? with _ | n
 ·have hge : l.length ≤ i := by simpa using hx
  repeat' (first
  | ((first | refine zaf ?_ | refine zaj ?_ | fail); simp [hx])
  | (refine ⟨by omega, ?_⟩)
  | (refine zag ?_; simp [hx])
  | (refine zaq ?_; simp only [zao])
  | (refine zbb ?_; simp [zao])
  | (intro hc <;> (try (exfalso; omega)))
  | fail)
  (refine EndOK.val (.inr rfl) ?_; simp [zaJ, zah, zau, Tryz.results120])
  rw [List.take_of_length_le hge] at hb
  exact (zfq hb).symm
 ·have hlt : i < l.length := (lGE.1 hx).1
  have h1 := hf n (List.mem_of_getElem? hx)
  simp only [znA] at h1
  cases hp : p n
  ·rw [hp] at h1
   repeat' (first
  | ((first | refine zaf ?_ | refine zaj ?_ | fail); simp [hx, hca])
  | (refine ⟨by omega, ?_⟩)
  | ((first | refine zag ?_ | refine zai ?_ | refine zat ?_ | fail); simp [hx, hca])
  | (refine zap ?_; simp only [zao])
  | (refine ⟨?_, by omega⟩)
  | (intro hc <;> (try (exfalso; omega)))
  | (refine CallP.fE (h1) (by first | rfl | fail) (by first | simp [hx, hca] <;> rfl | fail) ?_; (try simp [hcl, hx, hca]))
  | fail)
   refine LoopW.next ⟨i + 1, by omega, zbE hx hb hp⟩ (by simp; omega) ?_
   exact (Wk.env rfl rfl rfl (by simp [wkE, St.lp, zam, zaa, getK] <;> (try (intros; simp_all; done)) <;> (try (intros; omega)) <;> (try grind)))
  ·rw [hp] at h1
   repeat' (first
  | ((first | refine zaf ?_ | refine zaj ?_ | refine zag ?_ | refine zai ?_ | fail); simp [hx, hca])
  | ((first | refine zaq ?_ | refine zap ?_ | fail); simp only [zao])
  | (refine ⟨?_, by omega⟩)
  | (intro hc <;> (try (exfalso; omega)))
  | (refine CallP.fE (h1) (by first | rfl | fail) (by first | simp [hx, hca] <;> rfl | fail) ?_; (try simp [hcl, hx, hca]))
  | fail)
   (refine EndOK.val (.inr rfl) ?_; simp [zaJ, zah, zau, Tryz.results120])
   rw [zip hb hx hp]
   omega
theorem zfx (l : List (Let)) (f : FuncId) (caps : List U) (p : Let → Bool) (hf : ∀ n ∈ l, Fun Tryz.prog f (znA n :: caps.map .u) (· = .u (.bool (p n)))) (hcl : zan Tryz.prog f = true)
  (hca : ∀ o, zcA o (caps.map .u) = some (caps.map .u, [])) (hcb : ∀ o, zbQ o (caps.map .u) = some (caps, [])) : Fun Tryz.prog 67 [.u (zgT l), .fnc (.func f) (caps.map .u)] (· = .u (.bool (l.any p))) := by
 have h1 := zmk l f caps p hf hcl hca
 (refine Fun.of_body Tryz.func67 rfl (by simp) fun Γ hn => ?_); simp only [entry, ziC, ziN, maC, maN, oA, Tryz.ntmps67]
 simp only [zgT] at h1 ⊢
 repeat' (first
  | ((first | refine zaf ?_ | refine zaj ?_ | refine zag ?_ | fail); simp [hcb])
  | (refine zaq ?_; simp only [zao])
  | (refine CallP.fE (h1) (by first | rfl | fail) (by first | simp [hcb] <;> rfl | fail) ?_; (try simp [hcl, hcb]))
  | fail)
 (refine EndOK.val (.inr rfl) ?_; simp [zaJ, zah, zau, Tryz.results67])
 have h2 := ziq p l 0 (by omega)
 rw [Bool.eq_iff_iff]
 simpa using h2
def zqE (n : Int) : D := .u (.int .i64 n)
def zpP (l : List Int) : U := .sl (l.map fun n => [.int .i64 n])
theorem zml (l : List (Int)) (f : FuncId) (caps : List U) (p : Int → Bool) (hf : ∀ n ∈ l, Fun Tryz.prog f (zqE n :: caps.map .u) (· = .u (.bool (p n)))) (hcl : zan Tryz.prog f = true)
  (hca : ∀ o, zcA o (caps.map .u) = some (caps.map .u, [])) : Fun Tryz.prog 140 [.u (zpP l), .fnc (.func f) (caps.map .u)] (· = .u (.int .i64 (zhj p l 0))) := by
 (refine Fun.of_body Tryz.func140 rfl (by simp) fun Γ hn => ?_); simp only [entry, ziC, ziN, maC, maN, oA, Tryz.ntmps140]
 simp only [zpP]
 refine zj7 (x := 0) rfl fun hl => ?_
 simp at hl
 repeat' (first
  | ((first | refine zaf ?_ | refine zaj ?_ | refine zag ?_ | refine zav ?_ | fail); simp)
  | fail)
 refine zdg (α := { i : Nat // i ≤ l.length ∧ ∀ c ∈ l.take i, p c = false }) [0, 1, 7] (fun i => [(8, .u (.int .i64 i.1))]) (fun i => l.length - i.1) ⟨0, by omega, by simp⟩ ?_ ?_
 ·exact (Wk.env rfl rfl rfl (by simp [wkE, St.lp, zam, zaa, getK] <;> (try (intros; simp_all; done)) <;> (try (intros; omega)) <;> (try grind)))
 rintro ⟨i, hi, hb⟩
 simp [St.lp, St.only, zam, zaa, getK]
 rcases hx : l[i]? with _ | n
 ·have hge : l.length ≤ i := by simpa using hx
  repeat' (first
  | ((first | refine zaf ?_ | refine zaj ?_ | fail); simp [hx])
  | (refine ⟨by omega, ?_⟩)
  | (refine zag ?_; simp [hx])
  | (refine zaq ?_; simp only [zao])
  | (refine zbb ?_; simp [zao])
  | (intro hc <;> (try (exfalso; omega)))
  | fail)
  (refine EndOK.val (.inr rfl) ?_; simp [zaJ, zah, zau, Tryz.results140])
  rw [List.take_of_length_le hge] at hb
  exact (zfq hb).symm
 ·have hlt : i < l.length := (lGE.1 hx).1
  have h1 := hf n (List.mem_of_getElem? hx)
  simp only [zqE] at h1
  cases hp : p n
  ·rw [hp] at h1
   repeat' (first
  | ((first | refine zaf ?_ | refine zaj ?_ | fail); simp [hx, hca])
  | (refine ⟨by omega, ?_⟩)
  | ((first | refine zag ?_ | refine zai ?_ | refine zat ?_ | fail); simp [hx, hca])
  | (refine zap ?_; simp only [zao])
  | (refine ⟨?_, by omega⟩)
  | (intro hc <;> (try (exfalso; omega)))
  | (refine CallP.fE (h1) (by first | rfl | fail) (by first | simp [hx, hca] <;> rfl | fail) ?_; (try simp [hcl, hx, hca]))
  | fail)
   refine LoopW.next ⟨i + 1, by omega, zbE hx hb hp⟩ (by simp; omega) ?_
   exact (Wk.env rfl rfl rfl (by simp [wkE, St.lp, zam, zaa, getK] <;> (try (intros; simp_all; done)) <;> (try (intros; omega)) <;> (try grind)))
  ·rw [hp] at h1
   repeat' (first
  | ((first | refine zaf ?_ | refine zaj ?_ | refine zag ?_ | refine zai ?_ | fail); simp [hx, hca])
  | ((first | refine zaq ?_ | refine zap ?_ | fail); simp only [zao])
  | (refine ⟨?_, by omega⟩)
  | (intro hc <;> (try (exfalso; omega)))
  | (refine CallP.fE (h1) (by first | rfl | fail) (by first | simp [hx, hca] <;> rfl | fail) ?_; (try simp [hcl, hx, hca]))
  | fail)
   (refine EndOK.val (.inr rfl) ?_; simp [zaJ, zah, zau, Tryz.results140])
   rw [zip hb hx hp]
   omega
theorem ziz (l : List (Int)) (f : FuncId) (caps : List U) (p : Int → Bool) (hf : ∀ n ∈ l, Fun Tryz.prog f (zqE n :: caps.map .u) (· = .u (.bool (p n)))) (hcl : zan Tryz.prog f = true)
  (hca : ∀ o, zcA o (caps.map .u) = some (caps.map .u, [])) (hcb : ∀ o, zbQ o (caps.map .u) = some (caps, [])) : Fun Tryz.prog 118 [.u (zpP l), .fnc (.func f) (caps.map .u)] (· = .u (.bool (l.any p))) := by
 have h1 := zml l f caps p hf hcl hca
 (refine Fun.of_body Tryz.func118 rfl (by simp) fun Γ hn => ?_); simp only [entry, ziC, ziN, maC, maN, oA, Tryz.ntmps118]
 simp only [zpP] at h1 ⊢
 repeat' (first
  | ((first | refine zaf ?_ | refine zaj ?_ | refine zag ?_ | fail); simp [hcb])
  | (refine zaq ?_; simp only [zao])
  | (refine CallP.fE (h1) (by first | rfl | fail) (by first | simp [hcb] <;> rfl | fail) ?_; (try simp [hcl, hcb]))
  | fail)
 (refine EndOK.val (.inr rfl) ?_; simp [zaJ, zah, zau, Tryz.results118])
 have h2 := ziq p l 0 (by omega)
 rw [Bool.eq_iff_iff]
 simpa using h2
def inB (lo hi : Int) (l : List Int) : Bool := !l.any fun n => decide (n < lo) || decide (hi < n)
theorem zpQ (lo hi n : Int) : Fun Tryz.prog 119 (zqE n :: [U.row [.int .i64 lo] 0, U.row [.int .i64 hi] 0].map .u) (· = .u (.bool (decide (n < lo) || decide (hi < n)))) := by
 simp only [zqE, List.map_cons, List.map_nil]
 (refine Fun.of_body Tryz.func119 rfl (by simp) fun Γ hn => ?_); simp only [entry, ziC, ziN, maC, maN, oA, Tryz.ntmps119]
 repeat' (first
  | ((first | refine zaf ?_ | refine zaj ?_ | refine zag ?_ | fail); simp)
  | (refine zaq ?_; simp only [zao])
  | (refine ⟨fun hc => ?_, fun hc => ?_⟩ <;> (try (exfalso; omega)))
  | fail)
 all_goals
  (refine EndOK.val (.inr rfl) ?_; simp [zaJ, zah, zau, Tryz.results119])
 all_goals grind
theorem zjJ (lo hi : Int) (l : List Int) : Fun Tryz.prog 66 [.u (.int .i64 lo), .u (.int .i64 hi), .u (zpP l)] (· = .u (.bool (inB lo hi l))) := by
 have h1 := ziz l 119 [U.row [.int .i64 lo] 0, U.row [.int .i64 hi] 0] _ (fun n _ => zpQ lo hi n) (by simp) (fun _ => rfl) (fun _ => rfl)
 simp only [List.map_cons, List.map_nil] at h1
 unfold inB
 (refine Fun.of_body Tryz.func66 rfl (by simp) fun Γ hn => ?_); simp only [entry, ziC, ziN, maC, maN, oA, Tryz.ntmps66]
 simp only [zpP] at h1 ⊢
 repeat' (first
  | ((first | refine zaf ?_ | refine zaj ?_ | refine zag ?_ | fail); simp)
  | (refine zaq ?_; simp only [zao])
  | (refine CallP.fE (h1) (by first | rfl | fail) (by first | (simp; done) | (simp; rfl) | fail) ?_; (try simp))
  | fail)
 (refine EndOK.val (.inr rfl) ?_; simp [zaJ, zah, zau, Tryz.results66])
theorem zlO (x l : Let) : Fun Tryz.prog 68 (znA x :: [U.row (zlb l) 0].map .u) (· = .u (.bool (decide (x.name = l.name)))) := by
 simp only [znA, zlb, List.map_cons, List.map_nil]
 (refine Fun.of_body Tryz.func68 rfl (by simp) fun Γ hn => ?_); simp only [entry, ziC, ziN, maC, maN, oA, Tryz.ntmps68]
 repeat' (first
  | ((first | refine zaf ?_ | refine zaj ?_ | refine zag ?_ | fail); simp)
  | (refine zaq ?_; simp only [zao])
  | fail)
 (refine EndOK.val (.inr rfl) ?_; simp [zaJ, zah, zau, Tryz.results68])
structure By where
 kind : Int
 period : Int
 grace : Int
 wait : Int
 last : Int
 order : Int
 sld : Bool
 backs : Int
 voices : Int
 jury : Int
 fund : Int
 lets : List Let
 due : Exp
 fine : Exp
 pay : Exp
 cover : Exp
 hold : Exp
 deriving Inhabited
def zbz (b : By) : List U := [.int .i64 b.kind, .int .i64 b.period, .int .i64 b.grace, .int .i64 b.wait, .int .i64 b.last, .int .i64 b.order, .bool b.sld, .int .i64 b.backs, .int .i64 b.voices, .int .i64 b.jury, .int .i64 b.fund,
 .sl (b.lets.map fun l => [.str l.name, .int .i64 l.body.op, .int .i64 l.body.n, .int .i64 l.body.unit, .str l.body.s, .sl (l.body.args.map Exp.row)]),
 .int .i64 b.due.op, .int .i64 b.due.n, .int .i64 b.due.unit, .str b.due.s, .sl (b.due.args.map Exp.row),
 .int .i64 b.fine.op, .int .i64 b.fine.n, .int .i64 b.fine.unit, .str b.fine.s, .sl (b.fine.args.map Exp.row),
 .int .i64 b.pay.op, .int .i64 b.pay.n, .int .i64 b.pay.unit, .str b.pay.s, .sl (b.pay.args.map Exp.row),
 .int .i64 b.cover.op, .int .i64 b.cover.n, .int .i64 b.cover.unit, .str b.cover.s, .sl (b.cover.args.map Exp.row),
 .int .i64 b.hold.op, .int .i64 b.hold.n, .int .i64 b.hold.unit, .str b.hold.s, .sl (b.hold.args.map Exp.row)]
def zpS (b : By) : Bool := inB 0 2 [b.kind] && inB 0 2 [b.order] && inB 1 1000 [b.period, b.last] && inB 0 1000 [b.grace, b.wait, b.voices, b.fund] && inB 0 60 [b.backs, b.jury]
def zhg (seen : List Let) : List Let → Bool
 | [] => true
 | l :: r => zcy l.name && zaH 12 l.body && !seen.any (fun x => decide (x.name = l.name)) && zhg (seen ++ [l]) r
theorem zoI {L : List Let} {i : Nat} {l : Let} (h : L[i]? = some l) : zhg (L.take i) (L.drop i) = (zcy l.name && zaH 12 l.body && !(L.take i).any (fun x => decide (x.name = l.name)) && zhg (L.take (i + 1)) (L.drop (i + 1))) := by
 obtain ⟨hi, rfl⟩ := lGE.1 h
 rw [List.drop_eq_getElem_cons hi, zhg, List.take_succ_eq_append_getElem hi]
def zpW (b : By) : Bool := zaH 12 b.due && zaH 12 b.fine && zaH 12 b.pay && zaH 12 b.cover && zaH 12 b.hold
def zey (b : By) : Bool := zpS b && !(b.sld && decide (b.kind ≠ 1)) && decide (b.lets.length ≤ 20) && zhg [] b.lets && zpW b
set_option maxRecDepth 100000 in
set_option maxHeartbeats 4000000 in
theorem zee (b : By) : Fun Tryz.prog 23 [.u (.agg (zbz b))] (· = .u (.bool (zey b))) := by
 have i1 := zjJ 0 2 [b.kind]
 have i2 := zjJ 0 2 [b.order]
 have i3 := zjJ 1 1000 [b.period, b.last]
 have i4 := zjJ 0 1000 [b.grace, b.wait, b.voices, b.fund]
 have i5 := zjJ 0 60 [b.backs, b.jury]
 simp only [zpP, List.map_cons, List.map_nil] at i1 i2 i3 i4 i5
 have hr : ∀ e : Exp, Fun Tryz.prog 25 [.u (.agg [.int .i64 e.op, .int .i64 e.n, .int .i64 e.unit, .str e.s, .sl (e.args.map Exp.row)])] (· = .u (.bool (zaH 12 e))) := fun e => zdE e
 have e1 := hr b.due
 have e2 := hr b.fine
 have e3 := hr b.pay
 have e4 := hr b.cover
 have e5 := hr b.hold
 unfold zey zpS zpW
 generalize inB 0 2 [b.kind] = c1 at i1 ⊢
 generalize inB 0 2 [b.order] = c2 at i2 ⊢
 generalize inB 1 1000 [b.period, b.last] = c3 at i3 ⊢
 generalize inB 0 1000 [b.grace, b.wait, b.voices, b.fund] = c4 at i4 ⊢
 generalize inB 0 60 [b.backs, b.jury] = c5 at i5 ⊢
 (refine Fun.of_body Tryz.func23 rfl (by simp) fun Γ hn => ?_); simp only [entry, ziC, ziN, maC, maN, oA, Tryz.ntmps23]
 simp only [zbz]
 repeat' (first
  | ((first | refine zaf ?_ | refine zaj ?_ | refine zag ?_ | refine zai ?_ | refine zav ?_ | fail); simp)
  | ((first | refine zaq ?_ | refine zap ?_ | fail); simp only [zao])
  | (refine ⟨fun hc => ?_, fun hc => ?_⟩ <;> (try (exfalso; omega)))
  | (refine CallP.fE (i1) (by first | rfl | fail) (by first | (simp; done) | (simp; rfl) | fail) ?_; (try simp))
  | (refine CallP.fE (i2) (by first | rfl | fail) (by first | (simp; done) | (simp; rfl) | fail) ?_; (try simp))
  | (refine CallP.fE (i3) (by first | rfl | fail) (by first | (simp; done) | (simp; rfl) | fail) ?_; (try simp))
  | (refine CallP.fE (i4) (by first | rfl | fail) (by first | (simp; done) | (simp; rfl) | fail) ?_; (try simp))
  | (refine CallP.fE (i5) (by first | rfl | fail) (by first | (simp; done) | (simp; rfl) | fail) ?_; (try simp))
  | fail)
 all_goals try ((refine EndOK.val (.inr rfl) ?_; simp [zaJ, zah, zau, Tryz.results23]); clear i1 i2 i3 i4 i5 hr e1 e2 e3 e4 e5; grind)
 all_goals
  refine zdg (α := { i : Nat // i ≤ b.lets.length ∧ zhg [] b.lets = zhg (b.lets.take i) (b.lets.drop i) }) [1, 62, 63] (fun i => [(64, .u (.int .i64 i.1))]) (fun i => b.lets.length - i.1) ⟨0, by omega, by simp⟩ ?_ ?_
  ·exact (Wk.cut rfl (by simp [hn, St.lp]) (by simp [wkO, St.lp, zaa, getK, Ob.under, D.under, zad, zae]) (by simp [wkU, St.lp, zam, zaa, getK, D.under]) (by simp [wkE, St.lp, zam, zaa, getK] <;> (try (intros; simp_all; done)) <;> (try (intros; omega)) <;> (try grind)))
  rintro ⟨i, hi, hb⟩
  simp [St.lp, St.only, zam, zaa, getK]
  rcases hx : b.lets[i]? with _ | l
  ·have hge : b.lets.length ≤ i := by simpa using hx
   have hb' : zhg [] b.lets = true := by rw [hb, List.drop_of_length_le hge]; rfl
   generalize zaH 12 b.due = x1 at e1 ⊢
   generalize zaH 12 b.fine = x2 at e2 ⊢
   generalize zaH 12 b.pay = x3 at e3 ⊢
   generalize zaH 12 b.cover = x4 at e4 ⊢
   generalize zaH 12 b.hold = x5 at e5 ⊢
   repeat' (first
  | ((first | refine zaf ?_ | refine zaj ?_ | fail); simp [hx])
  | (refine ⟨by omega, ?_⟩)
  | (refine zag ?_; simp [hx])
  | (refine zaq ?_; simp only [zao])
  | (refine zbb ?_; simp [zao])
  | (refine ⟨fun hc => ?_, fun hc => ?_⟩ <;> (try (exfalso; omega)))
  | (intro hc <;> (try (exfalso; omega)))
  | (refine CallP.fE (e1) (by first | rfl | fail) (by first | simp [hx] <;> rfl | fail) ?_; (try simp [hx]))
  | (refine CallP.fE (e2) (by first | rfl | fail) (by first | simp [hx] <;> rfl | fail) ?_; (try simp [hx]))
  | (refine CallP.fE (e3) (by first | rfl | fail) (by first | simp [hx] <;> rfl | fail) ?_; (try simp [hx]))
  | (refine CallP.fE (e4) (by first | rfl | fail) (by first | simp [hx] <;> rfl | fail) ?_; (try simp [hx]))
  | (refine CallP.fE (e5) (by first | rfl | fail) (by first | simp [hx] <;> rfl | fail) ?_; (try simp [hx]))
  | fail)
   all_goals
    (refine EndOK.val (.inr rfl) ?_; simp [zaJ, zah, zau, Tryz.results23])
   all_goals
    clear i1 i2 i3 i4 i5 hr e1 e2 e3 e4 e5
    grind
  ·have hlt : i < b.lets.length := (lGE.1 hx).1
   have hnx := zoI hx
   have e6 := zeT l.name
   have e7 := hr l.body
   have e8 := zfx (b.lets.take i) 68 [U.row (zlb l) 0] _ (fun x _ => zlO x l) (by simp) (fun _ => rfl) (fun _ => rfl)
   simp only [zgT, zlb, List.map_cons, List.map_nil] at e8
   generalize zcy l.name = y1 at e6 hnx
   generalize zaH 12 l.body = y2 at e7 hnx
   generalize ((b.lets.take i).any fun x => decide (x.name = l.name)) = y3 at e8 hnx
   repeat' (first
  | ((first | refine zaf ?_ | refine zaj ?_ | fail); simp [hx])
  | (refine ⟨by omega, ?_⟩)
  | ((first | refine zag ?_ | refine zai ?_ | refine zat ?_ | fail); simp [hx])
  | ((first | refine zaq ?_ | refine zap ?_ | fail); simp only [zao])
  | (refine ⟨?_, by omega⟩)
  | (refine ⟨fun hc => ?_, fun hc => ?_⟩ <;> (try (exfalso; omega)))
  | (intro hc <;> (try (exfalso; omega)))
  | (refine CallP.fE (e6) (by first | rfl | fail) (by first | simp [hx] <;> rfl | fail) ?_; (try simp [hx]))
  | (refine CallP.fE (e7) (by first | rfl | fail) (by first | simp [hx] <;> rfl | fail) ?_; (try simp [hx]))
  | (refine CallP.fE (e8) (by first | rfl | fail) (by first | simp [hx] <;> rfl | fail) ?_; (try simp [hx]))
  | fail)
   all_goals first
    | (refine LoopW.next ⟨i + 1, by omega, by simp_all⟩ (by simp; omega) ?_; exact (Wk.cut rfl (by simp [hn, St.lp]) (by simp [wkO, St.lp, zaa, getK, Ob.under, D.under, zad, zae]) (by simp [wkU, St.lp, zam, zaa, getK, D.under]) (by simp [wkE, St.lp, zam, zaa, getK] <;> (try (intros; simp_all; done)) <;> (try (intros; omega)) <;> (try grind))))
    | ((refine EndOK.val (.inr rfl) ?_; simp [zaJ, zah, zau, Tryz.results23]); clear i1 i2 i3 i4 i5 hr e1 e2 e3 e4 e5 e6 e7 e8; grind)
end Go.Proofs.YthnemhfamhnfjaaGreatDoor
namespace Go.Proofs.YthnemhfamhnfjaaGreatDoor
open Go Go.VL
structure Tok where
 kind : Int
 text : List UInt8
 n : Int
 pos : Int
 deriving DecidableEq, Inhabited
def Tok.row (t : Tok) : List U := [.int .i64 t.kind, .str t.text, .int .i64 t.n, .int .i64 t.pos]
def za4 (c : UInt8) : Bool := decide (c.toNat = 32) || decide (c.toNat = 9) || decide (c.toNat = 10)
def zca (c : UInt8) : Bool := zbp c || zaI c
def za8 (s : List UInt8) : Int := s.foldl (fun n c => 10 * n + ((c.toNat : Int) - 48)) 0
def zdQ (s : List UInt8) : Option Int :=
 if s = [] ∨ zbA zaI s ≠ s.length ∨ (s.head? = some 48 ∧ s ≠ [48]) ∨ 13 < s.length then none else if 1099511627776 < za8 s then none else some (za8 s)
theorem zdL (s : List UInt8) (c : UInt8) : za8 (s ++ [c]) = 10 * za8 s + ((c.toNat : Int) - 48) := by simp [za8]
theorem zem : ∀ (n : Nat) (s : List UInt8), s.length = n → (∀ c ∈ s, zaI c = true) → 0 ≤ za8 s ∧ za8 s < 10 ^ n
 | 0, s, h, _ => by have := List.eq_nil_of_length_eq_zero h; subst this; simp [za8]
 | n + 1, s, h, hd => by
  have hne : s ≠ [] := fun e => by rw [e] at h; simp at h
  obtain ⟨t, c, rfl⟩ : ∃ t c, s = t ++ [c] := ⟨s.dropLast, s.getLast hne, (List.dropLast_concat_getLast hne).symm⟩
  have h1 := zem n t (by simpa using h) (fun x hx => hd x (by simp [hx]))
  have h2 := hd c (by simp)
  simp only [zaI, Bool.and_eq_true, decide_eq_true_eq] at h2
  rw [zdL]
  have : (10 : Int) ^ (n + 1) = 10 * 10 ^ n := by rw [Int.pow_succ]; omega
  omega
end Go.Proofs.YthnemhfamhnfjaaGreatDoor
namespace Go.Proofs.YthnemhfamhnfjaaGreatDoor
open Go Go.VL
def signsL : List (List UInt8) := [[61, 61], [59], [44], [61], [60], [43], [45], [42], [47], [40], [41]]
def ze3 (s : List UInt8) : Except Int Tok := match s with
 | [] => .error 0
 | c :: r => if zbp c = true then
   if zf9 ((c :: r).take (zbA zca (c :: r))) = true then .ok ⟨1, (c :: r).take (zbA zca (c :: r)), 0, 0⟩ else .error 13
  else if zaI c = true then
   match zdQ ((c :: r).take (zbA zaI (c :: r))) with | some n => .ok ⟨2, (c :: r).take (zbA zaI (c :: r)), n, 0⟩ | none => .error 3
  else match signsL.find? fun x => x.isPrefixOf (c :: r) with | some x => .ok ⟨3, x, 0, 0⟩ | none => .error 11
def nextD (s : List UInt8) : D := match ze3 s with | .ok t => .tup [.u (.agg [.int .i64 t.kind, .str t.text, .int .i64 t.n, .int .i64 t.pos]), .u (.int .i64 0)] | .error e => .tup [.u (.agg [.int .i64 0, .str [], .int .i64 0, .int .i64 0]), .u (.int .i64 e)]
end Go.Proofs.YthnemhfamhnfjaaGreatDoor
namespace Go.Proofs.YthnemhfamhnfjaaGreatDoor
open Go Go.VL
attribute [local simp] zde zb7 evPure opd uOf zaF St.put St.at getK binD binI binS binB nilD aggD zhn ziD lookD lookR zcB Go.VL.nextD zcF ziQ ziP zgW zcz mkV zdB zbq zbB mapEff zev zgg Key.kk shiftI arith unD convD zeg loadD cellsAt fieldAddrD fieldD indexAddrD indexD sliceD cutD lenD minmaxD nilCheckD buildD fillD zbU zdn ze5 setAll zcU zff zcx zhN zct St.add zaR zbR rowsOf zd0 zcJ zak zac zaa za9 zcI zaP entry zbO zbY valD zb8 zcA zhf zdz zdA zb1 zbQ zax zaW zbu delAll effD St.effS zdj zbl za5 zdk zbm za7 zcl za6 zaV zcm zdh zbJ zci zbt zcg zch zaK mkD zbL zbC zbP zax zcv D.ids Op.operands Call.operands zbI makeIfD makeFuncD typeAssertD ziB zdR zdS zhX zcD IntKind.bits zcV List.take_of_length_le List.range_succ
attribute [local irreducible] V G H HD HD2 zao Eff CallP CallV EndOK Fun Ret FinOK LoopI LoopW EndW
theorem zn3 (c : UInt8) : Fun Tryz.prog 76 [.u (.int .u8 c.toNat)] (· = .u (.bool (za4 c))) := by
 unfold za4
 (refine Fun.of_body Tryz.func76 rfl (by simp) fun Γ hn => ?_); simp only [entry, ziC, ziN, maC, maN, oA, Tryz.ntmps76]
 repeat' (first
  | ((first | refine zaf ?_ | refine zaj ?_ | refine zag ?_ | fail); simp)
  | (refine zaq ?_; simp only [zao])
  | (refine ⟨fun hc => ?_, fun hc => ?_⟩ <;> (try (exfalso; omega)))
  | fail)
 all_goals
  (refine EndOK.val (.inr rfl) ?_; simp [zaJ, zah, zau, Tryz.results76])
 all_goals first | omega | (rw [Bool.eq_iff_iff]; simp; omega) | (simp; omega)
theorem znh (c : UInt8) : Fun Tryz.prog 124 [.u (.int .u8 c.toNat)] (· = .u (.bool (zca c))) := by
 unfold zca
 (refine Fun.of_body Tryz.func124 rfl (by simp) fun Γ hn => ?_); simp only [entry, ziC, ziN, maC, maN, oA, Tryz.ntmps124]
 repeat' (first
  | ((first | refine zaf ?_ | refine zaj ?_ | refine zag ?_ | fail); simp)
  | (refine zaq ?_; simp only [zao])
  | (refine ⟨fun hc => ?_, fun hc => ?_⟩ <;> (try (exfalso; omega)))
  | (refine CallP.fE (zd2 c) (by first | rfl | fail) (by first | (simp; done) | (simp; rfl) | fail) ?_; (try simp))
  | (refine CallP.fE (zeL c) (by first | rfl | fail) (by first | (simp; done) | (simp; rfl) | fail) ?_; (try simp))
  | fail)
 all_goals
  (refine EndOK.val (.inr rfl) ?_; simp [zaJ, zah, zau, Tryz.results124])
 all_goals simp_all
theorem zdD (p : UInt8 → Bool) (l : List UInt8) : zbA p l ≤ l.length := by
 unfold zbA
 exact (List.takeWhile_sublist p).length_le
theorem zmP {p : UInt8 → Bool} {l : List UInt8} (h : zbA p l = l.length) : ∀ c ∈ l, p c = true := by
 have : l.takeWhile p = l := (List.takeWhile_sublist p).eq_of_length h
 intro c hc
 rw [← this] at hc
 exact List.all_eq_true.1 (List.all_takeWhile (l := l) (p := p)) c hc
theorem zl3 (s : List UInt8) (hl : s.length ≤ 1000000) : Fun Tryz.prog 125 [.u (.str s)] (· = .tup [.u (.int .i64 ((zdQ s).getD 0)), .u (.bool (zdQ s).isSome)]) := by
 have hsp := zfk s hl 104 zaI (fun c _ => zeL c) (by simp)
 unfold zdQ
 cases s with
 | nil =>
  (refine Fun.of_body Tryz.func125 rfl (by simp) fun Γ hn => ?_); simp only [entry, ziC, ziN, maC, maN, oA, Tryz.ntmps125]
  repeat' (first
  | ((first | refine zaf ?_ | refine zaj ?_ | refine zag ?_ | refine zai ?_ | fail); simp)
  | (refine zaq ?_; simp only [zao])
  | fail)
  all_goals
   (refine EndOK.val (.inr rfl) ?_; simp [zaJ, zah, zau, Tryz.results125])
 | cons c s =>
  by_cases h1 : zbA zaI (c :: s) = (c :: s).length
  case neg =>
   rw [if_pos (.inr (.inl h1))]
   have h1' : ¬ (zbA zaI (c :: s) : Int) = s.length + 1 := by simp at h1; omega
   (refine Fun.of_body Tryz.func125 rfl (by simp) fun Γ hn => ?_); simp only [entry, ziC, ziN, maC, maN, oA, Tryz.ntmps125]
   repeat' (first
  | ((first | refine zaf ?_ | refine zaj ?_ | refine zag ?_ | refine zai ?_ | fail); simp [h1'])
  | (refine zaq ?_; simp only [zao])
  | (refine CallP.fE (hsp) (by first | rfl | fail) (by first | simp [h1'] <;> rfl | fail) ?_; (try simp [h1']))
  | fail)
   all_goals
    (refine EndOK.val (.inr rfl) ?_; simp [zaJ, zah, zau, Tryz.results125])
  have h1' : (zbA zaI (c :: s) : Int) = s.length + 1 := by simp at h1; omega
  by_cases h2 : c.toNat = 48 ∧ s ≠ []
  ·rw [if_pos (.inr (.inr (.inl ⟨by have := h2.1; simp; exact UInt8.toNat_inj.1 this, by simp; intro _; exact h2.2⟩)))]
   have h2b := h2.1
   have h2a := h2.2
   (refine Fun.of_body Tryz.func125 rfl (by simp) fun Γ hn => ?_); simp only [entry, ziC, ziN, maC, maN, oA, Tryz.ntmps125]
   repeat' (first
  | ((first | refine zaf ?_ | refine zaj ?_ | refine zag ?_ | refine zai ?_ | fail); simp [h1', h2a, h2b])
  | (refine zaq ?_; simp only [zao])
  | (refine CallP.fE (hsp) (by first | rfl | fail) (by first | simp [h1', h2a, h2b] <;> rfl | fail) ?_; (try simp [h1', h2a, h2b]))
  | fail)
   all_goals
    (refine EndOK.val (.inr rfl) ?_; simp [zaJ, zah, zau, Tryz.results125])
  have h2' : c.toNat = 48 → s = [] := fun h => by
   by_cases hs : s = []
   ·exact hs
   ·exact absurd ⟨h, hs⟩ h2
  by_cases h3 : 13 < (c :: s).length
  ·rw [if_pos (.inr (.inr (.inr h3)))]
   have h3' : 13 < (s.length : Int) + 1 := by simp at h3; omega
   have hne : s ≠ [] := fun e => by rw [e] at h3; simp at h3
   have h2'' : ¬ c.toNat = 48 := fun h => hne (h2' h)
   (refine Fun.of_body Tryz.func125 rfl (by simp) fun Γ hn => ?_); simp only [entry, ziC, ziN, maC, maN, oA, Tryz.ntmps125]
   repeat' (first
  | ((first | refine zaf ?_ | refine zaj ?_ | fail); simp [h1', h2'', h3'])
  | (refine ⟨by omega, ?_⟩)
  | ((first | refine zag ?_ | refine zai ?_ | fail); simp [h1', h2'', h3'])
  | (refine zaq ?_; simp only [zao])
  | (intro hc <;> (try (exfalso; omega)))
  | (refine CallP.fE (hsp) (by first | rfl | fail) (by first | simp [h1', h2'', h3'] <;> rfl | fail) ?_; (try simp [h1', h2'', h3']))
  | fail)
   all_goals
    (refine EndOK.val (.inr rfl) ?_; simp [zaJ, zah, zau, Tryz.results125])
  have hall := zmP h1
  rw [if_neg (by
   simp only [not_or]
   refine ⟨by simp, fun h => h h1, fun h => ?_, h3⟩
   have hc48 : c = 48 := by have := h.1; simpa using this
   have := h2' (by rw [hc48]; rfl)
   rw [this, hc48] at h
   exact h.2 rfl)]
  have h3' : ¬ 13 < (s.length : Int) + 1 := by simp at h3; omega
  have hval : ∀ k, k ≤ (c :: s).length → 0 ≤ za8 ((c :: s).take k) ∧ za8 ((c :: s).take k) < 10 ^ 13 := fun k hk => by
   have h4 := zem k ((c :: s).take k) (by simp; simp at hk; omega) (fun x hx => hall x (List.mem_of_mem_take hx))
   have : (10 : Int) ^ k ≤ 10 ^ 13 := by
    have := Nat.pow_le_pow_right (n := 10) (by omega) (show k ≤ 13 by simp at h3 hk; omega)
    exact_mod_cast this
   omega
  have hloop : ∀ (hw : c.toNat = 48 → s = []), Fun Tryz.prog 125 [.u (.str (c :: s))] (· = .tup [.u (.int .i64 ((if 1099511627776 < za8 (c :: s) then none else some (za8 (c :: s)) : Option Int).getD 0)), .u (.bool (if 1099511627776 < za8 (c :: s) then none else some (za8 (c :: s)) : Option Int).isSome)]) := fun hw => by
   by_cases h48 : c.toNat = 48
   ·have h48' : (c.toNat : Int) = 48 := by omega
    have hc48 : (c = 48) = True := eq_true (UInt8.toNat_inj.1 h48)
    have hs0 : (s = []) = True := eq_true (hw h48)
    (refine Fun.of_body Tryz.func125 rfl (by simp) fun Γ hn => ?_); simp only [entry, ziC, ziN, maC, maN, oA, Tryz.ntmps125]
    repeat' (first
  | ((first | refine zaf ?_ | refine zaj ?_ | refine zag ?_ | refine zai ?_ | refine zav ?_ | fail); simp [h1', h3', h48', hc48, hs0])
  | (refine zap ?_; simp only [zao])
  | (refine CallP.fE (hsp) (by first | rfl | fail) (by first | simp [h1', h3', h48', hc48, hs0] <;> rfl | fail) ?_; (try simp [h1', h3', h48', hc48, hs0]))
  | fail)
    refine zdg (α := { i : Nat // i ≤ (c :: s).length }) [0, 30] (fun i => [(4, .u (.int .i64 (za8 ((c :: s).take i.1)))), (31, .u (.int .i64 i.1))]) (fun i => (c :: s).length - i.1) ⟨0, by omega⟩ ?_ ?_
    ·exact (Wk.cut rfl (by simp [hn, St.lp]) (by simp [wkO, St.lp, zaa, getK, Ob.under, D.under, zad, zae, za8]) (by simp [wkU, St.lp, zam, zaa, getK, D.under, za8]) (by simp [wkE, St.lp, zam, zaa, getK, za8] <;> (try (intros; simp_all; done)) <;> (try (intros; omega)) <;> (try grind)))
    rintro ⟨i, hi⟩
    simp [St.lp, St.only, zam, zaa, getK]
    rcases hx : (c :: s)[i]? with _ | a
    ·have hge : (c :: s).length ≤ i := by simpa using hx
     obtain rfl : i = (c :: s).length := by omega
     rw [List.take_length]
     have hge2 : ¬ ((c :: s).length : Int) < s.length + 1 := by simp
     by_cases hb : 1099511627776 < za8 (c :: s)
     ·repeat' (first
  | ((first | refine zaf ?_ | refine zaj ?_ | refine zag ?_ | refine zai ?_ | fail); simp [hb, hge2])
  | (refine zaq ?_; simp only [zao])
  | (refine zbb ?_; simp [zao])
  | fail)
      (refine EndOK.val (.inr rfl) ?_; simp [zaJ, zah, zau, Tryz.results125])
      try simp [hb]
     ·repeat' (first
  | ((first | refine zaf ?_ | refine zaj ?_ | refine zag ?_ | refine zai ?_ | fail); simp [hb, hge2])
  | ((first | refine zaq ?_ | refine zap ?_ | fail); simp only [zao])
  | (refine zbb ?_; simp [zao])
  | fail)
      (refine EndOK.val (.inr rfl) ?_; simp [zaJ, zah, zau, Tryz.results125])
      try simp [hb]
    ·have hlt : i < (c :: s).length := (lGE.1 hx).1
     have hlt2 : (i : Int) < s.length + 1 := by simp at hlt; omega
     have hd := hall a (List.mem_of_getElem? hx)
     simp only [zaI, Bool.and_eq_true, decide_eq_true_eq] at hd
     have hv := hval i hi
     have hv2 := hval (i + 1) hlt
     have hsn : za8 ((c :: s).take (i + 1)) = 10 * za8 ((c :: s).take i) + ((a.toNat : Int) - 48) := by
      rw [List.take_succ, hx]; exact zdL _ _
     generalize za8 ((c :: s).take i) = dv at hv hsn
     have hsn2 := hsn.symm
     repeat' (first
  | ((first | refine zaf ?_ | refine zaj ?_ | fail); simp [hx, hlt2, hsn2])
  | (refine ⟨by omega, ?_⟩)
  | ((first | refine zag ?_ | refine zat ?_ | fail); simp [hx, hlt2, hsn2])
  | (refine zap ?_; simp only [zao])
  | fail)
     refine LoopW.next ⟨i + 1, hlt⟩ (by simp at hlt; simp; omega) ?_
     exact (Wk.cut rfl (by simp [hn, St.lp]) (by simp [wkO, St.lp, zaa, getK, Ob.under, D.under, zad, zae, hsn]) (by simp [wkU, St.lp, zam, zaa, getK, D.under, hsn]) (by simp [wkE, St.lp, zam, zaa, getK, hsn] <;> (try (intros; simp_all; done)) <;> (try (intros; omega)) <;> (try grind)))
   ·(refine Fun.of_body Tryz.func125 rfl (by simp) fun Γ hn => ?_); simp only [entry, ziC, ziN, maC, maN, oA, Tryz.ntmps125]
    repeat' (first
  | ((first | refine zaf ?_ | refine zaj ?_ | fail); simp [h1', h3', h48])
  | (refine ⟨by omega, ?_⟩)
  | ((first | refine zag ?_ | refine zai ?_ | refine zav ?_ | fail); simp [h1', h3', h48])
  | (refine zap ?_; simp only [zao])
  | (intro hc <;> (try (exfalso; omega)))
  | (refine CallP.fE (hsp) (by first | rfl | fail) (by first | simp [h1', h3', h48] <;> rfl | fail) ?_; (try simp [h1', h3', h48]))
  | fail)
    refine zdg (α := { i : Nat // i ≤ (c :: s).length }) [0, 30] (fun i => [(4, .u (.int .i64 (za8 ((c :: s).take i.1)))), (31, .u (.int .i64 i.1))]) (fun i => (c :: s).length - i.1) ⟨0, by omega⟩ ?_ ?_
    ·exact (Wk.cut rfl (by simp [hn, St.lp]) (by simp [wkO, St.lp, zaa, getK, Ob.under, D.under, zad, zae, za8]) (by simp [wkU, St.lp, zam, zaa, getK, D.under, za8]) (by simp [wkE, St.lp, zam, zaa, getK, za8] <;> (try (intros; simp_all; done)) <;> (try (intros; omega)) <;> (try grind)))
    rintro ⟨i, hi⟩
    simp [St.lp, St.only, zam, zaa, getK]
    rcases hx : (c :: s)[i]? with _ | a
    ·have hge : (c :: s).length ≤ i := by simpa using hx
     obtain rfl : i = (c :: s).length := by omega
     rw [List.take_length]
     have hge2 : ¬ ((c :: s).length : Int) < s.length + 1 := by simp
     by_cases hb : 1099511627776 < za8 (c :: s)
     ·repeat' (first
  | ((first | refine zaf ?_ | refine zaj ?_ | refine zag ?_ | refine zai ?_ | fail); simp [hb, hge2])
  | (refine zaq ?_; simp only [zao])
  | (refine zbb ?_; simp [zao])
  | fail)
      (refine EndOK.val (.inr rfl) ?_; simp [zaJ, zah, zau, Tryz.results125])
      try simp [hb]
     ·repeat' (first
  | ((first | refine zaf ?_ | refine zaj ?_ | refine zag ?_ | refine zai ?_ | fail); simp [hb, hge2])
  | ((first | refine zaq ?_ | refine zap ?_ | fail); simp only [zao])
  | (refine zbb ?_; simp [zao])
  | fail)
      (refine EndOK.val (.inr rfl) ?_; simp [zaJ, zah, zau, Tryz.results125])
      try simp [hb]
    ·have hlt : i < (c :: s).length := (lGE.1 hx).1
     have hlt2 : (i : Int) < s.length + 1 := by simp at hlt; omega
     have hd := hall a (List.mem_of_getElem? hx)
     simp only [zaI, Bool.and_eq_true, decide_eq_true_eq] at hd
     have hv := hval i hi
     have hv2 := hval (i + 1) hlt
     have hsn : za8 ((c :: s).take (i + 1)) = 10 * za8 ((c :: s).take i) + ((a.toNat : Int) - 48) := by
      rw [List.take_succ, hx]; exact zdL _ _
     generalize za8 ((c :: s).take i) = dv at hv hsn
     have hsn2 := hsn.symm
     repeat' (first
  | ((first | refine zaf ?_ | refine zaj ?_ | fail); simp [hx, hlt2, hsn2])
  | (refine ⟨by omega, ?_⟩)
  | ((first | refine zag ?_ | refine zat ?_ | fail); simp [hx, hlt2, hsn2])
  | (refine zap ?_; simp only [zao])
  | fail)
     refine LoopW.next ⟨i + 1, hlt⟩ (by simp at hlt; simp; omega) ?_
     exact (Wk.cut rfl (by simp [hn, St.lp]) (by simp [wkO, St.lp, zaa, getK, Ob.under, D.under, zad, zae, hsn]) (by simp [wkU, St.lp, zam, zaa, getK, D.under, hsn]) (by simp [wkE, St.lp, zam, zaa, getK, hsn] <;> (try (intros; simp_all; done)) <;> (try (intros; omega)) <;> (try grind)))
  exact hloop h2'
theorem zks (s p : List UInt8) : Fun Tryz.prog 142 [.u (.str s), .u (.str p)] (· = .u (.bool (p.isPrefixOf s))) := by
 by_cases hl : p.length ≤ s.length
 ·have hl2 : (p.length : Int) ≤ s.length := by omega
  by_cases he : s.take p.length = p
  ·have hp : p.isPrefixOf s = true := List.isPrefixOf_iff_prefix.2 (List.prefix_iff_eq_take.2 he.symm)
   (refine Fun.of_body Tryz.func142 rfl (by simp) fun Γ hn => ?_); simp only [entry, ziC, ziN, maC, maN, oA, Tryz.ntmps142]
   repeat' (first
  | ((first | refine zaf ?_ | refine zaj ?_ | refine zag ?_ | fail); simp [hl, hl2, he])
  | (refine zaq ?_; simp only [zao])
  | fail)
   all_goals
    (refine EndOK.val (.inr rfl) ?_; simp [zaJ, zah, zau, Tryz.results142])
   all_goals first | (rw [hp]; done) | exact List.isPrefixOf_iff_prefix.1 hp | (simp [hp]; done) | rfl
  ·have hp : p.isPrefixOf s = false := by
    cases h : p.isPrefixOf s with
    | false => rfl
    | true => exact absurd (List.prefix_iff_eq_take.1 (List.isPrefixOf_iff_prefix.1 h)).symm he
   (refine Fun.of_body Tryz.func142 rfl (by simp) fun Γ hn => ?_); simp only [entry, ziC, ziN, maC, maN, oA, Tryz.ntmps142]
   repeat' (first
  | ((first | refine zaf ?_ | refine zaj ?_ | refine zag ?_ | fail); simp [hl, hl2, he])
  | (refine zaq ?_; simp only [zao])
  | fail)
   all_goals
    (refine EndOK.val (.inr rfl) ?_; simp [zaJ, zah, zau, Tryz.results142])
   all_goals first | (rw [hp]; done) | exact List.isPrefixOf_iff_prefix.1 hp | (simp [hp]; done) | rfl
 ·have hl2 : ¬ (p.length : Int) ≤ s.length := by omega
  have hp : p.isPrefixOf s = false := by
   cases h : p.isPrefixOf s with
   | false => rfl
   | true => exact absurd (List.isPrefixOf_iff_prefix.1 h).length_le hl
  (refine Fun.of_body Tryz.func142 rfl (by simp) fun Γ hn => ?_); simp only [entry, ziC, ziN, maC, maN, oA, Tryz.ntmps142]
  repeat' (first
  | ((first | refine zaf ?_ | refine zaj ?_ | refine zag ?_ | fail); simp [hl, hl2])
  | (refine zaq ?_; simp only [zao])
  | fail)
  all_goals
   (refine EndOK.val (.inr rfl) ?_; simp [zaJ, zah, zau, Tryz.results142])
  all_goals first | (rw [hp]; done) | exact List.isPrefixOf_iff_prefix.1 hp | (simp [hp]; done) | rfl
theorem zlR (s p : List UInt8) : Fun Tryz.prog 126 [.u (.str s), .u (.str p)] (· = .u (.bool (p.isPrefixOf s))) := by
 have h := zks s p
 (refine Fun.of_body Tryz.func126 rfl (by simp) fun Γ hn => ?_); simp only [entry, ziC, ziN, maC, maN, oA, Tryz.ntmps126]
 repeat' (first
  | ((first | refine zaf ?_ | refine zaj ?_ | refine zag ?_ | fail); simp)
  | (refine zaq ?_; simp only [zao])
  | (refine CallP.fE (h) (by first | rfl | fail) (by first | (simp; done) | (simp; rfl) | fail) ?_; (try simp))
  | fail)
 (refine EndOK.val (.inr rfl) ?_; simp [zaJ, zah, zau, Tryz.results126])
@[local simp] theorem zqp : znM 0 = .u (.row (signsL.map .str) 0) := by
 simp [znM, globs, signsL, uOf]
theorem hsl : signsL.length = 11 := rfl
theorem zoy (s : List UInt8) (hs : s ≠ []) (hl : s.length ≤ 1000000) : Fun Tryz.prog 77 [.u (.str s)] (· = nextD s) := by
 obtain ⟨c, r, rfl⟩ : ∃ c r, s = c :: r := by cases s with | nil => exact absurd rfl hs | cons c r => exact ⟨c, r, rfl⟩
 have h1 := zd2 c
 have h2 := zeL c
 have h3 := zfk (c :: r) hl 124 zca (fun c _ => znh c) (by simp)
 have h4 := zfk (c :: r) hl 104 zaI (fun c _ => zeL c) (by simp)
 have h5 := zkS ((c :: r).take (zbA zca (c :: r)))
 have h6 := zl3 ((c :: r).take (zbA zaI (c :: r))) (by have := zdD zaI (c :: r); rw [List.length_take]; omega)
 have l1 : (zbA zca (c :: r) : Int) ≤ r.length + 1 := by have := zdD zca (c :: r); simp at this; omega
 have l2 : (zbA zaI (c :: r) : Int) ≤ r.length + 1 := by have := zdD zaI (c :: r); simp at this; omega
 have l1' : zbA zca (c :: r) ≤ r.length + 1 := by omega
 have l2' : zbA zaI (c :: r) ≤ r.length + 1 := by omega
 unfold nextD ze3
 cases c1 : zbp c with
 | true =>
  rw [c1] at h1
  cases c3 : zf9 ((c :: r).take (zbA zca (c :: r))) with
  | true =>
   rw [c3] at h5
   (refine Fun.of_body Tryz.func77 rfl (by simp) fun Γ hn => ?_); simp only [entry, ziC, ziN, maC, maN, oA, Tryz.ntmps77]
   repeat' (first
  | ((first | refine zaf ?_ | refine zaj ?_ | refine zag ?_ | refine zai ?_ | fail); simp [l1, l1'])
  | ((first | refine zaq ?_ | refine zap ?_ | fail); simp only [zao])
  | (refine CallP.fE (h1) (by first | rfl | fail) (by first | simp [l1, l1'] <;> rfl | fail) ?_; (try simp [l1, l1']))
  | (refine CallP.fE (h3) (by first | rfl | fail) (by first | simp [l1, l1'] <;> rfl | fail) ?_; (try simp [l1, l1']))
  | (refine CallP.fE (h5) (by first | rfl | fail) (by first | simp [l1, l1'] <;> rfl | fail) ?_; (try simp [l1, l1']))
  | fail)
   (refine EndOK.val (.inr rfl) ?_; simp [zaJ, zah, zau, Tryz.results77])
   simp [c1, c3]
  | false =>
   rw [c3] at h5
   (refine Fun.of_body Tryz.func77 rfl (by simp) fun Γ hn => ?_); simp only [entry, ziC, ziN, maC, maN, oA, Tryz.ntmps77]
   repeat' (first
  | ((first | refine zaf ?_ | refine zaj ?_ | refine zag ?_ | refine zai ?_ | fail); simp [l1, l1'])
  | (refine zaq ?_; simp only [zao])
  | (refine CallP.fE (h1) (by first | rfl | fail) (by first | simp [l1, l1'] <;> rfl | fail) ?_; (try simp [l1, l1']))
  | (refine CallP.fE (h3) (by first | rfl | fail) (by first | simp [l1, l1'] <;> rfl | fail) ?_; (try simp [l1, l1']))
  | (refine CallP.fE (h5) (by first | rfl | fail) (by first | simp [l1, l1'] <;> rfl | fail) ?_; (try simp [l1, l1']))
  | fail)
   (refine EndOK.val (.inr rfl) ?_; simp [zaJ, zah, zau, Tryz.results77])
   simp [c1, c3]
 | false =>
  rw [c1] at h1
  cases c2 : zaI c with
  | true =>
   rw [c2] at h2
   cases c3 : zdQ ((c :: r).take (zbA zaI (c :: r))) with
   | none =>
    rw [c3] at h6
    (refine Fun.of_body Tryz.func77 rfl (by simp) fun Γ hn => ?_); simp only [entry, ziC, ziN, maC, maN, oA, Tryz.ntmps77]
    repeat' (first
  | ((first | refine zaf ?_ | refine zaj ?_ | refine zag ?_ | refine zai ?_ | fail); simp [l2, l2'])
  | (refine zaq ?_; simp only [zao])
  | (refine CallP.fE (h1) (by first | rfl | fail) (by first | simp [l2, l2'] <;> rfl | fail) ?_; (try simp [l2, l2']))
  | (refine CallP.fE (h2) (by first | rfl | fail) (by first | simp [l2, l2'] <;> rfl | fail) ?_; (try simp [l2, l2']))
  | (refine CallP.fE (h4) (by first | rfl | fail) (by first | simp [l2, l2'] <;> rfl | fail) ?_; (try simp [l2, l2']))
  | (refine CallP.fE (h6) (by first | rfl | fail) (by first | simp [l2, l2'] <;> rfl | fail) ?_; (try simp [l2, l2']))
  | fail)
    (refine EndOK.val (.inr rfl) ?_; simp [zaJ, zah, zau, Tryz.results77])
    simp [c1, c2, c3]
   | some n =>
    rw [c3] at h6
    (refine Fun.of_body Tryz.func77 rfl (by simp) fun Γ hn => ?_); simp only [entry, ziC, ziN, maC, maN, oA, Tryz.ntmps77]
    repeat' (first
  | ((first | refine zaf ?_ | refine zaj ?_ | refine zag ?_ | refine zai ?_ | fail); simp [l2, l2'])
  | ((first | refine zaq ?_ | refine zap ?_ | fail); simp only [zao])
  | (refine CallP.fE (h1) (by first | rfl | fail) (by first | simp [l2, l2'] <;> rfl | fail) ?_; (try simp [l2, l2']))
  | (refine CallP.fE (h2) (by first | rfl | fail) (by first | simp [l2, l2'] <;> rfl | fail) ?_; (try simp [l2, l2']))
  | (refine CallP.fE (h4) (by first | rfl | fail) (by first | simp [l2, l2'] <;> rfl | fail) ?_; (try simp [l2, l2']))
  | (refine CallP.fE (h6) (by first | rfl | fail) (by first | simp [l2, l2'] <;> rfl | fail) ?_; (try simp [l2, l2']))
  | fail)
    (refine EndOK.val (.inr rfl) ?_; simp [zaJ, zah, zau, Tryz.results77])
    simp [c1, c2, c3]
  | false =>
   rw [c2] at h2
   (refine Fun.of_body Tryz.func77 rfl (by simp) fun Γ hn => ?_); simp only [entry, ziC, ziN, maC, maN, oA, Tryz.ntmps77]
   repeat' (first
  | ((first | refine zaf ?_ | refine zaj ?_ | refine zag ?_ | refine zai ?_ | refine zav ?_ | fail); simp [hsl, List.take_of_length_le])
  | (refine zap ?_; simp only [zao])
  | (refine CallP.fE (h1) (by first | rfl | fail) (by first | simp [hsl, List.take_of_length_le] <;> rfl | fail) ?_; (try simp [hsl, List.take_of_length_le]))
  | (refine CallP.fE (h2) (by first | rfl | fail) (by first | simp [hsl, List.take_of_length_le] <;> rfl | fail) ?_; (try simp [hsl, List.take_of_length_le]))
  | fail)
   refine zdg (α := { i : Nat // i ≤ 11 ∧ ∀ x ∈ signsL.take i, x.isPrefixOf (c :: r) = false }) [0, 2, 3, 43] (fun i => [(44, .u (.int .i64 i.1))]) (fun i => 11 - i.1) ⟨0, by omega, by simp⟩ ?_ ?_
   ·exact (Wk.cut rfl (by simp [hn, St.lp]) (by simp [wkO, St.lp, zaa, getK, Ob.under, D.under, zad, zae]) (by simp [wkU, St.lp, zam, zaa, getK, D.under]) (by simp [wkE, St.lp, zam, zaa, getK] <;> (try (intros; simp_all; done)) <;> (try (intros; omega)) <;> (try grind)))
   rintro ⟨i, hi, hb⟩
   simp [St.lp, St.only, zam, zaa, getK]
   rcases hx : signsL[i]? with _ | x
   ·have hge : signsL.length ≤ i := by simpa using hx
    obtain rfl : i = 11 := by rw [hsl] at hge; omega
    have hnone : signsL.find? (fun x => x.isPrefixOf (c :: r)) = none := List.find?_eq_none.2 fun x hx => by
     rw [hb x (by rw [List.take_of_length_le (by rw [hsl]; omega)]; exact hx)]; simp
    repeat' (first
  | ((first | refine zaf ?_ | refine zaj ?_ | refine zag ?_ | fail); simp)
  | (refine zaq ?_; simp only [zao])
  | (refine zbb ?_; simp [zao])
  | fail)
    (refine EndOK.val (.inr rfl) ?_; simp [zaJ, zah, zau, Tryz.results77])
    simp [c1, c2, hnone]
   ·have hlt : i < 11 := by have := (lGE.1 hx).1; rw [hsl] at this; exact this
    have hlt2 : (i : Int) < 11 := by omega
    have hp := zlR (c :: r) x
    by_cases hpx : x.isPrefixOf (c :: r) = true
    ·have hfind : signsL.find? (fun x => x.isPrefixOf (c :: r)) = some x := by
      have e : signsL = signsL.take i ++ x :: signsL.drop (i + 1) := by
       obtain ⟨h5, h6⟩ := lGE.1 hx
       rw [← h6, List.getElem_cons_drop, List.take_append_drop]
      rw [e, List.find?_append, List.find?_eq_none.2 (fun y hy => by rw [hb y hy]; simp), List.find?_cons, hpx]
      rfl
     rw [hpx] at hp
     repeat' (first
  | ((first | refine zaf ?_ | refine zaj ?_ | refine zag ?_ | refine zai ?_ | fail); simp [hx, hsl, hlt2])
  | ((first | refine zaq ?_ | refine zap ?_ | fail); simp only [zao])
  | (refine CallP.fE (hp) (by first | rfl | fail) (by first | simp [hx, hsl, hlt2] <;> rfl | fail) ?_; (try simp [hx, hsl, hlt2]))
  | fail)
     (refine EndOK.val (.inr rfl) ?_; simp [zaJ, zah, zau, Tryz.results77])
     simp [c1, c2, hfind]
    ·rw [Bool.eq_false_iff.2 hpx] at hp
     repeat' (first
  | ((first | refine zaf ?_ | refine zaj ?_ | fail); simp [hx, hsl, hlt2])
  | (refine ⟨by omega, ?_⟩)
  | ((first | refine zag ?_ | refine zai ?_ | refine zat ?_ | fail); simp [hx, hsl, hlt2])
  | (refine zap ?_; simp only [zao])
  | (refine CallP.fE (hp) (by first | rfl | fail) (by first | simp [hx, hsl, hlt2] <;> rfl | fail) ?_; (try simp [hx, hsl, hlt2]))
  | fail)
     refine LoopW.next ⟨i + 1, by omega, fun y hy => ?_⟩ (by simp; omega) ?_
     ·rw [List.take_succ, hx] at hy
      rcases List.mem_append.1 hy with h | h
      ·exact hb y h
      ·simp at h; subst h; exact Bool.eq_false_iff.2 hpx
     ·exact (Wk.cut rfl (by simp [hn, St.lp]) (by simp [wkO, St.lp, zaa, getK, Ob.under, D.under, zad, zae]) (by simp [wkU, St.lp, zam, zaa, getK, D.under]) (by simp [wkE, St.lp, zam, zaa, getK] <;> (try (intros; simp_all; done)) <;> (try (intros; omega)) <;> (try grind)))
end Go.Proofs.YthnemhfamhnfjaaGreatDoor
namespace Go.Proofs.YthnemhfamhnfjaaGreatDoor
open Go Go.VL
/-- The tokens of a string from a place on. -/
def zhC : Nat → List UInt8 → Nat → Except (Nat × Int) (List Tok)
 | 0, _, _ => .ok []
 | f + 1, s, p =>
  match (s.drop (p + zbA za4 (s.drop p))) with
  | [] => .ok [⟨0, [], 0, ((p + zbA za4 (s.drop p) : Nat) : Int)⟩]
  | c :: r => match ze3 (c :: r) with
   | .error e => .error (p + zbA za4 (s.drop p), e)
   | .ok t => match zhC f s (p + zbA za4 (s.drop p) + t.text.length) with
    | .error x => .error x
    | .ok l => .ok ({ t with pos := ((p + zbA za4 (s.drop p) : Nat) : Int) } :: l)
def zgS (s : List UInt8) : Except (Nat × Int) (List Tok) := if 2000 < s.length then .error (0, 6) else zhC (s.length + 1) s 0
def zgR : Except (Nat × Int) (List Tok) → D
 | .ok l => .tup [.u (.sl (l.map fun t => [.int .i64 t.kind, .str t.text, .int .i64 t.n, .int .i64 t.pos])), .u (.int .i64 0), .u (.int .i64 0)]
 | .error (p, e) => .tup [.u (.sl []), .u (.int .i64 p), .u (.int .i64 e)]
def zlQ (acc : List Tok) : Except (Nat × Int) (List Tok) → Except (Nat × Int) (List Tok)
 | .ok l => .ok (acc ++ l)
 | .error x => .error x
theorem zmY (x) : zlQ [] x = x := by cases x <;> simp [zlQ]
theorem ziZ {p : UInt8 → Bool} {c : UInt8} {r : List UInt8} (h : p c = true) : 0 < zbA p (c :: r) := by
 unfold zbA; rw [List.takeWhile_cons, if_pos h]; simp
theorem zfL {s : List UInt8} {t : Tok} (h : ze3 s = .ok t) : 0 < t.text.length ∧ t.text.length ≤ s.length := by
 unfold ze3 at h
 split at h
 ·cases h
 ·rename_i c r
  by_cases c1 : zbp c = true
  ·rw [if_pos c1] at h
   split at h
   ·cases h
    have h1 := ziZ (p := zca) (c := c) (r := r) (by simp [zca, c1])
    have h2 := zdD zca (c :: r)
    simp only [List.length_take]
    omega
   ·cases h
  ·rw [if_neg c1] at h
   by_cases c2 : zaI c = true
   ·rw [if_pos c2] at h
    split at h
    ·cases h
     have h1 := ziZ (p := zaI) (c := c) (r := r) c2
     have h2 := zdD zaI (c :: r)
     simp only [List.length_take]
     omega
    ·cases h
   ·rw [if_neg c2] at h
    split at h
    ·rename_i x hx
     cases h
     have h1 := List.find?_some hx
     have h2 := List.mem_of_find?_eq_some hx
     refine ⟨?_, (List.isPrefixOf_iff_prefix.1 h1).length_le⟩
     simp only [signsL, List.mem_cons, List.not_mem_nil, or_false] at h2
     rcases h2 with h | h | h | h | h | h | h | h | h | h | h <;> subst h <;> simp
    ·cases h
def zh1 (l : List Tok) : List (List D) := l.map fun t => [.u (.int .i64 t.kind), .u (.str t.text), .u (.int .i64 t.n), .u (.int .i64 t.pos)]
theorem zco (l : List Tok) : (zh1 l).length = l.length := by simp [zh1]
theorem ziW (l : List Tok) : rowsD (l.map fun t => [U.int .i64 t.kind, .str t.text, .int .i64 t.n, .int .i64 t.pos]) = zh1 l := by simp [rowsD, zh1, Function.comp_def]
theorem zkU (l : List Tok) : zcV (zh1 l) = some (l.map fun t => [U.int .i64 t.kind, .str t.text, .int .i64 t.n, .int .i64 t.pos]) := by rw [← ziW]; simp
theorem zgD (l) : zaN (zh1 l) = True := by rw [← ziW]; simp
theorem zfE (n : Nat) (l) : (∀ x ∈ zh1 l, ∀ y ∈ x, D.under n y = true) ↔ True := by
 refine ⟨fun _ => trivial, fun _ x hx y hy => ?_⟩
 obtain ⟨b, _, rfl⟩ := List.mem_map.1 hx
 simp at hy
 rcases hy with rfl | rfl | rfl | rfl <;> simp [D.under]
end Go.Proofs.YthnemhfamhnfjaaGreatDoor
namespace Go.Proofs.YthnemhfamhnfjaaGreatDoor
open Go Go.VL
abbrev zmO (l : List Tok) : U := .sl (l.map fun t => [.int .i64 t.kind, .str t.text, .int .i64 t.n, .int .i64 t.pos])
abbrev pOb (l : List Tok) (p : Nat) : Ob := .box [.u (zmO l), .u (.int .i64 p)]
abbrev zpo (l : List Tok) (p : Nat) : U := .row [zmO l, .int .i64 p] 0
/-- Tokens as Lex makes them: the end comes last, and nowhere else. -/
structure TokOK (l : List Tok) : Prop where
 fin : ∀ (i : Nat) (t : Tok), l[i]? = some t → t.kind ≠ 0 → i + 1 < l.length
 len : l.length ≤ 1000000
def isB (l : List Tok) (p : Nat) (w : List UInt8) : Bool := match l[p]? with | some t => decide (t.kind ≠ 0) && decide (t.text = w) | none => false
theorem zba {l : List Tok} {p : Nat} {w : List UInt8} (hl : TokOK l) (h : isB l p w = true) : p + 1 < l.length := by
 unfold isB at h
 split at h
 ·rename_i t ht
  simp only [Bool.and_eq_true, decide_eq_true_eq] at h
  exact hl.fin p t ht h.1
 ·cases h
end Go.Proofs.YthnemhfamhnfjaaGreatDoor
namespace Go.Proofs.YthnemhfamhnfjaaGreatDoor
open Go Go.VL
noncomputable def eqB {α : Type} (a b : α) : Bool := @decide (a = b) (Classical.propDecidable _)
theorem zcq {α : Type} {a b : α} : eqB a b = true ↔ a = b := by unfold eqB; exact @decide_eq_true_iff _ (Classical.propDecidable _)
theorem zg4 {α : Type} (a : α) : eqB a a = true := zcq.2 rfl
theorem zdJ {α : Type} {a b : α} (h : a ≠ b) : eqB a b = false := by
 cases hb : eqB a b with
 | false => rfl
 | true => exact absurd (zcq.1 hb) h
end Go.Proofs.YthnemhfamhnfjaaGreatDoor
namespace Go.Proofs.YthnemhfamhnfjaaGreatDoor
open Go Go.VL
attribute [local simp] zde zb7 evPure opd uOf zaF St.put St.at getK binD binI binS binB nilD aggD zhn ziD lookD lookR zcB Go.VL.nextD zcF ziQ ziP zgW zcz mkV zdB zbq zbB mapEff zev zgg Key.kk shiftI arith unD convD zeg loadD cellsAt fieldAddrD fieldD indexAddrD indexD sliceD cutD lenD minmaxD nilCheckD buildD fillD zbU zdn ze5 setAll zcU zff zcx zhN zct St.add zaR zbR rowsOf zd0 zcJ zak zac zaa za9 zcI zaP entry zbO zbY valD zb8 zcA zhf zdz zdA zb1 zbQ zax zaW zbu delAll effD St.effS zdj zbl za5 zdk zbm za7 zcl za6 zaV zcm zdh zbJ zci zbt zcg zch zaK mkD zbL zbC zbP zax zcv D.ids Op.operands Call.operands zbI makeIfD makeFuncD typeAssertD ziB zdR zdS zhX zcD IntKind.bits zcV List.take_of_length_le List.range_succ
attribute [local irreducible] V G H HD HD2 zao Eff CallP CallV EndOK Fun Ret FinOK LoopI LoopW EndW
theorem zkC (s : List UInt8) : Fun Tryz.prog 32 [.u (.str s)] (· = zgR (zgS s)) := by
 unfold zgS
 by_cases hlong : 2000 < s.length
 ·have hlong2 : 2000 < (s.length : Int) := by omega
  rw [if_pos hlong]
  (refine Fun.of_bodyW Tryz.func32 rfl (by simp) fun Γ hn => ?_); simp only [entry, ziC, ziN, maC, maN, oA, Tryz.ntmps32]
  repeat' (first
  | ((first | refine zaf ?_ | refine zaj ?_ | refine zag ?_ | refine zai ?_ | fail); simp [hlong, hlong2])
  | (refine zaq ?_; simp only [zao])
  | fail)
  refine EndW.norm (EndW.here ?_)
  (refine EndOK.val (.inr rfl) ?_; simp [zaJ, zah, zau, Tryz.results32, zaz, zaA, zie, zif, frz, za2, frzS, fv, zaE, zaY, za1, zaD, zas, zal, zbZ, zcj, zck, zbh])
  simp [zgR]
 rw [if_neg hlong]
 have hlong2 : ¬ 2000 < (s.length : Int) := by omega
 obtain ⟨R, hR⟩ : ∃ R, R = zhC (s.length + 1) s 0 := ⟨_, rfl⟩
 rw [← hR]
 (refine Fun.of_bodyW Tryz.func32 rfl (by simp) fun Γ hn => ?_); simp only [entry, ziC, ziN, maC, maN, oA, Tryz.ntmps32]
 repeat' (first
  | ((first | refine zaf ?_ | refine zaj ?_ | refine zag ?_ | refine zai ?_ | refine zav ?_ | fail); simp [hlong, hlong2])
  | (refine zap ?_; simp only [zao])
  | fail)
 refine zge _ (Wk.own 5 52 4 (by decide) rfl) ?_
 simp [St.own]
 refine zcW (α := { x : List Tok × Nat × Nat // x.2.1 ≤ s.length ∧ s.length < x.2.1 + x.2.2 ∧ x.1.length ≤ x.2.1 ∧ R = zlQ x.1 (zhC x.2.2 s x.2.1) }) [0] (fun x => [(5, .vec 0 x.1.1.length), (6, .u (.int .i64 x.1.2.1))]) (fun x => [(0, .vec 52 4 (zh1 x.1.1))]) 1 (fun x => x.1.2.2) ⟨([], 0, s.length + 1), by simp, by simp, by simp, by rw [zmY, hR]⟩ ?_ ?_
 ·exact (Wk.cut rfl (by simp [hn, St.lp]) (by simp [wkO, St.lp, zaa, getK, Ob.under, D.under, zad, zae, zh1]) (by simp [wkU, St.lp, zam, zaa, getK, D.under, zh1]) (by simp [wkE, St.lp, zam, zaa, getK, zh1] <;> (try (intros; simp_all; done)) <;> (try (intros; omega)) <;> (try grind)))
 rintro ⟨⟨acc, p, f⟩, h1, h2, h3, h4⟩
 simp only at h1 h2 h3 h4
 simp [St.lp, St.only, zam, zaa, getK]
 obtain ⟨f', rfl⟩ : ∃ f', f = f' + 1 := ⟨f - 1, by omega⟩
 rw [zhC] at h4
 have hsp := zfk (s.drop p) (by rw [List.length_drop]; omega) 76 za4 (fun c _ => zn3 c) (by simp)
 have hle := zdD za4 (s.drop p)
 rw [List.length_drop] at hle
 obtain ⟨b, hb⟩ : ∃ b, b = zbA za4 (s.drop p) := ⟨_, rfl⟩
 rw [← hb] at hsp hle h4
 have hp1 : (p : Int) ≤ s.length := by omega
 have hpb : (p : Int) + b ≤ s.length := by omega
 rcases hd : s.drop (p + b) with _ | ⟨c, r⟩
 ·have hdl : (s.drop (p + b)).length = 0 := by rw [hd]; rfl
  rw [List.length_drop] at hdl
  have hpe : p + b = s.length := by omega
  have hpe2 : (p : Int) + b = s.length := by omega
  rw [hd] at h4
  simp only at h4
  have hap : zh1 acc ++ [[D.u (.int .i64 0), D.u (.str []), D.u (.int .i64 0), D.u (.int .i64 (s.length : Int))]] = zh1 (acc ++ [⟨0, [], 0, s.length⟩]) := by simp [zh1]
  have hlr : zhE 4 (zh1 acc) := fun r hr => by obtain ⟨t, _, rfl⟩ := List.mem_map.1 hr; rfl
  rw [hpe] at h4
  repeat' (first
  | ((first | refine zaf ?_ | refine zaj ?_ | fail); simp [h1, hp1, hpe2, zco, hap, hlr])
  | (refine ⟨by omega, ?_⟩)
  | ((first | refine zag ?_ | refine zai ?_ | refine zav ?_ | fail); simp [h1, hp1, hpe2, zco, hap, hlr])
  | (refine zaq ?_; simp only [zao])
  | (refine CallP.fE (hsp) (by first | rfl | fail) (by first | simp [h1, hp1, hpe2, zco, hap, hlr] <;> rfl | fail) ?_; (try simp [h1, hp1, hpe2, zco, hap, hlr]))
  | fail)
  (refine EndW.frzN 3 ?_; simp [frzN, frz1, zaA, zaz, St.frz, St.frzS, frzS, fv, zaE, zaY, za1, zaD, zas, zal, del, frz, za2, zkU, zco, List.length_append])
  refine EndW.norm (EndW.here ?_)
  (refine EndOK.val (.inr rfl) ?_; simp [zaJ, zah, zau, Tryz.results32, zaz, zaA, zie, zif, frz, za2, frzS, fv, zaE, zaY, za1, zaD, zas, zal, zbZ, zcj, zck, zbh, zkU, zco, List.length_append])
  rw [h4]
  simp [zlQ, zgR]
 ·have hdl : (s.drop (p + b)).length = r.length + 1 := by rw [hd]; rfl
  rw [List.length_drop] at hdl
  have hpe : ¬ p + b = s.length := by omega
  have hpe2 : ¬ (p : Int) + b = s.length := by omega
  have hnx := zoy (s.drop (p + b)) (by rw [hd]; simp) (by rw [List.length_drop]; omega)
  unfold nextD at hnx
  rw [hd] at h4
  simp only at h4
  rw [hd] at hnx
  have hpb2 : ((p : Int) + b).toNat = p + b := by omega
  have hpb3 : p + b ≤ s.length := by omega
  cases hno : ze3 (c :: r) with
  | error e =>
   rw [hno] at h4 hnx
   have he : e ≠ 0 := by
    unfold ze3 at hno
    simp only at hno
    split at hno
    ·split at hno <;> cases hno
     omega
    ·split at hno
     ·split at hno <;> cases hno
      omega
     ·split at hno <;> cases hno
      omega
   repeat' (first
  | ((first | refine zaf ?_ | refine zaj ?_ | fail); simp [h1, hp1, hpe, hpe2, hd, he, hpb, hpb2, hpb3])
  | (refine ⟨by omega, ?_⟩)
  | ((first | refine zag ?_ | refine zai ?_ | refine zav ?_ | fail); simp [h1, hp1, hpe, hpe2, hd, he, hpb, hpb2, hpb3])
  | ((first | refine zaq ?_ | refine zap ?_ | fail); simp only [zao])
  | (refine CallP.fE (hsp) (by first | rfl | fail) (by first | simp [h1, hp1, hpe, hpe2, hd, he, hpb, hpb2, hpb3] <;> rfl | fail) ?_; (try simp [h1, hp1, hpe, hpe2, hd, he, hpb, hpb2, hpb3]))
  | (refine CallP.fE (hnx) (by first | rfl | fail) (by first | simp [h1, hp1, hpe, hpe2, hd, he, hpb, hpb2, hpb3] <;> rfl | fail) ?_; (try simp [h1, hp1, hpe, hpe2, hd, he, hpb, hpb2, hpb3]))
  | fail)
   refine EndW.norm (EndW.here ?_)
   (refine EndOK.val (.inr rfl) ?_; simp [zaJ, zah, zau, Tryz.results32, zaz, zaA, zie, zif, frz, za2, frzS, fv, zaE, zaY, za1, zaD, zas, zal, zbZ, zcj, zck, zbh])
   rw [h4]
   simp [zlQ, zgR]
  | ok t =>
   rw [hno] at h4 hnx
   obtain ⟨ht1, ht2⟩ := zfL hno
   simp only [List.length_cons] at ht2
   have hap : zh1 acc ++ [[D.u (.int .i64 t.kind), D.u (.str t.text), D.u (.int .i64 t.n), D.u (.int .i64 ((p : Int) + b))]] = zh1 (acc ++ [{ t with pos := ((p + b : Nat) : Int) }]) := by simp [zh1]
   have hlr : zhE 4 (zh1 acc) := fun r hr => by obtain ⟨t, _, rfl⟩ := List.mem_map.1 hr; rfl
   repeat' (first
  | ((first | refine zaf ?_ | refine zaj ?_ | fail); simp [h1, hp1, hpe, hpe2, hd, hpb, hpb2, hpb3, zco, hap, hlr])
  | (refine ⟨by omega, ?_⟩)
  | ((first | refine zag ?_ | refine zai ?_ | refine zav ?_ | refine zat ?_ | fail); simp [h1, hp1, hpe, hpe2, hd, hpb, hpb2, hpb3, zco, hap, hlr])
  | (refine zap ?_; simp only [zao])
  | (refine CallP.fE (hsp) (by first | rfl | fail) (by first | simp [h1, hp1, hpe, hpe2, hd, hpb, hpb2, hpb3, zco, hap, hlr] <;> rfl | fail) ?_; (try simp [h1, hp1, hpe, hpe2, hd, hpb, hpb2, hpb3, zco, hap, hlr]))
  | (refine CallP.fE (hnx) (by first | rfl | fail) (by first | simp [h1, hp1, hpe, hpe2, hd, hpb, hpb2, hpb3, zco, hap, hlr] <;> rfl | fail) ?_; (try simp [h1, hp1, hpe, hpe2, hd, hpb, hpb2, hpb3, zco, hap, hlr]))
  | fail)
   refine LoopW.next ⟨(acc ++ [{ t with pos := ((p + b : Nat) : Int) }], p + b + t.text.length, f'), by simp; omega, by simp; omega, by simp; omega, ?_⟩ (by simp) ?_
   ·rw [h4]
    simp only
    cases zhC f' s (p + b + t.text.length) <;> simp [zlQ]
   ·skip
    exact (Wk.ren ((fun i => if i = 0 then 3 else i)) rfl (by first | (simp [hn]; done) | (intro i hi; rw [hn] at hi; constructor <;> (try simp) <;> (try (intro _)) <;> omega)) (by simp [zfZ, St.lp, zam, zaa, getK, zac, zak, D.under, D.le, D.ren, zgD, zfE] <;> (try (intros; simp_all; done)) <;> (try omega)) (by simp [wkR, St.lp, zaa, getK, zac, zak, obR, leU, zbf, zaN, Ob.under, D.under, D.le, D.ren, zgD, zfE] <;> (try (intros; simp_all; done)) <;> (try omega)) (by simp [zgD, zfE]))
end Go.Proofs.YthnemhfamhnfjaaGreatDoor
namespace Go.Proofs.YthnemhfamhnfjaaGreatDoor
open Go Go.VL
attribute [local simp] HS zde zb7 evPure opd uOf zaF St.put St.at getK binD binI binS binB nilD aggD zhn ziD lookD lookR zcB Go.VL.nextD zcF ziQ ziP zgW zcz mkV zdB zbq zbB mapEff zev zgg Key.kk shiftI arith unD convD zeg loadD cellsAt fieldAddrD fieldD indexAddrD indexD sliceD cutD lenD minmaxD nilCheckD buildD fillD zbU zdn ze5 setAll zcU zff zcx zhN zct St.add zaR zbR rowsOf zd0 zcJ zak zac zaa za9 zcI zaP entry zbO zbY valD zb8 zcA zhf zdz zdA zb1 zbQ zax zaW zbu delAll effD St.effS zdj zbl za5 zdk zbm za7 zcl za6 zaV zcm zdh zbJ zci zbt zcg zch zaK mkD zbL zbC zbP zax zcv D.ids Op.operands Call.operands zbI makeIfD makeFuncD typeAssertD ziB zdR zdS zhX zcD IntKind.bits zcV List.take_of_length_le List.range_succ
attribute [local irreducible] V G H HD HD2 HD4 zmC RetX zao Eff CallP CallV EndOK Fun Ret FinOK LoopI LoopW EndW
theorem zbM (l : List Tok) (p : Nat) (t : Tok) (hp : l[p]? = some t) (hl : l.length ≤ 1000000) : Fun Tryz.prog 43 [.u (zpo l p)] (· = .u (.agg [.int .i64 t.kind, .str t.text, .int .i64 t.n, .int .i64 t.pos])) := by
 have hlt := (lGE.1 hp).1
 unfold zpo zmO
 (refine Fun.of_body Tryz.func43 rfl (by simp) fun Γ hn => ?_); simp only [entry, ziC, ziN, maC, maN, oA, Tryz.ntmps43]
 repeat' (first
  | ((first | refine zaf ?_ | refine zaO rfl ?_ | refine za3 rfl ?_ | refine zaj ?_ | refine zag ?_ | fail); simp [hp])
  | (refine zaX (hC _ (by kernel_rfl)) (hk _ ?_); clear hC hk C k; simp only [zao])
  | (refine za0 rfl (by kernel_rfl) (by first | (simp [hn]; done) | (simp [hn]; omega) | fail) fun C k hC hk => ?_; simp [hp])
  | (refine zaq ?_; simp only [zao])
  | fail)
 (refine EndOK.val (.inr rfl) ?_; simp [zaJ, zah, zau, Tryz.results43])
theorem zdH (l : List Tok) (p : Nat) (w : List UInt8) (hp : p < l.length) (hl : l.length ≤ 1000000) : Fun Tryz.prog 79 [.u (zpo l p), .u (.str w)] (· = .u (.bool (isB l p w))) := by
 obtain ⟨t, ht⟩ : ∃ t, l[p]? = some t := ⟨_, List.getElem?_eq_getElem hp⟩
 have hnx := zbM l p t ht hl
 unfold isB
 rw [ht]
 unfold zpo zmO at *
 by_cases h1 : t.kind = 0
 ·(refine Fun.of_body Tryz.func79 rfl (by simp) fun Γ hn => ?_); simp only [entry, ziC, ziN, maC, maN, oA, Tryz.ntmps79]
  repeat' (first
  | ((first | refine zaf ?_ | refine zaj ?_ | refine zag ?_ | fail); simp [h1])
  | (refine zaq ?_; simp only [zao])
  | (refine CallP.fE (hnx) (by first | rfl | fail) (by first | simp [h1] <;> rfl | fail) ?_; (try simp [h1]))
  | fail)
  all_goals
    (refine EndOK.val (.inr rfl) ?_; simp [zaJ, zah, zau, Tryz.results79])
  all_goals simp [h1]
 ·(refine Fun.of_body Tryz.func79 rfl (by simp) fun Γ hn => ?_); simp only [entry, ziC, ziN, maC, maN, oA, Tryz.ntmps79]
  repeat' (first
  | ((first | refine zaf ?_ | refine zaj ?_ | refine zag ?_ | fail); simp [h1])
  | (refine zaq ?_; simp only [zao])
  | (refine CallP.fE (hnx) (by first | rfl | fail) (by first | simp [h1] <;> rfl | fail) ?_; (try simp [h1]))
  | fail)
  all_goals
    (refine EndOK.val (.inr rfl) ?_; simp [zaJ, zah, zau, Tryz.results79])
  all_goals simp [h1]
theorem zbc (l : List Tok) (p : Nat) (w : List UInt8) (i nx : Nat) (hi : i < nx) (hp : p < l.length) (hl : l.length ≤ 1000000) :
  RetX Tryz.prog 127 [.ptr i 0, .u (.str w)] [(i, pOb l p)] nx (fun r o n => r = .val (.u (.bool (isB l p w))) ∧ o = [(i, pOb l (if isB l p w = true then p + 1 else p))] ∧ n = nx) := by
 have h1 := zdH l p w hp hl
 unfold pOb zpo zmO at *
 cases hb : isB l p w with
 | false =>
  rw [hb] at h1
  (refine RetX.of_bodyW Tryz.func127 rfl (by simp) fun Γ hn hpan => ?_); simp only [entry, ziC, ziN, maC, maN, oA, Tryz.ntmps127]
  repeat' (first
  | ((first | refine zaf ?_ | refine zaj ?_ | refine zag ?_ | refine zai ?_ | fail); simp)
  | (refine zaq ?_; simp only [zao])
  | (refine CallP.fE (h1) (by first | rfl | fail) (by first | (simp; done) | (simp; rfl) | fail) ?_; (try simp))
  | fail)
  (refine EndW.here ?_; (first | (refine EndOK.fin (.inr rfl) ?_) | (refine EndOK.fin (.inl rfl) ?_)); simp [zaJ, zah, Tryz.results127]; refine FinOK.here (by simp) ?_; try simp)
 | true =>
  rw [hb] at h1
  (refine RetX.of_bodyW Tryz.func127 rfl (by simp) fun Γ hn hpan => ?_); simp only [entry, ziC, ziN, maC, maN, oA, Tryz.ntmps127]
  repeat' (first
  | ((first | refine zaf ?_ | refine zaj ?_ | fail); simp)
  | (refine ⟨by omega, ?_⟩)
  | ((first | refine zag ?_ | refine zai ?_ | fail); simp)
  | ((first | refine zaq ?_ | refine zap ?_ | fail); simp only [zao])
  | (refine CallP.fE (h1) (by first | rfl | fail) (by first | (simp; done) | (simp; rfl) | fail) ?_; (try simp))
  | fail)
  (refine EndW.here ?_; (first | (refine EndOK.fin (.inr rfl) ?_) | (refine EndOK.fin (.inl rfl) ?_)); simp [zaJ, zah, Tryz.results127]; refine FinOK.here (by simp) ?_; try simp)
/-- The panic of a stop. -/
def chP (pos e : Int) : List PanicEntry := [{ v := .iface 105 (.agg #[.int .i64 pos, .int .i64 e]), recovered := false }]
def isP (l : List Tok) (ob : Ob) : Prop := ∃ q : Nat, ob = pOb l q
theorem zdM (l : List Tok) (p : Nat) (e : Int) (i nx : Nat) (hi : i < nx) :
  RetX Tryz.prog 42 [.ptr i 0, .u (.bool true), .u (.int .i64 e)] [(i, pOb l p)] nx (fun r o n => r = .val (.tup []) ∧ o = [(i, pOb l p)] ∧ n = nx) := by
 (refine RetX.of_bodyW Tryz.func42 rfl (by simp) fun Γ hn hpan => ?_); simp only [entry, ziC, ziN, maC, maN, oA, Tryz.ntmps42]
 repeat' (first
  | ((first | refine zaf ?_ | refine zaj ?_ | refine zag ?_ | refine zai ?_ | fail); simp)
  | (refine zap ?_; simp only [zao])
  | fail)
 (refine EndW.here ?_; (first | (refine EndOK.fin (.inr rfl) ?_) | (refine EndOK.fin (.inl rfl) ?_)); simp [zaJ, zah, Tryz.results42]; refine FinOK.here (by simp) ?_; try simp)
theorem zcG (l : List Tok) (p : Nat) (t : Tok) (e : Int) (i nx : Nat) (hi : i < nx) (hp : l[p]? = some t) (hl : l.length ≤ 1000000) :
  RetX Tryz.prog 42 [.ptr i 0, .u (.bool false), .u (.int .i64 e)] [(i, pOb l p)] nx (fun r o n => r = .pan (chP t.pos e) ∧ (∃ ob', isP l ob' ∧ o = [(i, ob')]) ∧ n = nx) := by
 have h1 := zbM l p t hp hl
 (refine RetX.of_bodyW Tryz.func42 rfl (by simp) fun Γ hn hpan => ?_); simp only [entry, ziC, ziN, maC, maN, oA, Tryz.ntmps42]
 repeat' (first
  | ((first | refine zaf ?_ | refine zaj ?_ | refine zag ?_ | refine zai ?_ | refine zat ?_ | fail); simp)
  | (refine CallP.fE (h1) (by first | rfl | fail) (by first | (simp; done) | (simp; rfl) | fail) ?_; (try simp))
  | fail)
 all_goals
  (refine hpan _ _ ⟨{ n := _, env := [], obs := [(i, pOb l p)], next := nx }, (Wk.cut rfl (by simp [hn]) (by simp [wkO, zaa, getK, zab, zac, Ob.under, D.under, zad, zae, hi]) (by simp [wkU, zam, zaa, getK, D.under, hi]) (by simp [wkE, zam, zaa, getK, hi])), by simp [hn], ?_⟩; try simp)
  all_goals exact ⟨rfl, p, rfl⟩
inductive PR (α : Type) where
 | ok (a : α) (p : Nat)
 | stop (pos e : Int)
def zcR (l : List Tok) (p : Nat) : Int := match l[p]? with | some t => t.pos | none => 0
def zbs (l : List Tok) : Nat → List (List UInt8) → PR Unit
 | p, [] => .ok () p
 | p, w :: ws => if isB l p w = true then zbs l (p + 1) ws else .stop (zcR l p) 12
def PPost {α : Type} (l : List Tok) (i nx : Nat) (val : α → D) : PR α → Out → List (Nat × Ob) → Nat → Prop
 | .ok a q, o, obs, n => o = .val (val a) ∧ obs = [(i, pOb l q)] ∧ n = nx
 | .stop pos e, o, obs, n => o = .pan (chP pos e) ∧ (∃ ob', isP l ob' ∧ obs = [(i, ob')]) ∧ n = nx
theorem zhU (l : List Tok) (p : Nat) (ws : List (List UInt8)) (i nx : Nat) (hi : i < nx) (hp : p < l.length) (hl : TokOK l) (hw : ws.length ≤ 100) :
  RetX Tryz.prog 83 [.ptr i 0, .u (.sl (ws.map fun w => [.str w]))] [(i, pOb l p)] nx (PPost l i nx (fun _ => .tup []) (zbs l p ws)) := by
 (refine RetX.of_bodyW Tryz.func83 rfl (by simp) fun Γ hn hpan => ?_); simp only [entry, ziC, ziN, maC, maN, oA, Tryz.ntmps83]
 repeat' (first
  | ((first | refine zaf ?_ | refine zaj ?_ | refine zag ?_ | refine zav ?_ | fail); simp)
  | fail)
 refine zcW (α := { x : Nat × Nat // x.1 ≤ ws.length ∧ x.2 < l.length ∧ zbs l p ws = zbs l x.2 (ws.drop x.1) }) [0, 6, 7] (fun x => [(8, .u (.int .i64 x.1.1))]) (fun x => [(i, pOb l x.1.2)]) nx (fun x => ws.length - x.1.1) ⟨(0, p), by simp, hp, by simp⟩ ?_ ?_
 ·exact (Wk.cut rfl (by simp [hn, St.lp]) (by simp [wkO, St.lp, zaa, getK, Ob.under, D.under, zad, zae, hi]) (by simp [wkU, St.lp, zam, zaa, getK, D.under, hi]) (by simp [wkE, St.lp, zam, zaa, getK, hi] <;> (try (intros; simp_all; done)) <;> (try (intros; omega)) <;> (try grind)))
 rintro ⟨⟨k, q⟩, h1, h2, h3⟩
 simp only at h1 h2 h3
 simp [St.lp, St.only, zam, zaa, getK]
 rcases hx : ws[k]? with _ | w
 ·have hge : ws.length ≤ k := by simpa using hx
  obtain rfl : k = ws.length := by omega
  rw [List.drop_length, zbs] at h3
  repeat' (first
  | ((first | refine zaf ?_ | refine zaj ?_ | refine zag ?_ | fail); simp [hx])
  | (refine zbb ?_; simp [zao])
  | fail)
  rw [h3]
  (refine EndW.here ?_; (first | (refine EndOK.fin (.inr rfl) ?_) | (refine EndOK.fin (.inl rfl) ?_)); simp [zaJ, zah, Tryz.results83]; refine FinOK.here (by simp) ?_; try simp)
  simp [PPost]
 ·have hlt : k < ws.length := (lGE.1 hx).1
  have hd : ws.drop k = w :: ws.drop (k + 1) := by
   obtain ⟨h5, h6⟩ := lGE.1 hx
   rw [← h6, List.getElem_cons_drop]
  rw [hd, zbs] at h3
  have hh := zbc l q w i nx hi h2 hl.len
  by_cases hb : isB l q w = true
  ·rw [if_pos hb] at h3
   rw [hb, if_pos rfl] at hh
   have hq := zba hl hb
   have hck := zdM l (q + 1) 12 i nx hi
   repeat' (first
  | ((first | refine zaf ?_ | refine zaj ?_ | fail); simp [hx])
  | (refine ⟨by omega, ?_⟩)
  | ((first | refine zag ?_ | refine zat ?_ | fail); simp [hx])
  | (refine zap ?_; simp only [zao])
  | (refine ⟨?_, by omega⟩)
  | (intro hc <;> (try (exfalso; omega)))
  | (refine CallP.ok1 (hh) (by first | (simp [hx, zaa, getK, zab, zac]; done) | fail) (by rfl) (by rfl) ?_; (try simp [hx]))
  | (refine CallP.ok1 (hck) (by first | (simp [hx, zaa, getK, zab, zac]; done) | fail) (by rfl) (by rfl) ?_; (try simp [hx]))
  | fail)
   refine LoopW.next ⟨(k + 1, q + 1), by omega, hq, h3⟩ (by simp; omega) ?_
   exact (Wk.cut rfl (by simp [hn, St.lp]) (by simp [wkO, St.lp, zaa, getK, Ob.under, D.under, zad, zae, hi, zab, zac, zaa, getK]) (by simp [wkU, St.lp, zam, zaa, getK, D.under, hi, zab, zac, zaa, getK]) (by simp [wkE, St.lp, zam, zaa, getK, hi, zab, zac, zaa, getK] <;> (try (intros; simp_all; done)) <;> (try (intros; omega)) <;> (try grind)))
  ·have hb2 : isB l q w = false := by simpa using hb
   rw [if_neg hb] at h3
   rw [hb2, if_neg (by simp)] at hh
   obtain ⟨t, ht⟩ : ∃ t, l[q]? = some t := ⟨_, List.getElem?_eq_getElem h2⟩
   have hck := zcG l q t 12 i nx hi ht hl.len
   repeat' (first
  | ((first | refine zaf ?_ | refine zaj ?_ | refine zag ?_ | refine zat ?_ | fail); simp [hx])
  | (refine zap ?_; simp only [zao])
  | (refine ⟨?_, by omega⟩)
  | (intro hc <;> (try (exfalso; omega)))
  | (refine CallP.ok1 (hh) (by first | (simp [hx, zaa, getK, zab, zac]; done) | fail) (by rfl) (by rfl) ?_; (try simp [hx]))
  | (refine CallP.zd8 (hck) (by first | (simp [hx, zaa, getK, zab, zac]; done) | fail) (by rfl) (by first | assumption | (simp; done) | fail) (by rfl) (by simp) ?_; rintro ob' ⟨q', rfl⟩; refine ⟨_, Wk.refl _, ?_⟩)
  | fail)
   rw [h3] at hpan
   (refine hpan _ _ ⟨{ n := _, env := [], obs := [(i, pOb l q')], next := nx }, (Wk.cut rfl (by simp [hn]) (by simp [wkO, zaa, getK, zab, zac, Ob.under, D.under, zad, zae, hi, zab, zac, zaa, getK]) (by simp [wkU, zam, zaa, getK, D.under, hi, zab, zac, zaa, getK]) (by simp [wkE, zam, zaa, getK, hi, zab, zac, zaa, getK])), by simp [hn], ?_⟩; try simp)
   all_goals exact ⟨by simp [zcR, ht], ⟨_, ⟨q', rfl⟩, rfl⟩, rfl⟩
end Go.Proofs.YthnemhfamhnfjaaGreatDoor
namespace Go.Proofs.YthnemhfamhnfjaaGreatDoor
open Go Go.VL
def PR.bind {α β : Type} : PR α → (α → Nat → PR β) → PR β
 | .ok a p, f => f a p
 | .stop pos e, _ => .stop pos e
theorem PR.zaT {α β : Type} {a : α} {p : Nat} {f : α → Nat → PR β} : (PR.ok a p).bind f = f a p := rfl
theorem PR.zaL {α β : Type} {pos e : Int} {f : α → Nat → PR β} : (PR.stop pos e : PR α).bind f = .stop pos e := rfl
theorem PR.zaw {α β : Type} {r : PR α} {f : α → Nat → PR β} {b : β} {q : Nat} (h : r.bind f = .ok b q) : ∃ a p, r = .ok a p ∧ f a p = .ok b q := by
 cases r with
 | ok a p => exact ⟨a, p, rfl, h⟩
 | stop => cases h
theorem PPost.zcf {α : Type} {l i nx} {val : α → D} {r : PR α} {a : α} {q : Nat} (h : r = .ok a q) {d : D} (hd : d = val a) {o : List (Nat × Ob)} (ho : o = [(i, pOb l q)]) : PPost l i nx val r (.val d) o nx := by
 subst h; subst hd; subst ho; exact ⟨rfl, rfl, rfl⟩
theorem PPost.zay {α : Type} {l i nx} {val : α → D} {r : PR α} {pos e : Int} {q : Nat} (h : r = .stop pos e) : PPost l i nx val r (.pan (chP pos e)) [(i, pOb l q)] nx := by
 subst h; exact ⟨rfl, ⟨_, ⟨q, rfl⟩, rfl⟩, rfl⟩
structure Opr where
 text : List UInt8
 op : Int
 form : Int
def oprs : List Opr := [⟨[111, 114], 11, 1⟩, ⟨[97, 110, 100], 10, 2⟩, ⟨[61, 61], 9, 4⟩, ⟨[60], 8, 4⟩, ⟨[43], 2, 5⟩, ⟨[45], 3, 5⟩, ⟨[42], 4, 6⟩, ⟨[47], 5, 6⟩]
def zqz (l : List Tok) (p : Nat) : Option Opr := oprs.find? fun o => isB l p o.text
def ziV (l : List Tok) (p : Nat) : PR Int :=
 if isB l p [99, 111, 105, 110, 115] = true then .ok 3 (p + 1)
 else if isB l p [100, 97, 121, 115] = true then .ok 2 (p + 1)
 else if isB l p [112, 101, 114] = true then (zbs l (p + 1) [[109, 105, 108, 108, 101]]).bind fun _ q => .ok 4 q
 else .ok 1 p
mutual
def zdI (l : List Tok) : Nat → Nat → Int → PR Exp
 | 0, _, _ => .stop 0 0
 | f + 1, p, form => (zbo l f p form).bind fun e q => zel l f form e.1 e.2 q
def zel (l : List Tok) : Nat → Int → Exp → Int → Nat → PR Exp
 | 0, _, _, _, _ => .stop 0 0
 | f + 1, form, e, own, q => match zqz l q with
  | none => .ok e q
  | some x => if x.form < form ∨ own < x.form ∨ (own = 4 ∧ x.form = 4) then .ok e q
   else (zdI l f (q + 1) (x.form + 1)).bind fun e2 r => zel l f form (.mk x.op 0 0 [] [e, e2]) x.form r
def zbo (l : List Tok) : Nat → Nat → Int → PR (Exp × Int)
 | 0, _, _ => .stop 0 0
 | f + 1, p, form =>
  if form = 0 ∧ isB l p [105, 102] = true then
   (zdI l f (p + 1) 0).bind fun a q1 => (zbs l q1 [[116, 104, 101, 110]]).bind fun _ q2 => (zdI l f q2 0).bind fun b q3 =>
   (zbs l q3 [[101, 108, 115, 101]]).bind fun _ q4 => (zdI l f q4 0).bind fun c q5 => .ok (.mk 13 0 0 [] [a, b, c], 0) q5
  else if form ≤ 3 ∧ isB l p [110, 111, 116] = true then (zdI l f (p + 1) 3).bind fun a q => .ok (.mk 12 0 0 [] [a], 3) q
  else (zaU l f p).bind fun e q => .ok (e, 7) q
def zaU (l : List Tok) : Nat → Nat → PR Exp
 | 0, _ => .stop 0 0
 | f + 1, p => match l[p]? with
  | none => .stop 0 0
  | some t =>
   if t.kind = 2 then (ziV l (p + 1)).bind fun u q => .ok (.mk 0 t.n u [] []) q
   else if isB l p [116, 114, 117, 101] = true then .ok (.mk 0 1 0 [] []) (p + 1)
   else if isB l p [102, 97, 108, 115, 101] = true then .ok (.mk 0 0 0 [] []) (p + 1)
   else if isB l p [109, 105, 110] = true ∨ isB l p [109, 97, 120] = true then
    (zbs l (p + 1) [[40]]).bind fun _ q1 => (zdI l f q1 0).bind fun a q2 => (zbs l q2 [[44]]).bind fun _ q3 => (zdI l f q3 0).bind fun b q4 =>
    (zbs l q4 [[41]]).bind fun _ q5 => .ok (.mk (if isB l p [109, 97, 120] = true then 7 else 6) 0 0 [] [a, b]) q5
   else if isB l p [40] = true then (zdI l f (p + 1) 0).bind fun e q1 => (zbs l q1 [[41]]).bind fun _ q2 => .ok e q2
   else if t.kind = 1 ∧ zcy t.text = true then .ok (.mk 1 0 0 t.text []) (p + 1)
   else .stop t.pos 12
end
theorem zaS {l : List Tok} (hl : TokOK l) : ∀ (ws : List (List UInt8)) {p q : Nat}, zbs l p ws = .ok () q → p < l.length → p ≤ q ∧ q < l.length
 | [], p, q, h, hp => by rw [zbs] at h; cases h; exact ⟨Nat.le_refl _, hp⟩
 | w :: ws, p, q, h, hp => by
  rw [zbs] at h
  split at h
  ·rename_i hb
   have := zaS hl ws h (zba hl hb)
   exact ⟨by omega, this.2⟩
  ·cases h
theorem zoj {l : List Tok} (hl : TokOK l) {p q : Nat} {u : Int} (h : ziV l p = .ok u q) (hp : p < l.length) : p ≤ q ∧ q < l.length := by
 unfold ziV at h
 split at h
 ·rename_i hb; cases h; exact ⟨by omega, zba hl hb⟩
 ·split at h
  ·rename_i hb; cases h; exact ⟨by omega, zba hl hb⟩
  ·split at h
   ·rename_i hb
    obtain ⟨a, r, h1, h2⟩ := PR.zaw h
    cases h2
    have := zaS hl _ h1 (zba hl hb)
    exact ⟨by omega, this.2⟩
   ·cases h; exact ⟨by omega, hp⟩
theorem zbV {l : List Tok} (hl : TokOK l) : ∀ (f : Nat),
  (∀ p form e q, zdI l f p form = .ok e q → p < l.length → p ≤ q ∧ q < l.length) ∧
  (∀ form e own p e' q, zel l f form e own p = .ok e' q → p < l.length → p ≤ q ∧ q < l.length) ∧
  (∀ p form e q, zbo l f p form = .ok e q → p < l.length → p ≤ q ∧ q < l.length) ∧
  (∀ p e q, zaU l f p = .ok e q → p < l.length → p ≤ q ∧ q < l.length)
 | 0 => ⟨fun _ _ _ _ h => by simp [zdI] at h, fun _ _ _ _ _ _ h => by simp [zel] at h, fun _ _ _ _ h => by simp [zbo] at h, fun _ _ _ h => by simp [zaU] at h⟩
 | f + 1 => by
  obtain ⟨he, hlo, hpr, hpm⟩ := zbV hl f
  refine ⟨fun p form e q h hp => ?_, fun form e own p e' q h hp => ?_, fun p form e q h hp => ?_, fun p e q h hp => ?_⟩
  ·rw [zdI] at h
   obtain ⟨a, r, h1, h2⟩ := PR.zaw h
   have g1 := hpr _ _ _ _ h1 hp
   have g2 := hlo _ _ _ _ _ _ h2 g1.2
   exact ⟨by omega, g2.2⟩
  ·rw [zel] at h
   split at h
   ·cases h; exact ⟨by omega, hp⟩
   ·rename_i x hx
    have hb := List.find?_some hx
    have hp2 := zba hl hb
    split at h
    ·cases h; exact ⟨by omega, hp⟩
    ·obtain ⟨a, r, h1, h2⟩ := PR.zaw h
     have g1 := he _ _ _ _ h1 hp2
     have g2 := hlo _ _ _ _ _ _ h2 g1.2
     exact ⟨by omega, g2.2⟩
  ·rw [zbo] at h
   split at h
   ·rename_i hb
    have hp2 := zba hl hb.2
    obtain ⟨a, r, h1, h⟩ := PR.zaw h
    have g1 := he _ _ _ _ h1 hp2
    obtain ⟨_, r2, h2, h⟩ := PR.zaw h
    have g2 := zaS hl _ h2 g1.2
    obtain ⟨a, r3, h3, h⟩ := PR.zaw h
    have g3 := he _ _ _ _ h3 g2.2
    obtain ⟨_, r4, h4, h⟩ := PR.zaw h
    have g4 := zaS hl _ h4 g3.2
    obtain ⟨a, r5, h5, h⟩ := PR.zaw h
    have g5 := he _ _ _ _ h5 g4.2
    cases h
    exact ⟨by omega, g5.2⟩
   ·split at h
    ·rename_i hb
     have hp2 := zba hl hb.2
     obtain ⟨a, r, h1, h⟩ := PR.zaw h
     have g1 := he _ _ _ _ h1 hp2
     cases h
     exact ⟨by omega, g1.2⟩
    ·obtain ⟨a, r, h1, h⟩ := PR.zaw h
     have g1 := hpm _ _ _ h1 hp
     cases h
     exact g1
  ·rw [zaU] at h
   split at h
   ·cases h
   ·rename_i t ht
    split at h
    ·rename_i hk
     have hp2 := hl.fin p t ht (by omega)
     obtain ⟨a, r, h1, h⟩ := PR.zaw h
     have g1 := zoj hl h1 hp2
     cases h
     exact ⟨by omega, g1.2⟩
    split at h
    ·rename_i hb; cases h; exact ⟨by omega, zba hl hb⟩
    split at h
    ·rename_i hb; cases h; exact ⟨by omega, zba hl hb⟩
    split at h
    ·rename_i hb
     have hp2 : p + 1 < l.length := hb.elim (zba hl) (zba hl)
     obtain ⟨_, r2, h2, h⟩ := PR.zaw h
     have g2 := zaS hl _ h2 hp2
     obtain ⟨a, r3, h3, h⟩ := PR.zaw h
     have g3 := he _ _ _ _ h3 g2.2
     obtain ⟨_, r4, h4, h⟩ := PR.zaw h
     have g4 := zaS hl _ h4 g3.2
     obtain ⟨a, r5, h5, h⟩ := PR.zaw h
     have g5 := he _ _ _ _ h5 g4.2
     obtain ⟨_, r6, h6, h⟩ := PR.zaw h
     have g6 := zaS hl _ h6 g5.2
     cases h
     exact ⟨by omega, g6.2⟩
    split at h
    ·rename_i hb
     have hp2 := zba hl hb
     obtain ⟨a, r3, h3, h⟩ := PR.zaw h
     have g3 := he _ _ _ _ h3 hp2
     obtain ⟨_, r4, h4, h⟩ := PR.zaw h
     have g4 := zaS hl _ h4 g3.2
     cases h
     exact ⟨by omega, g4.2⟩
    split at h
    ·rename_i hk
     cases h
     exact ⟨by omega, hl.fin p t ht (by omega)⟩
    ·cases h
end Go.Proofs.YthnemhfamhnfjaaGreatDoor
namespace Go.Proofs.YthnemhfamhnfjaaGreatDoor
open Go Go.VL
abbrev W8 := List UInt8
def zgV : W8 → Int
 | [] => 0
 | c :: _ => if zbp c = true then 1 else if zaI c = true then 2 else 3
theorem zlc {w : W8} (h : w ≠ []) : zgV w ≠ 0 := by
 cases w with
 | nil => exact absurd rfl h
 | cons c w => rw [zgV]; split <;> (try split) <;> decide
def zqm (w : W8) : Int := if zgV w = 2 then (zdQ w).getD 0 else 0
def Reads (l : List Tok) (p : Nat) (ws : List W8) : Prop := ∀ i w, ws[i]? = some w → w ≠ [] ∧ ∃ t, l[p + i]? = some t ∧ t.text = w ∧ t.kind = zgV w ∧ t.n = zqm w
theorem Reads.left {l p} {a b : List W8} (h : Reads l p (a ++ b)) : Reads l p a := fun i w hi => h i w (by rw [List.getElem?_append_left (lGE.1 hi).1]; exact hi)
theorem Reads.right {l p} {a b : List W8} (h : Reads l p (a ++ b)) : Reads l (p + a.length) b := fun i w hi => by
 have := h (a.length + i) w (by rw [List.getElem?_append_right (by omega), Nat.add_sub_cancel_left]; exact hi)
 rwa [← nAA] at this
theorem Reads.head {l p} {w : W8} {b : List W8} (h : Reads l p (w :: b)) : w ≠ [] ∧ ∃ t, l[p]? = some t ∧ t.text = w ∧ t.kind = zgV w ∧ t.n = zqm w := h 0 w rfl
theorem Reads.tail {l p} {w : W8} {b : List W8} (h : Reads l p (w :: b)) : Reads l (p + 1) b := Reads.right (a := [w]) h
theorem Reads.isB {l p} {w : W8} {b : List W8} (h : Reads l p (w :: b)) (v : W8) : isB l p v = decide (w = v) := by
 obtain ⟨hw, t, ht, h1, h2, h3⟩ := h.head
 have := zlc hw
 simp [Go.Proofs.YthnemhfamhnfjaaGreatDoor.isB, ht, h1, h2, this]
theorem Reads.want {l p} {w : W8} {b : List W8} (h : Reads l p (w :: b)) : zbs l p [w] = .ok () (p + 1) := by
 rw [zbs, if_pos (by rw [h.isB]; simp), zbs]
def Ev {α : Type} (g : Nat → PR α) (r : PR α) : Prop := ∃ f0, ∀ f, f0 ≤ f → g f = r
theorem Ev.succ {α : Type} {g : Nat → PR α} {r : PR α} (h : Ev (fun f => g (f + 1)) r) : Ev g r := by
 obtain ⟨f0, h⟩ := h
 refine ⟨f0 + 1, fun f hf => ?_⟩
 obtain ⟨f, rfl⟩ : ∃ k, f = k + 1 := ⟨f - 1, by omega⟩
 exact h f (by omega)
theorem Ev.const {α : Type} {r : PR α} : Ev (fun _ => r) r := ⟨0, fun _ _ => rfl⟩
theorem Ev.of {α : Type} {g : Nat → PR α} {r : PR α} (h : ∀ f, g f = r) : Ev g r := ⟨0, fun f _ => h f⟩
theorem Ev.bind {α β : Type} {g : Nat → PR α} {a : α} {q : Nat} {F : Nat → α → Nat → PR β} {r : PR β} (h : Ev g (.ok a q)) (h2 : Ev (fun f => F f a q) r) : Ev (fun f => (g f).bind (F f)) r := by
 obtain ⟨f0, h⟩ := h
 obtain ⟨f1, h2⟩ := h2
 refine ⟨max f0 f1, fun f hf => ?_⟩
 show (g f).bind (F f) = r
 rw [h f (by omega), PR.zaT]
 exact h2 f (by omega)
def zbX (op : Int) : Int := if op = 13 then 0 else if op = 12 then 3 else match oprs.find? (fun o => decide (o.op = op)) with | some o => o.form | none => 7
def zeC (n u : Int) : List W8 :=
 if u = 0 then [if n = 1 then [116, 114, 117, 101] else [102, 97, 108, 115, 101]]
 else Lib.itoa n :: (if u = 3 then [[99, 111, 105, 110, 115]] else if u = 2 then [[100, 97, 121, 115]] else if u = 4 then [[112, 101, 114], [109, 105, 108, 108, 101]] else [])
def zpK (x : Int × List W8) (least : Int) : List W8 := if x.1 < least then [40] :: x.2 ++ [[41]] else x.2
def zmD (ws : List (Int × List W8)) (i : Nat) (least : Int) : List W8 := match ws[i]? with | some x => zpK x least | none => []
def zcT (op n u : Int) (s : W8) (ws : List (Int × List W8)) : List W8 :=
 if op = 0 then zeC n u else if op = 1 then [s]
 else if op = 13 then [105, 102] :: zmD ws 0 0 ++ [116, 104, 101, 110] :: zmD ws 1 0 ++ [101, 108, 115, 101] :: zmD ws 2 0
 else if op = 12 then [110, 111, 116] :: zmD ws 0 3
 else if op = 6 then [109, 105, 110] :: [40] :: zmD ws 0 0 ++ [44] :: zmD ws 1 0 ++ [[41]]
 else if op = 7 then [109, 97, 120] :: [40] :: zmD ws 0 0 ++ [44] :: zmD ws 1 0 ++ [[41]]
 else match oprs.find? (fun o => decide (o.op = op)) with
  | some o => zmD ws 0 (if o.form = 4 then 5 else o.form) ++ o.text :: zmD ws 1 (o.form + 1)
  | none => []
mutual
def zbj : Exp → List W8
 | .mk op n u s args => zcT op n u s (zkL args)
def zkL : List Exp → List (Int × List W8)
 | [] => []
 | .mk op n u s args :: l => (zbX op, zcT op n u s (zkL args)) :: zkL l
end
theorem zj0 : ∀ l : List Exp, zkL l = l.map fun e => (zbX e.op, zbj e)
 | [] => by simp [zkL]
 | .mk op n u s args :: l => by rw [zkL, List.map_cons, zj0 l]; simp [zbj, Exp.op]
def zbS (e : Exp) (least : Int) : List W8 := zpK (zbX e.op, zbj e) least
theorem zbN {args : List Exp} {i : Nat} {a : Exp} (h : args[i]? = some a) (least : Int) : zmD (zkL args) i least = zbS a least := by
 rw [zmD, zj0, List.getElem?_map, h]; rfl
end Go.Proofs.YthnemhfamhnfjaaGreatDoor
namespace Go.Proofs.YthnemhfamhnfjaaGreatDoor
open Go Go.VL
end Go.Proofs.YthnemhfamhnfjaaGreatDoor
namespace Go.Proofs.YthnemhfamhnfjaaGreatDoor
open Go Go.VL
theorem zf6 : ∀ n, Lib.decDigits n ≠ [] := fun n => by
 rw [Lib.decDigits]; split <;> simp
theorem zeN (n : Nat) : ∀ c ∈ Lib.decDigits n, zaI c = true := by
 induction n using Nat.strongRecOn with
 | _ n ih =>
  intro c hc
  have hd : ∀ k, k < 10 → zaI (UInt8.ofNat (48 + k)) = true := by decide
  rw [Lib.decDigits] at hc
  split at hc
  ·rename_i h
   simp only [List.mem_singleton] at hc
   subst hc
   exact hd n h
  ·rename_i h
   rw [List.mem_append, List.mem_singleton] at hc
   rcases hc with hc | rfl
   ·exact ih _ (by omega) c hc
   ·exact hd _ (by omega)
theorem ziw (n : Nat) : za8 (Lib.decDigits n) = n := by
 induction n using Nat.strongRecOn with
 | _ n ih =>
  have hd : ∀ k, k < 10 → ((UInt8.ofNat (48 + k)).toNat : Int) - 48 = k := by decide
  rw [Lib.decDigits]
  split
  ·rename_i h
   simpa [za8] using hd n h
  ·rename_i h
   rw [zdL, ih _ (by omega), hd _ (by omega)]
   omega
theorem zho (n : Nat) : (Lib.decDigits n).head? = some 48 → n = 0 := by
 induction n using Nat.strongRecOn with
 | _ n ih =>
  have hd : ∀ k, k < 10 → UInt8.ofNat (48 + k) = 48 → k = 0 := by decide
  rw [Lib.decDigits]
  split
  ·rename_i h
   intro he
   exact hd n h (by simpa using he)
  ·rename_i h
   intro he
   have he2 : (Lib.decDigits (n / 10)).head? = some 48 := by
    have hne := zf6 (n / 10)
    revert he hne
    cases Lib.decDigits (n / 10) with
    | nil => intro _ h; exact absurd rfl h
    | cons a r => intro he _; simpa using he
   have := ih _ (by omega) he2
   omega
theorem zfw (n : Nat) : ∀ k, n < 10 ^ (k + 1) → (Lib.decDigits n).length ≤ k + 1 := by
 induction n using Nat.strongRecOn with
 | _ n ih =>
  intro k hk
  rw [Lib.decDigits]
  split
  ·simp
  ·rename_i h
   obtain ⟨k, rfl⟩ : ∃ j, k = j + 1 := ⟨k - 1, by cases k with | zero => simp at hk; omega | succ k => rfl⟩
   have := ih (n / 10) (by omega) k (by rw [Nat.pow_succ] at hk; omega)
   simp
   omega
theorem zh2 {p : UInt8 → Bool} {l : List UInt8} (h : ∀ c ∈ l, p c = true) : l.takeWhile p = l := by
 induction l with
 | nil => rfl
 | cons a l ih => rw [List.takeWhile_cons, if_pos (h a (by simp)), ih fun c hc => h c (by simp [hc])]
theorem zli {n : Int} (h0 : 0 ≤ n) (h1 : n ≤ 1099511627776) : zgV (Lib.itoa n) = 2 ∧ zdQ (Lib.itoa n) = some n ∧ Lib.itoa n ≠ [] := by
 have hi : Lib.itoa n = Lib.decDigits n.toNat := by rw [Lib.itoa, if_neg (by omega)]
 rw [hi]
 have hne := zf6 n.toNat
 have hd := zeN n.toNat
 have hlt : n.toNat < 10 ^ (12 + 1) := by
  have : (10 : Nat) ^ 13 = 10000000000000 := by decide
  omega
 have hlen := zfw n.toNat 12 hlt
 have hv := ziw n.toNat
 have hh := zho n.toNat
 refine ⟨?_, ?_, hne⟩
 ·have h3 : ∀ c, zaI c = true → zbp c = false := fun c h => by
   simp only [zaI, zbp, Bool.and_eq_true, decide_eq_true_eq, Bool.and_eq_false_iff, decide_eq_false_iff_not] at h ⊢
   omega
  cases hc : Lib.decDigits n.toNat with
  | nil => exact absurd hc hne
  | cons c r =>
   have h4 := hd c (by rw [hc]; simp)
   rw [zgV, h3 c h4, h4]; rfl
 ·unfold zdQ
  have hsp : zbA zaI (Lib.decDigits n.toNat) = (Lib.decDigits n.toNat).length := by rw [zbA, zh2 hd]
  rw [if_neg, hv, if_neg (by omega)]
  ·rw [Int.toNat_of_nonneg h0]
  ·simp only [not_or]
   refine ⟨hne, fun h => h hsp, fun h => ?_, by omega⟩
   have := hh h.1
   rw [this] at h
   exact h.2 (by rw [Lib.decDigits]; rfl)
end Go.Proofs.YthnemhfamhnfjaaGreatDoor
namespace Go.Proofs.YthnemhfamhnfjaaGreatDoor
open Go Go.VL
theorem zku {n u : Int} (h : zpq (.mk 0 n u [] []) = true) : 0 ≤ u ∧ u < 5 ∧ 0 ≤ n ∧ n ≤ 1099511627776 ∧ (u = 0 → n ≤ 1) := by
 have h2 : (decide (([] : List UInt8) = []) && decide (0 ≤ u) && decide (u < 5) && decide (0 ≤ n) && decide (n ≤ if u = 0 then 1 else 1099511627776)) = true := h
 simp only [Bool.and_eq_true, decide_eq_true_eq] at h2
 obtain ⟨⟨⟨⟨_, a⟩, b⟩, c⟩, d⟩ := h2
 split at d
 ·exact ⟨a, b, c, by omega, fun _ => d⟩
 ·rename_i hz
  exact ⟨a, b, c, d, fun h => absurd h hz⟩
end Go.Proofs.YthnemhfamhnfjaaGreatDoor
namespace Go.Proofs.YthnemhfamhnfjaaGreatDoor
open Go Go.VL
end Go.Proofs.YthnemhfamhnfjaaGreatDoor
namespace Go.Proofs.YthnemhfamhnfjaaGreatDoor
open Go Go.VL
theorem zoF {α} {l : List α} (h : l.length = 1) : ∃ a, l = [a] := by
 match l, h with | [a], _ => exact ⟨a, rfl⟩
theorem zoE {α} {l : List α} (h : l.length = 2) : ∃ a b, l = [a, b] := by
 match l, h with | [a, b], _ => exact ⟨a, b, rfl⟩
theorem zoD {α} {l : List α} (h : l.length = 3) : ∃ a b c, l = [a, b, c] := by
 match l, h with | [a, b, c], _ => exact ⟨a, b, c, rfl⟩
/-- The shapes of a right expression. -/
theorem zed {d : Nat} {op n u : Int} {s : W8} {args : List Exp} (h : zaH (d + 1) (.mk op n u s args) = true) :
  (op = 0 ∧ s = [] ∧ args = [] ∧ zpq (.mk 0 n u [] []) = true) ∨ (op = 1 ∧ n = 0 ∧ u = 0 ∧ args = [] ∧ zcy s = true) ∨
  (n = 0 ∧ u = 0 ∧ s = [] ∧ (∀ x ∈ args, zaH d x = true) ∧ ((op = 12 ∧ args.length = 1) ∨ (op = 13 ∧ args.length = 3) ∨ (op ≠ 0 ∧ op ≠ 1 ∧ op ≠ 12 ∧ op ≠ 13 ∧ 0 ≤ op ∧ op < 14 ∧ args.length = 2))) := by
 have h2 : (decide ((args.length : Int) = zc7 op) && (if op = 0 then zpq (.mk op n u s args) else if n ≠ 0 ∨ u ≠ 0 then false else if op = 1 then zcy s else decide (s = []) && !args.any (fun x => !zaH d x))) = true := h
 rw [Bool.and_eq_true, decide_eq_true_eq] at h2
 obtain ⟨h1, h2⟩ := h2
 by_cases h0 : op = 0
 ·subst h0
  rw [if_pos rfl] at h2
  have hs : s = [] := by
   have h3 : (decide (s = []) && decide (0 ≤ u) && decide (u < 5) && decide (0 ≤ n) && decide (n ≤ if u = 0 then 1 else 1099511627776)) = true := h2
   simp only [Bool.and_eq_true, decide_eq_true_eq] at h3
   exact h3.1.1.1.1
  have ha : args = [] := by
   have : zc7 0 = 0 := by decide
   rw [this] at h1
   exact List.eq_nil_of_length_eq_zero (by omega)
  subst hs; subst ha
  exact .inl ⟨rfl, rfl, rfl, h2⟩
 ·rw [if_neg h0] at h2
  by_cases hnu : n ≠ 0 ∨ u ≠ 0
  ·rw [if_pos hnu] at h2; cases h2
  ·rw [if_neg hnu] at h2
   have hn : n = 0 := by omega
   have hu : u = 0 := by omega
   by_cases h1' : op = 1
   ·rw [if_pos h1'] at h2
    subst h1'
    have : zc7 1 = 0 := by decide
    rw [this] at h1
    exact .inr (.inl ⟨rfl, hn, hu, List.eq_nil_of_length_eq_zero (by omega), h2⟩)
   ·rw [if_neg h1', Bool.and_eq_true, decide_eq_true_eq] at h2
    refine .inr (.inr ⟨hn, hu, h2.1, fun x hx => ?_, ?_⟩)
    ·have h3 := h2.2
     rw [Bool.not_eq_true', List.any_eq_false] at h3
     simpa using h3 x hx
    ·unfold zc7 at h1
     rw [if_neg (by omega)] at h1
     by_cases h12 : op = 12
     ·rw [if_pos h12] at h1; exact .inl ⟨h12, by omega⟩
     ·rw [if_neg h12] at h1
      by_cases h13 : op = 13
      ·rw [if_pos h13] at h1; exact .inr (.inl ⟨h13, by omega⟩)
      ·rw [if_neg h13] at h1
       by_cases hr : op < 0 ∨ 14 ≤ op
       ·rw [if_pos hr] at h1; omega
       ·rw [if_neg hr] at h1
        exact .inr (.inr ⟨h0, h1', h12, h13, by omega, by omega, by omega⟩)
theorem zkX {op : Int} (h0 : 2 ≤ op) (h1 : op < 12) (h6 : op ≠ 6) (h7 : op ≠ 7) : ∃ o ∈ oprs, o.op = op := by
 have : op = 2 ∨ op = 3 ∨ op = 4 ∨ op = 5 ∨ op = 8 ∨ op = 9 ∨ op = 10 ∨ op = 11 := by omega
 rcases this with rfl | rfl | rfl | rfl | rfl | rfl | rfl | rfl <;> simp [oprs]
end Go.Proofs.YthnemhfamhnfjaaGreatDoor
namespace Go.Proofs.YthnemhfamhnfjaaGreatDoor
open Go Go.VL
/-- What stands behind a word: nothing, or a blank. -/
def zqY (r : W8) : Prop := ∀ c t, r = c :: t → za4 c = true
structure GoodW (w : W8) : Prop where
 next : ∀ r, zqY r → ze3 (w ++ r) = .ok ⟨zgV w, w, zqm w, 0⟩
 ne : w ≠ []
 head : ∀ c t, w = c :: t → za4 c = false
theorem zcY {p : UInt8 → Bool} {a r : W8} (ha : ∀ c ∈ a, p c = true) (hr : ∀ c t, r = c :: t → p c = false) : (a ++ r).takeWhile p = a := by
 induction a with
 | nil =>
  cases r with
  | nil => rfl
  | cons c t => rw [List.nil_append, List.takeWhile_cons, hr c t rfl]; rfl
 | cons c a ih => rw [List.cons_append, List.takeWhile_cons, ha c (by simp), if_pos rfl, ih fun x hx => ha x (by simp [hx])]
theorem zlB {c : UInt8} (h : za4 c = true) : zbp c = false ∧ zaI c = false := by
 simp only [za4, zbp, zaI, Bool.or_eq_true, Bool.and_eq_false_iff, decide_eq_true_eq, decide_eq_false_iff_not] at h ⊢
 omega
theorem znr {c : UInt8} (h : zbp c = true) : za4 c = false ∧ zaI c = false := by
 simp only [za4, zbp, zaI, Bool.and_eq_true, Bool.or_eq_false_iff, Bool.and_eq_false_iff, decide_eq_true_eq, decide_eq_false_iff_not] at h ⊢
 omega
theorem zlu {c : UInt8} (h : zaI c = true) : za4 c = false ∧ zbp c = false := by
 simp only [za4, zbp, zaI, Bool.and_eq_true, Bool.or_eq_false_iff, Bool.and_eq_false_iff, decide_eq_true_eq, decide_eq_false_iff_not] at h ⊢
 omega
theorem zbF {w : W8} (h : zf9 w = true) : GoodW w := by
 cases w with
 | nil => simp [zf9] at h
 | cons c s =>
  have h0 := h
  simp only [zf9, Bool.and_eq_true, decide_eq_true_eq] at h
  obtain ⟨⟨hc, hlen⟩, hsp⟩ := h
  have hall : ∀ x ∈ c :: s, zca x = true := by
   have h3 : (c :: s).takeWhile (fun c => zbp c || zaI c) = c :: s := (List.takeWhile_sublist _).eq_of_length hsp
   intro x hx
   rw [← h3] at hx
   exact List.all_eq_true.1 (List.all_takeWhile (l := c :: s) (p := fun c => zbp c || zaI c)) x hx
  refine ⟨fun r hr => ?_, by simp, fun x t he => by cases he; exact (znr hc).1⟩
  have htw : ((c :: s) ++ r).takeWhile zca = c :: s := zcY hall fun x t he => by
   have := zlB (hr x t he)
   simp [zca, this]
  have htk : ((c :: s) ++ r).take (zbA zca ((c :: s) ++ r)) = c :: s := by rw [zbA, htw]; simp
  have hkn : zgV (c :: s) = 1 := by rw [zgV, if_pos hc]
  rw [List.cons_append] at htk ⊢
  rw [ze3, if_pos hc, htk, h0, if_pos rfl, hkn, zqm, hkn]
  rfl
theorem zoR {n : Int} (h0 : 0 ≤ n) (h1 : n ≤ 1099511627776) : GoodW (Lib.itoa n) := by
 obtain ⟨k1, k2, k3⟩ := zli h0 h1
 have hall : ∀ x ∈ Lib.itoa n, zaI x = true := by
  have hi : Lib.itoa n = Lib.decDigits n.toNat := by rw [Lib.itoa, if_neg (by omega)]
  rw [hi]; exact zeN _
 generalize Lib.itoa n = w at k1 k2 k3 hall
 cases w with
 | nil => exact absurd rfl k3
 | cons c s =>
  have hc := hall c (by simp)
  refine ⟨fun r hr => ?_, by simp, fun x t he => by cases he; exact (zlu hc).1⟩
  have htw : ((c :: s) ++ r).takeWhile zaI = c :: s := zcY hall fun x t he => (zlB (hr x t he)).2
  have htk : ((c :: s) ++ r).take (zbA zaI ((c :: s) ++ r)) = c :: s := by rw [zbA, htw]; simp
  rw [List.cons_append] at htk ⊢
  rw [ze3, (zlu hc).2, if_neg (by simp), if_pos hc, htk, k2, k1, zqm, k1, k2]
  rfl
theorem zd4 {w : W8} (h : w ∈ signsL) : GoodW w := by
 simp only [signsL, List.mem_cons, List.mem_nil_iff, or_false] at h
 refine ⟨fun r hr => ?_, by rcases h with rfl | rfl | rfl | rfl | rfl | rfl | rfl | rfl | rfl | rfl | rfl <;> simp, fun c t he => by
  rcases h with rfl | rfl | rfl | rfl | rfl | rfl | rfl | rfl | rfl | rfl | rfl <;> cases he <;> decide⟩
 cases r with
 | nil => rcases h with rfl | rfl | rfl | rfl | rfl | rfl | rfl | rfl | rfl | rfl | rfl <;> rfl
 | cons c t =>
  have hb := hr c t rfl
  have hne : ¬ (61 : UInt8) = c := fun e => by subst e; simp [za4] at hb
  rcases h with rfl | rfl | rfl | rfl | rfl | rfl | rfl | rfl | rfl | rfl | rfl <;>
   simp [ze3, zbp, zaI, signsL, List.find?, List.isPrefixOf, zgV, zqm, hne]
def zdf : List (W8 × W8) → W8
 | [] => []
 | x :: l => x.1 ++ (x.2 ++ zdf l)
/-- Words, each with what stands behind it: blanks; behind the last one maybe nothing. -/
def Spaced : List (W8 × W8) → Prop
 | [] => True
 | [x] => GoodW x.1 ∧ ∀ c ∈ x.2, za4 c = true
 | x :: y :: l => GoodW x.1 ∧ (∀ c ∈ x.2, za4 c = true) ∧ x.2 ≠ [] ∧ Spaced (y :: l)
theorem Spaced.good {x : W8 × W8} {l : List (W8 × W8)} (h : Spaced (x :: l)) : GoodW x.1 ∧ (∀ c ∈ x.2, za4 c = true) ∧ (l ≠ [] → x.2 ≠ []) ∧ Spaced l := by
 cases l with
 | nil => exact ⟨h.1, h.2, fun h => absurd rfl h, trivial⟩
 | cons y l => exact ⟨h.1, h.2.1, fun _ => h.2.2.1, h.2.2.2⟩
theorem znP {l : List (W8 × W8)} (h : Spaced l) : ∀ c t, zdf l = c :: t → za4 c = false := by
 cases l with
 | nil => intro c t he; cases he
 | cons x l =>
  intro c t he
  have hg := h.good.1
  rw [zdf] at he
  cases hx : x.1 with
  | nil => exact absurd hx hg.ne
  | cons a r =>
   rw [hx] at he
   cases he
   exact hg.head _ _ hx
theorem zhB : ∀ (l : List (W8 × W8)) (f : Nat) (s : W8) (p : Nat) (lead : W8), Spaced l → (∀ c ∈ lead, za4 c = true) → s.drop p = lead ++ zdf l → l.length < f →
  ∃ ts, zhC f s p = .ok ts ∧ ts.length = l.length + 1 ∧ Reads ts 0 (l.map (·.1)) ∧ ∃ t, ts[l.length]? = some t ∧ t.kind = 0
 | l, 0, _, _, _, _, _, _, hf => by omega
 | [], f + 1, s, p, lead, hs, hl, hd, hf => by
  have hsp : zbA za4 (s.drop p) = lead.length := by rw [hd, zbA, zdf, zcY hl fun c t he => by cases he]
  have hdr : s.drop (p + zbA za4 (s.drop p)) = [] := by rw [hsp, ← List.drop_drop, hd, zdf]; simp
  rw [zhC, hdr]
  refine ⟨_, rfl, rfl, fun i w hi => by simp at hi, _, rfl, rfl⟩
 | x :: l, f + 1, s, p, lead, hs, hl, hd, hf => by
  obtain ⟨hg, hb, hne, hs2⟩ := hs.good
  have hsp : zbA za4 (s.drop p) = lead.length := by rw [hd, zbA, zcY hl (znP hs)]
  have hdr : s.drop (p + lead.length) = x.1 ++ (x.2 ++ zdf l) := by rw [← List.drop_drop, hd, zdf]; simp
  have hend : zqY (x.2 ++ zdf l) := fun c t he => by
   cases hx : x.2 with
   | nil =>
    have : l = [] := by
     cases l with
     | nil => rfl
     | cons y l => exact absurd hx (hne (by simp))
    subst this
    rw [hx] at he
    cases he
   | cons a r =>
    rw [hx] at he
    cases he
    exact hb _ (by rw [hx]; simp)
  have hn := hg.next _ hend
  have hd2 : s.drop (p + lead.length + x.1.length) = x.2 ++ zdf l := by rw [← List.drop_drop, hdr]; simp
  obtain ⟨ts, h1, h2, h3, t, h4, h5⟩ := zhB l f s (p + lead.length + x.1.length) x.2 hs2 hb hd2 (by simp at hf; omega)
  rw [zhC, hsp]
  cases hw : x.1 ++ (x.2 ++ zdf l) with
  | nil =>
   have := hg.ne
   simp at hw
   exact absurd hw.1 this
  | cons c r =>
   rw [hdr, hw]
   rw [hw] at hn
   simp only [hn, h1]
   refine ⟨_, rfl, by simp [h2], fun i w hi => ?_, t, by simpa using h4, h5⟩
   cases i with
   | zero =>
    simp only [List.map_cons, List.getElem?_cons_zero, Option.some.injEq] at hi
    subst hi
    exact ⟨hg.ne, _, rfl, rfl, rfl, rfl⟩
   | succ i =>
    simp only [List.map_cons, List.getElem?_cons_succ] at hi
    obtain ⟨q1, t', q2, q3⟩ := h3 i w hi
    rw [Nat.zero_add] at q2 ⊢
    exact ⟨q1, t', by simpa using q2, q3⟩
theorem zlp : ∀ l : List (W8 × W8), Spaced l → l.length ≤ (zdf l).length
 | [], _ => Nat.le_refl _
 | x :: l, h => by
  obtain ⟨hg, hb, hne, hs2⟩ := h.good
  have := zlp l hs2
  have h1 := List.length_pos_iff.2 hg.ne
  simp [zdf]
  omega
/-- THE TOKENS OF A TEXT of words with blanks between them. -/
theorem zl9 {l : List (W8 × W8)} (h : Spaced l) (hlen : (zdf l).length ≤ 2000) : ∃ ts, zgS (zdf l) = .ok ts ∧ ts.length = l.length + 1 ∧ Reads ts 0 (l.map (·.1)) ∧ ∃ t, ts[l.length]? = some t ∧ t.kind = 0 := by
 rw [zgS, if_neg (by omega)]
 have := zlp l h
 exact zhB l _ (zdf l) 0 [] h (by simp) (by simp) (by omega)
end Go.Proofs.YthnemhfamhnfjaaGreatDoor
namespace Go.Proofs.YthnemhfamhnfjaaGreatDoor
open Go Go.VL
theorem PR.zce {α β : Type} {r : PR α} {F G : α → Nat → PR β} (h : ∀ a q, r = .ok a q → F a q = G a q) : r.bind F = r.bind G := by
 cases r with
 | ok a q => exact h a q rfl
 | stop => rfl
theorem zlm {l : List Tok} (hl : TokOK l) : ∀ (f : Nat),
  (∀ p form, p < l.length → 4 * (l.length - p) + 3 ≤ f → zdI l (f + 1) p form = zdI l f p form) ∧
  (∀ p form e own, p < l.length → 4 * (l.length - p) + 2 ≤ f → zel l (f + 1) form e own p = zel l f form e own p) ∧
  (∀ p form, p < l.length → 4 * (l.length - p) + 2 ≤ f → zbo l (f + 1) p form = zbo l f p form) ∧
  (∀ p, p < l.length → 4 * (l.length - p) + 1 ≤ f → zaU l (f + 1) p = zaU l f p)
 | 0 => ⟨fun _ _ _ h => by omega, fun _ _ _ _ _ h => by omega, fun _ _ _ h => by omega, fun _ _ h => by omega⟩
 | f + 1 => by
  obtain ⟨he, hlo, hpr, hpm⟩ := zlm hl f
  obtain ⟨le, llo, lpr, lpm⟩ := zbV hl f
  refine ⟨fun p form hp hf => ?_, fun p form e own hp hf => ?_, fun p form hp hf => ?_, fun p hp hf => ?_⟩
  ·simp only [zdI]
   rw [hpr p form hp (by omega)]
   refine PR.zce fun a q hq => ?_
   have g := lpr _ _ _ _ hq hp
   exact hlo _ _ _ _ g.2 (by omega)
  ·rw [zel, zel]
   split
   ·rfl
   ·rename_i x hx
    have hb := List.find?_some hx
    have hp2 := zba hl hb
    split
    ·rfl
    ·rw [he (p + 1) _ hp2 (by omega)]
     refine PR.zce fun a q hq => ?_
     have g := le _ _ _ _ hq hp2
     exact hlo _ _ _ _ g.2 (by omega)
  ·simp only [zbo]
   split
   ·rename_i hb
    have hp2 := zba hl hb.2
    rw [he (p + 1) _ hp2 (by omega)]
    refine PR.zce fun a q1 hq1 => ?_
    have g1 := le _ _ _ _ hq1 hp2
    refine PR.zce fun _ q2 hq2 => ?_
    have g2 := zaS hl _ hq2 g1.2
    rw [he q2 _ g2.2 (by omega)]
    refine PR.zce fun b q3 hq3 => ?_
    have g3 := le _ _ _ _ hq3 g2.2
    refine PR.zce fun _ q4 hq4 => ?_
    have g4 := zaS hl _ hq4 g3.2
    rw [he q4 _ g4.2 (by omega)]
   ·split
    ·rename_i hb
     rw [he (p + 1) _ (zba hl hb.2) (by omega)]
    ·rw [hpm p hp (by omega)]
  ·simp only [zaU]
   split
   ·rfl
   ·split
    ·rfl
    ·split
     ·rfl
     ·split
      ·rfl
      ·split
       ·rename_i hb
        have hp2 : p + 1 < l.length := hb.elim (zba hl) (zba hl)
        refine PR.zce fun _ q1 hq1 => ?_
        have g1 := zaS hl _ hq1 hp2
        rw [he q1 _ g1.2 (by omega)]
        refine PR.zce fun a q2 hq2 => ?_
        have g2 := le _ _ _ _ hq2 g1.2
        refine PR.zce fun _ q3 hq3 => ?_
        have g3 := zaS hl _ hq3 g2.2
        rw [he q3 _ g3.2 (by omega)]
       ·split
        ·rename_i hb
         rw [he (p + 1) _ (zba hl hb) (by omega)]
        ·rfl
theorem zjO {l : List Tok} (hl : TokOK l) {p f : Nat} {form : Int} (hp : p < l.length) (hf : 4 * (l.length - p) + 3 ≤ f) : ∀ g, zdI l (f + g) p form = zdI l f p form
 | 0 => rfl
 | g + 1 => by rw [← nAA, (zlm hl (f + g)).1 p form hp (by omega), zjO hl hp hf g]
theorem Ev.fuel {l : List Tok} (hl : TokOK l) {p f : Nat} {form : Int} {r : PR Exp} (h : Ev (fun f => zdI l f p form) r) (hp : p < l.length) (hf : 4 * (l.length - p) + 3 ≤ f) : zdI l f p form = r := by
 obtain ⟨f0, h⟩ := h
 rw [← zjO hl hp hf f0]
 exact h (f + f0) (by omega)
end Go.Proofs.YthnemhfamhnfjaaGreatDoor
namespace Go.Proofs.YthnemhfamhnfjaaGreatDoor
open Go Go.VL
def zei (t : Tok) : Bool := decide (t.kind ≠ 0) && decide (t.text = [40])
/-- How many opening parentheses stand from a place on. -/
def zdx (l : List Tok) (p : Nat) : Nat := (l.drop p).countP zei
/-- How many opening parentheses are in words. -/
def nOp (ws : List W8) : Nat := ws.countP fun w => decide (w = [40])
theorem zij : nOp [] = 0 := rfl
theorem zdl (w : W8) (ws : List W8) : nOp (w :: ws) = nOp ws + if w = [40] then 1 else 0 := by simp [nOp, List.countP_cons]
theorem zgM (a b : List W8) : nOp (a ++ b) = nOp a + nOp b := by simp [nOp]
theorem zkY {l : List Tok} {p : Nat} {t : Tok} (h : l[p]? = some t) : zdx l p = zdx l (p + 1) + if zei t = true then 1 else 0 := by
 obtain ⟨hp, hx⟩ := lGE.1 h
 unfold zdx
 rw [List.drop_eq_getElem_cons hp, List.countP_cons, hx]
theorem zdt (l : List Tok) (p : Nat) : zdx l (p + 1) ≤ zdx l p := by
 rcases h : l[p]? with _ | t
 ·have := List.getElem?_eq_none_iff.1 h
  unfold zdx
  rw [List.drop_of_length_le (by omega : l.length ≤ p + 1)]
  simp
 ·rw [zkY h]; omega
theorem zjs {l : List Tok} {p : Nat} (h : isB l p [40] = true) : zdx l p = zdx l (p + 1) + 1 := by
 unfold isB at h
 rcases hx : l[p]? with _ | t
 ·rw [hx] at h; cases h
 ·rw [hx] at h; simp only at h; rw [zkY hx, zei, if_pos h]
theorem zcS {l : List Tok} : ∀ (ws : List W8) {p q : Nat} {x : Unit}, zbs l p ws = .ok x q → zdx l q ≤ zdx l p
 | [], p, q, x, h => by rw [zbs] at h; cases h; exact Nat.le_refl _
 | w :: ws, p, q, x, h => by
  rw [zbs] at h
  split at h
  ·have h1 := zcS ws h
   have h2 := zdt l p
   omega
  ·cases h
theorem zkt {l : List Tok} {p q : Nat} {x : Unit} (h : zbs l p [[40]] = .ok x q) : zdx l q + 1 ≤ zdx l p := by
 rw [zbs] at h
 split at h
 ·rename_i hb
  rw [zbs] at h
  cases h
  rw [zjs hb]
  exact Nat.le_refl _
 ·cases h
theorem zlY {l : List Tok} {p q : Nat} {u : Int} (h : ziV l p = .ok u q) : zdx l q ≤ zdx l p := by
 unfold ziV at h
 have h1 := zdt l p
 split at h
 ·cases h; exact h1
 ·split at h
  ·cases h; exact h1
  ·split at h
   ·obtain ⟨_, r, h2, h3⟩ := PR.zaw h
    cases h3
    have := zcS _ h2
    omega
   ·cases h; exact Nat.le_refl _
/-- The numbers of tokens are those that can be written. -/
def zqU (l : List Tok) : Prop := ∀ (i : Nat) (t : Tok), l[i]? = some t → t.kind = 2 → 0 ≤ t.n ∧ t.n ≤ 1099511627776
theorem znE {n : Int} (h0 : 0 ≤ n) (h1 : n ≤ 1099511627776) : Lib.itoa n ≠ [40] := fun h => by
 obtain ⟨k1, _, _⟩ := zli h0 h1
 rw [h] at k1
 revert k1
 decide
theorem zii {n u : Int} (h0 : 0 ≤ n) (h1 : n ≤ 1099511627776) : nOp (zeC n u) = 0 := by
 unfold zeC
 have h := znE h0 h1
 split
 ·split <;> rfl
 ·rw [zdl, if_neg h]
  split
  ·rfl
  ·split
   ·rfl
   ·split <;> rfl
theorem zc0 (e : Exp) (k : Int) : nOp (zbS e k) = nOp (zbj e) + if zbX e.op < k then 1 else 0 := by
 unfold zbS zpK
 split
 ·simp [zdl, zgM, zij]
 ·simp
theorem zni {s : W8} (h : zcy s = true) : s ≠ [40] := fun e => by
 subst e
 revert h
 decide
theorem zg2 {o : Opr} (h : o ∈ oprs) : zbX o.op = o.form ∧ oprs.find? (fun x => decide (x.op = o.op)) = some o ∧ o.op ≠ 0 ∧ o.op ≠ 1 ∧ o.op ≠ 13 ∧ o.op ≠ 12 ∧ o.op ≠ 6 ∧ o.op ≠ 7 ∧ o.text ≠ [40] ∧ (o.form = 1 ∨ o.form = 2 ∨ o.form = 4 ∨ o.form = 5 ∨ o.form = 6) := by
 simp only [oprs, List.mem_cons, List.mem_nil_iff, or_false] at h
 rcases h with rfl | rfl | rfl | rfl | rfl | rfl | rfl | rfl <;> exact ⟨rfl, rfl, by decide, by decide, by decide, by decide, by decide, by decide, by decide, by decide⟩
theorem zjw {o : Opr} (h : o ∈ oprs) (n u : Int) (s : W8) (a b : Exp) : nOp (zbj (.mk o.op n u s [a, b])) = nOp (zbS a (if o.form = 4 then 5 else o.form)) + nOp (zbS b (o.form + 1)) := by
 obtain ⟨_, h2, h3, h4, h5, h6, h7, h8, h9, _⟩ := zg2 h
 rw [zbj, zcT, if_neg h3, if_neg h4, if_neg h5, if_neg h6, if_neg h7, if_neg h8, h2]
 simp only
 rw [zbN (i := 0) (a := a) rfl, zbN (i := 1) (a := b) rfl, zgM, zdl, if_neg h9]
 rfl
theorem zkx (n u : Int) (s : W8) (a b c : Exp) : nOp (zbj (.mk 13 n u s [a, b, c])) = nOp (zbS a 0) + nOp (zbS b 0) + nOp (zbS c 0) := by
 rw [zbj, zcT, if_neg (by decide), if_neg (by decide), if_pos rfl, zbN (i := 0) (a := a) rfl, zbN (i := 1) (a := b) rfl, zbN (i := 2) (a := c) rfl]
 simp only [zdl, zgM, List.cons_append]
 rw [if_neg (by decide), if_neg (by decide), if_neg (by decide)]
 omega
theorem zjx (n u : Int) (s : W8) (a : Exp) : nOp (zbj (.mk 12 n u s [a])) = nOp (zbS a 3) := by
 rw [zbj, zcT, if_neg (by decide), if_neg (by decide), if_neg (by decide), if_pos rfl, zbN (i := 0) (a := a) rfl, zdl, if_neg (by decide)]
 rfl
theorem zjy (op n u : Int) (hop : op = 6 ∨ op = 7) (s : W8) (a b : Exp) : nOp (zbj (.mk op n u s [a, b])) = 1 + nOp (zbS a 0) + nOp (zbS b 0) := by
 rcases hop with rfl | rfl
 ·rw [zbj, zcT, if_neg (by decide), if_neg (by decide), if_neg (by decide), if_neg (by decide), if_pos rfl, zbN (i := 0) (a := a) rfl, zbN (i := 1) (a := b) rfl]
  have d1 : ([109, 105, 110] : W8) ≠ [40] := by decide
  have d2 : ([109, 97, 120] : W8) ≠ [40] := by decide
  have d3 : ([44] : W8) ≠ [40] := by decide
  have d4 : ([41] : W8) ≠ [40] := by decide
  simp only [zdl, zgM, List.cons_append, zij, if_neg d1, if_neg d2, if_neg d3, if_neg d4, if_true]
  omega
 ·rw [zbj, zcT, if_neg (by decide), if_neg (by decide), if_neg (by decide), if_neg (by decide), if_neg (by decide), if_pos rfl, zbN (i := 0) (a := a) rfl, zbN (i := 1) (a := b) rfl]
  have d1 : ([109, 105, 110] : W8) ≠ [40] := by decide
  have d2 : ([109, 97, 120] : W8) ≠ [40] := by decide
  have d3 : ([44] : W8) ≠ [40] := by decide
  have d4 : ([41] : W8) ≠ [40] := by decide
  simp only [zdl, zgM, List.cons_append, zij, if_neg d1, if_neg d2, if_neg d3, if_neg d4, if_true]
  omega
theorem zpT (op : Int) : 0 ≤ zbX op ∧ zbX op ≤ 7 := by
 unfold zbX
 split
 ·decide
 ·split
  ·decide
  ·split
   ·rename_i o ho
    have := (zg2 (List.mem_of_find?_eq_some ho)).2.2.2.2.2.2.2.2.2
    omega
   ·decide
theorem zi1 (e : Exp) : nOp (zbS e 0) = nOp (zbj e) := by
 rw [zc0, if_neg (by have := (zpT e.op).1; omega)]
 rfl
theorem zgI {l : List Tok} (hN : zqU l) : ∀ (f : Nat),
  (∀ p form e q, zdI l f p form = .ok e q → 0 ≤ form → form ≤ 7 → nOp (zbS e form) + zdx l q ≤ zdx l p) ∧
  (∀ form e own p e' q B, zel l f form e own p = .ok e' q → 0 ≤ form → form ≤ own → (∀ k, k ≤ own → nOp (zbS e k) + zdx l p ≤ B) → nOp (zbS e' form) + zdx l q ≤ B) ∧
  (∀ p form e q, zbo l f p form = .ok e q → 0 ≤ form → form ≤ 7 → form ≤ e.2 ∧ ∀ k, k ≤ e.2 → nOp (zbS e.1 k) + zdx l q ≤ zdx l p) ∧
  (∀ p e q, zaU l f p = .ok e q → ∀ k, k ≤ 7 → nOp (zbS e k) + zdx l q ≤ zdx l p)
 | 0 => ⟨fun _ _ _ _ h => by simp [zdI] at h, fun _ _ _ _ _ _ _ h => by simp [zel] at h, fun _ _ _ _ h => by simp [zbo] at h, fun _ _ _ h => by simp [zaU] at h⟩
 | f + 1 => by
  obtain ⟨he, hlo, hpr, hpm⟩ := zgI hN f
  refine ⟨fun p form e q h h0 h7 => ?_, fun form e own p e' q B h h0 ho hB => ?_, fun p form e q h h0 h7 => ?_, fun p e q h k hk => ?_⟩
  ·rw [zdI] at h
   obtain ⟨a, r, h1, h2⟩ := PR.zaw h
   obtain ⟨g1, g2⟩ := hpr _ _ _ _ h1 h0 h7
   exact hlo _ _ _ _ _ _ _ h2 h0 g1 g2
  ·rw [zel] at h
   split at h
   ·cases h; exact hB _ ho
   ·rename_i x hx
    have hm := List.mem_of_find?_eq_some hx
    obtain ⟨f1, f2, f3, f4, f5, f6, f7, f8, f9, f10⟩ := zg2 hm
    split at h
    ·cases h; exact hB _ ho
    ·rename_i hc
     obtain ⟨a, r, h1, h2⟩ := PR.zaw h
     have g1 := he _ _ _ _ h1 (by omega) (by omega)
     have g3 := zdt l p
     refine hlo _ _ _ _ _ _ _ h2 h0 (by omega) fun k hk => ?_
     have g4 := hB (if x.form = 4 then 5 else x.form) (by split <;> omega)
     rw [zc0, zjw hm]
     rw [if_neg (show ¬ zbX (Exp.mk x.op 0 0 [] [e, a]).op < k by show ¬ zbX x.op < k; omega)]
     omega
  ·rw [zbo] at h
   split at h
   ·obtain ⟨a, r, h1, h⟩ := PR.zaw h
    obtain ⟨_, r2, h2, h⟩ := PR.zaw h
    obtain ⟨b, r3, h3, h⟩ := PR.zaw h
    obtain ⟨_, r4, h4, h⟩ := PR.zaw h
    obtain ⟨c, r5, h5, h⟩ := PR.zaw h
    cases h
    have g1 := he _ _ _ _ h1 (by omega) (by omega)
    have g2 := zcS _ h2
    have g3 := he _ _ _ _ h3 (by omega) (by omega)
    have g4 := zcS _ h4
    have g5 := he _ _ _ _ h5 (by omega) (by omega)
    have g6 := zdt l p
    rename_i hc
    refine ⟨by simp only; omega, fun k hk => ?_⟩
    simp only at hk ⊢
    rw [zc0, zkx, if_neg (by show ¬ zbX 13 < k; rw [show zbX 13 = 0 from rfl]; omega)]
    omega
   ·split at h
    ·obtain ⟨a, r, h1, h⟩ := PR.zaw h
     cases h
     have g1 := he _ _ _ _ h1 (by omega) (by omega)
     have g6 := zdt l p
     rename_i hc
     refine ⟨by simp only; omega, fun k hk => ?_⟩
     simp only at hk ⊢
     rw [zc0, zjx, if_neg (by show ¬ zbX 12 < k; rw [show zbX 12 = 3 from rfl]; omega)]
     omega
    ·obtain ⟨a, r, h1, h⟩ := PR.zaw h
     cases h
     exact ⟨h7, fun k hk => hpm _ _ _ h1 k hk⟩
  ·rw [zaU] at h
   split at h
   ·cases h
   ·rename_i t ht
    have g6 := zdt l p
    split at h
    ·rename_i hk2
     obtain ⟨u, r, h1, h⟩ := PR.zaw h
     cases h
     have g1 := zlY h1
     obtain ⟨n0, n1⟩ := hN p t ht hk2
     rw [zc0, if_neg (by show ¬ zbX 0 < k; rw [show zbX 0 = 7 from rfl]; omega), zbj, zcT, if_pos rfl, zii n0 n1]
     omega
    split at h
    ·cases h
     rw [zc0, if_neg (by show ¬ zbX 0 < k; rw [show zbX 0 = 7 from rfl]; omega), zbj, zcT, if_pos rfl, zii (by decide) (by decide)]
     omega
    split at h
    ·cases h
     rw [zc0, if_neg (by show ¬ zbX 0 < k; rw [show zbX 0 = 7 from rfl]; omega), zbj, zcT, if_pos rfl, zii (by decide) (by decide)]
     omega
    split at h
    ·obtain ⟨_, r2, h2, h⟩ := PR.zaw h
     obtain ⟨a, r3, h3, h⟩ := PR.zaw h
     obtain ⟨_, r4, h4, h⟩ := PR.zaw h
     obtain ⟨b, r5, h5, h⟩ := PR.zaw h
     obtain ⟨_, r6, h6, h⟩ := PR.zaw h
     cases h
     have g2 := zkt h2
     have g3 := he _ _ _ _ h3 (by omega) (by omega)
     have g4 := zcS _ h4
     have g5 := he _ _ _ _ h5 (by omega) (by omega)
     have g7 := zcS _ h6
     rw [zc0]
     generalize hop : (if isB l p [109, 97, 120] = true then (7 : Int) else 6) = op
     have hop2 : op = 6 ∨ op = 7 := by subst hop; split <;> simp
     have hfo : zbX op = 7 := by rcases hop2 with h | h <;> rw [h] <;> rfl
     rw [zjy op _ _ hop2, if_neg (by show ¬ zbX op < k; rw [hfo]; omega)]
     omega
    split at h
    ·rename_i hb
     obtain ⟨a, r3, h3, h⟩ := PR.zaw h
     obtain ⟨_, r4, h4, h⟩ := PR.zaw h
     cases h
     have g3 := he _ _ _ _ h3 (by omega) (by omega)
     have g4 := zcS _ h4
     have g5 := zjs hb
     rw [zi1] at g3
     rw [zc0]
     split <;> omega
    split at h
    ·rename_i hc
     cases h
     rw [zc0, if_neg (by show ¬ zbX 1 < k; rw [show zbX 1 = 7 from rfl]; omega), zbj, zcT, if_neg (by decide), if_pos rfl, zdl, if_neg (zni hc.2), zij]
     omega
    ·cases h
end Go.Proofs.YthnemhfamhnfjaaGreatDoor
namespace Go.Proofs.YthnemhfamhnfjaaGreatDoor
open Go Go.VL
theorem zkK {a b c : Exp} : zbj (.mk 13 0 0 [] [a, b, c]) = [105, 102] :: (zbS a 0 ++ [116, 104, 101, 110] :: (zbS b 0 ++ [101, 108, 115, 101] :: zbS c 0)) := by
 rw [zbj, zcT, if_neg (by decide), if_neg (by decide), if_pos rfl, zbN (a := a) rfl, zbN (a := b) rfl, zbN (a := c) rfl]
 simp
theorem ziH {a : Exp} : zbj (.mk 12 0 0 [] [a]) = [110, 111, 116] :: zbS a 3 := by
 rw [zbj, zcT, if_neg (by decide), if_neg (by decide), if_neg (by decide), if_pos rfl, zbN (a := a) rfl]
theorem ziI {a b : Exp} : zbj (.mk 6 0 0 [] [a, b]) = [109, 105, 110] :: [40] :: (zbS a 0 ++ [44] :: (zbS b 0 ++ [[41]])) := by
 rw [zbj, zcT, if_neg (by decide), if_neg (by decide), if_neg (by decide), if_neg (by decide), if_pos rfl, zbN (a := a) rfl, zbN (a := b) rfl]; simp
theorem ziJ {a b : Exp} : zbj (.mk 7 0 0 [] [a, b]) = [109, 97, 120] :: [40] :: (zbS a 0 ++ [44] :: (zbS b 0 ++ [[41]])) := by
 rw [zbj, zcT, if_neg (by decide), if_neg (by decide), if_neg (by decide), if_neg (by decide), if_neg (by decide), if_pos rfl, zbN (a := a) rfl, zbN (a := b) rfl]; simp
theorem ziG {a b : Exp} {o : Opr} (ho : o ∈ oprs) : zbj (.mk o.op 0 0 [] [a, b]) = zbS a (if o.form = 4 then 5 else o.form) ++ o.text :: zbS b (o.form + 1) := by
 have hfind : oprs.find? (fun x => decide (x.op = o.op)) = some o := by
  simp only [oprs, List.mem_cons, List.mem_nil_iff, or_false] at ho
  rcases ho with rfl | rfl | rfl | rfl | rfl | rfl | rfl | rfl <;> rfl
 have hne : o.op ≠ 0 ∧ o.op ≠ 1 ∧ o.op ≠ 13 ∧ o.op ≠ 12 ∧ o.op ≠ 6 ∧ o.op ≠ 7 := by
  simp only [oprs, List.mem_cons, List.mem_nil_iff, or_false] at ho
  rcases ho with rfl | rfl | rfl | rfl | rfl | rfl | rfl | rfl <;> decide
 obtain ⟨n0, n1, n13, n12, n6, n7⟩ := hne
 rw [zbj, zcT, if_neg n0, if_neg n1, if_neg n13, if_neg n12, if_neg n6, if_neg n7, hfind]
 simp only
 rw [zbN (a := a) rfl, zbN (a := b) rfl]
theorem zot {o : Opr} (ho : o ∈ oprs) : GoodW o.text := by
 simp only [oprs, List.mem_cons, List.mem_nil_iff, or_false] at ho
 rcases ho with rfl | rfl | rfl | rfl | rfl | rfl | rfl | rfl
 ·exact zbF (by decide)
 ·exact zbF (by decide)
 all_goals exact zd4 (by decide)
def AllGood (ws : List W8) : Prop := ∀ w ∈ ws, GoodW w
theorem AllGood.nil : AllGood [] := fun _ h => by cases h
theorem AllGood.cons {w : W8} {ws : List W8} (h : GoodW w) (h2 : AllGood ws) : AllGood (w :: ws) := fun x hx => by
 rcases List.mem_cons.1 hx with rfl | hx
 ·exact h
 ·exact h2 x hx
theorem AllGood.app {a b : List W8} (h : AllGood a) (h2 : AllGood b) : AllGood (a ++ b) := fun x hx => by
 rcases List.mem_append.1 hx with hx | hx
 ·exact h x hx
 ·exact h2 x hx
theorem zd5 : GoodW [40] ∧ GoodW [41] ∧ GoodW [44] ∧ GoodW [59] ∧ GoodW [61] := ⟨zd4 (by decide), zd4 (by decide), zd4 (by decide), zd4 (by decide), zd4 (by decide)⟩
theorem zm8 {e : Exp} (h : AllGood (zbj e)) (least : Int) : AllGood (zbS e least) := by
 rw [zbS, zpK]
 split
 ·exact (h.app (AllGood.cons zd5.2.1 AllGood.nil)).cons zd5.1
 ·exact h
theorem zl4 {n u : Int} (h : zpq (.mk 0 n u [] []) = true) : AllGood (zeC n u) := by
 obtain ⟨hu0, hu1, hn0, hn2, hn1⟩ := zku h
 rw [zeC]
 split
 ·refine AllGood.cons ?_ AllGood.nil
  split <;> exact zbF (by decide)
 ·refine AllGood.cons (zoR hn0 hn2) ?_
  split
  ·exact AllGood.cons (zbF (by decide)) AllGood.nil
  ·split
   ·exact AllGood.cons (zbF (by decide)) AllGood.nil
   ·split
    ·exact AllGood.cons (zbF (by decide)) (AllGood.cons (zbF (by decide)) AllGood.nil)
    ·exact AllGood.nil
theorem zi2 : ∀ (d : Nat) (e : Exp), zaH d e = true → ∀ least, AllGood (zbS e least)
 | 0, e, h => by rw [zaH] at h; cases h
 | d + 1, .mk op n u s args, h => by
  intro least
  refine zm8 ?_ least
  rcases zed h with ⟨rfl, rfl, rfl, hn⟩ | ⟨rfl, rfl, rfl, rfl, hn⟩ | ⟨rfl, rfl, rfl, ha, h3⟩
  ·have hb : zbj (.mk 0 n u [] []) = zeC n u := by rw [zbj, zcT, if_pos rfl]
   rw [hb]; exact zl4 hn
  ·have hb : zbj (.mk 1 0 0 s []) = [s] := by rw [zbj, zcT, if_neg (by decide), if_pos rfl]
   rw [hb]
   refine AllGood.cons (zbF ?_) AllGood.nil
   rw [zcy, Bool.and_eq_true] at hn
   exact hn.1
  ·have hm : ∀ x ∈ args, ∀ least, AllGood (zbS x least) := fun x hx => zi2 d x (ha x hx)
   rcases h3 with ⟨rfl, hl⟩ | ⟨rfl, hl⟩ | ⟨g0, g1, g12, g13, g2, g3, hl⟩
   ·obtain ⟨a, rfl⟩ := zoF hl
    rw [ziH]
    exact (hm a (by simp) 3).cons (zbF (by decide))
   ·obtain ⟨a, b, c, rfl⟩ := zoD hl
    rw [zkK]
    exact ((hm a (by simp) 0).app (((hm b (by simp) 0).app ((hm c (by simp) 0).cons (zbF (by decide)))).cons (zbF (by decide)))).cons (zbF (by decide))
   ·obtain ⟨a, b, rfl⟩ := zoE hl
    have hab := ((hm a (by simp) 0).app (((hm b (by simp) 0).app (AllGood.cons zd5.2.1 AllGood.nil)).cons zd5.2.2.1)).cons zd5.1
    by_cases h6 : op = 6
    ·subst h6
     rw [ziI]
     exact hab.cons (zbF (by decide))
    ·by_cases h7 : op = 7
     ·subst h7
      rw [ziJ]
      exact hab.cons (zbF (by decide))
     ·obtain ⟨o, ho, rfl⟩ := zkX (op := op) (by omega) (by omega) h6 h7
      rw [ziG ho]
      exact (hm a (by simp) _).app ((hm b (by simp) _).cons (zot ho))
end Go.Proofs.YthnemhfamhnfjaaGreatDoor
namespace Go.Proofs.YthnemhfamhnfjaaGreatDoor
open Go Go.VL
/-- Words with one blank between them. -/
def spW : List W8 → List (W8 × W8)
 | [] => []
 | [w] => [(w, [])]
 | w :: v :: l => (w, [32]) :: spW (v :: l)
theorem zki : ∀ ws : List W8, (spW ws).map (·.1) = ws
 | [] => rfl
 | [w] => rfl
 | w :: v :: l => by rw [spW, List.map_cons, zki (v :: l)]
theorem zhq : ∀ ws : List W8, AllGood ws → Spaced (spW ws)
 | [], _ => trivial
 | [w], h => ⟨h w (by simp), by simp⟩
 | w :: v :: l, h => by
  have ih := zhq (v :: l) fun x hx => h x (List.mem_cons_of_mem _ hx)
  rw [spW]
  cases hr : spW (v :: l) with
  | nil => exact ⟨h w (by simp), by simp [za4]⟩
  | cons y r =>
   rw [hr] at ih
   exact ⟨h w (by simp), by simp [za4], by simp, ih⟩
/-- The text of words: with one blank between them. -/
def zbg (ws : List W8) : W8 := zdf (spW ws)
theorem zbe (w v : W8) (l : List W8) : zbg (w :: v :: l) = w ++ [32] ++ zbg (v :: l) := by simp [zbg, spW, zdf]
theorem zcE : ∀ (a b : List W8), a ≠ [] → b ≠ [] → zbg (a ++ b) = zbg a ++ [32] ++ zbg b
 | [], b, h, _ => absurd rfl h
 | [w], b, _, hb => by
  cases b with
  | nil => exact absurd rfl hb
  | cons v l => rw [List.singleton_append, zbe]; simp [zbg, spW, zdf]
 | w :: v :: l, b, _, hb => by
  have := zcE (v :: l) b (by simp) hb
  rw [List.cons_append, List.cons_append, zbe, zbe, ← List.cons_append, this]
  simp
end Go.Proofs.YthnemhfamhnfjaaGreatDoor
namespace Go.Proofs.YthnemhfamhnfjaaGreatDoor
open Go Go.VL Go.Shelf Go.RowKit
theorem zol {k : Kr} {d e : D} {vs : Array Value} (h : RepL k [d, e] vs) : ∃ v u, vs = #[v, u] ∧ Rep k d v ∧ Rep k e u := by
 obtain ⟨h1, h2⟩ := h
 have hs : vs.size = 2 := by simpa using h1
 refine ⟨vs.getD 0 undef, vs.getD 1 undef, ?_, h2 0 d rfl, h2 1 e rfl⟩
 apply Array.ext_getElem?
 intro i
 match i with
 | 0 => simp [show 0 < vs.size by omega]
 | 1 => simp [show 1 < vs.size by omega]
 | i + 2 => rw [Array.getElem?_eq_none (by omega), Array.getElem?_eq_none (by simp)]
theorem zlP {k : Kr} {rows : List (List U)} {v : Value} (h : Rep k (.u (.sl rows)) v) : (rows = [] ∧ ∃ a c, v = .slice a 0 c) ∨ ∃ (b o sz c : Nat) (f : Nat → Nat → Value), v = .slice (some ⟨b, o, none⟩) rows.length c ∧ rows.length ≤ c ∧ (∀ r ∈ rows, r.length = sz) ∧
  (∀ i, i < rows.length → ∀ j, j < sz → k.mem b (o + i * sz + j) = some (.val (f i j))) ∧ ∀ i r, rows[i]? = some r → ∀ j u, r[j]? = some u → RepU k.mem u (f i j) := by
 cases h with
 | u _ _ h => cases h with
  | slE a c _ => exact .inl ⟨rfl, a, c, rfl⟩
  | sl _ b o sz c f hc hx hsz hm hr => exact .inr ⟨b, o, sz, c, f, rfl, hc, hsz, hm, hr⟩
theorem zoP (ws : List W8) : zbg ws = Lib.join ws [32] := by
 induction ws with
 | nil => rfl
 | cons w l ih =>
  cases l with
  | nil => simp [zbg, spW, zdf, Lib.join_one]
  | cons v l => rw [zbe, ih, Lib.join_cons, Lib.join_cons]; simp [Lib.joinTail]
theorem zim (ws : List W8) (hlen : (zbg ws).length ≤ 140737488355328) (hN : ws.length ≤ 140737488355328) : Fun Tryz.prog 54 [.u (.sl (ws.map fun w => [.str w])), .u (.str [32])] (· = .u (.str (zbg ws))) :=
 Fun.zoe fun k own w vs hsat hrep => by
  obtain ⟨v, u, rfl, hv, hu⟩ := zol hrep
  have hu := zez hu
  subst hu
  have hsep : ([32] : List UInt8) = (⟨([32] : List UInt8).toArray⟩ : ByteArray).data.toList := rfl
  have none : ∀ a c, ws = [] → v = .slice a 0 c → ∃ v', RepU k.mem (.str (zbg ws)) v' ∧ Calls Tryz.prog 54 #[v, .string ⟨([32] : List UInt8).toArray⟩] w fun e w' => e = .returned v' ∧ Below w.heap.size w w' := fun a c hw hv => by
   subst hv; subst hw
   exact ⟨.string ⟨#[]⟩, .str [], (Tryz.strings_Join_none a c _ w).mono fun e w' ⟨h1, h2⟩ => ⟨h1, h2 ▸ Below.refl _ _⟩⟩
  rcases zlP hv with ⟨he, a, c, rfl⟩ | ⟨b, o, sz, c, f, rfl, hc, hsz, hm, hrr⟩
  ·exact none a c (by simpa using he) rfl
  rw [List.length_map] at hc hm hv none ⊢
  by_cases hw : ws = []
  ·have h0 : ws.length = 0 := by rw [hw]; rfl
   rw [h0] at none ⊢
   exact none _ c hw rfl
  obtain ⟨w0, r0, e0⟩ : ∃ w0 r0, ws = w0 :: r0 := by cases ws with | nil => exact absurd rfl hw | cons a l => exact ⟨a, l, rfl⟩
  have hs1 : sz = 1 := by
   have := hsz [U.str w0] (by rw [e0]; simp)
   simpa using this.symm
  subst hs1
  have hcell : ∀ (j : Nat) x, (ws.map fun w => (⟨w.toArray⟩ : ByteArray))[j]? = some x → w.cell? ⟨b, o + j, Option.none⟩ = some (.string x) := fun j x hj => by
   rw [List.getElem?_map] at hj
   cases hwj : ws[j]? with
   | none => rw [hwj] at hj; cases hj
   | some y =>
    rw [hwj] at hj
    cases hj
    have hjl := (lGE.1 hwj).1
    have h1 := hm j hjl 0 Nat.one_pos
    have h2 := hrr j [U.str y] (by simp [hwj]) 0 _ rfl
    have h3 : f j 0 = .string ⟨y.toArray⟩ := (fun z (hz : RepU k.mem (U.str y) z) => by cases hz; rfl : ∀ z, RepU k.mem (U.str y) z → z = .string ⟨y.toArray⟩) _ h2
    have h4 := hsat.cell h1
    rw [h3] at h4
    simpa using h4
  have hlt : b < w.heap.size := hsat.memLt (hm 0 (by rw [e0]; simp) 0 Nat.one_pos)
  have hj := Tryz.strings_Join b o c (ws.map fun w => (⟨w.toArray⟩ : ByteArray)) ⟨([32] : List UInt8).toArray⟩ w hcell hlt (by rw [List.length_map]; exact hN) (by rw [List.length_map]; exact hc)
  have hmm : (ws.map fun w => (⟨w.toArray⟩ : ByteArray)).map (·.data.toList) = ws := by simp [Function.comp_def]
  rw [hmm, List.length_map] at hj
  rw [zoP] at hlen ⊢
  exact ⟨_, .str _, hj hlen⟩
theorem zom {k : Kr} {own obs} {w : World} (h : Sat k own obs w) : Lib.TabIs Tryz.prog w "internal/strconv.uint64pow10" .u64 Lib.pow10Tab := by
 have he : globs.head! = (globs.head!.1, Lib.pow10Tab.map fun z => Value.int .u64 z) := rfl
 have hm : globs.head! ∈ globs := by unfold globs; exact List.mem_cons_self
 obtain ⟨h1, h2⟩ := k.glob _ hm
 rw [he] at h1 h2
 simp only [List.length_map, Lib.pow10Tab_length] at h1 h2
 obtain ⟨cs, t, fr, h3, h4⟩ := zoB (h.mem _ _ _ h2)
 have h5 : Tryz.prog.globalNamed "internal/strconv.uint64pow10" = some globs.head!.1 := by kernel_rfl
 unfold Lib.TabIs World.var?
 rw [h5, Option.bind_some, h3]
 simp only [Option.some.injEq]
 apply Array.ext_getElem?
 intro j
 by_cases hj : j < 20
 ·have h6 := h.cell (h1 j hj)
  have h7 : cs[j]? = some ((Lib.pow10Tab.map fun z => Value.int .u64 z).getD j undef) := by simpa [World.cell?, h3] using h6
  rw [h7]
  simp [List.getD, Lib.pow10Tab_length, hj]
 ·rw [Array.getElem?_eq_none (by omega), Array.getElem?_eq_none (by simp [Lib.pow10Tab_length]; omega)]
theorem zlj (n : Int) (h0 : -9223372036854775808 ≤ n) (h1 : n ≤ 9223372036854775807) : Fun Tryz.prog 56 [.u (.int .i64 n)] (· = .u (.str (Lib.itoa n))) :=
 Fun.zoe fun k own w vs hsat hrep => by
  obtain ⟨v, rfl, hv⟩ := zid hrep
  have hv := zbv hv
  subst hv
  refine ⟨_, .str _, (Tryz.strconv_Itoa n h0 h1 w (zom hsat)).mono ?_⟩
  rintro e w' ⟨h1, q, os, rfl⟩
  refine ⟨h1, rfl, rfl, rfl, ?_, fun x hx => ?_⟩
  ·show w.heap.size ≤ (w.heap ++ os).size
   simp
  ·show (w.heap ++ os)[x]? = w.heap[x]?
   rw [Array.getElem?_append_left hx]
end Go.Proofs.YthnemhfamhnfjaaGreatDoor
namespace Go.Proofs.YthnemhfamhnfjaaGreatDoor
open Go Go.VL
theorem zk2 {w : W8} : ∀ {ws : List W8}, w ∈ ws → w.length ≤ (zbg ws).length
 | [v], h => by
  rw [List.mem_singleton] at h
  rw [h]
  simp [zbg, spW, zdf]
 | v :: u :: l, h => by
  rw [zbe]
  rcases List.mem_cons.1 h with h | h
  ·subst h; simp only [List.length_append]; omega
  ·have := zk2 (ws := u :: l) h
   simp only [List.length_append]
   omega
theorem znC {B : Nat} : ∀ {ws : List W8}, (∀ w ∈ ws, w.length ≤ B) → (zbg ws).length ≤ ws.length * (B + 1)
 | [], _ => by simp [zbg, spW, zdf]
 | [v], h => by
  have := h v (by simp)
  simp [zbg, spW, zdf]
  omega
 | v :: u :: l, h => by
  rw [zbe]
  have h1 := h v (by simp)
  have h2 := znC (ws := u :: l) fun w hw => h w (by simp [hw])
  simp only [List.length_append, List.length_cons, List.length_nil, Nat.add_mul, Nat.one_mul] at h2 ⊢
  omega
theorem zqs {s : W8} {l : List Tok} (h : zgS s = .ok l) {i : Nat} {t : Tok} (ht : l[i]? = some t) (hk : t.kind = 0) : t.text = [] := by
 have key : ∀ (f : Nat) (p : Nat) (l : List Tok), zhC f s p = .ok l → ∀ (i : Nat) (t : Tok), l[i]? = some t → t.kind = 0 → t.text = [] := by
  intro f
  induction f with
  | zero => intro p l h; rw [zhC] at h; cases h; intro i t ht; simp at ht
  | succ f ih =>
   intro p l h
   rw [zhC] at h
   split at h
   ·cases h
    intro i t ht hk
    match i with
    | 0 => cases ht; rfl
    | i + 1 => simp at ht
   ·rename_i c r hc
    split at h
    ·cases h
    ·rename_i t ht0
     split at h
     ·cases h
     ·rename_i l' hl'
      cases h
      intro i t' ht hk
      match i with
      | 0 =>
       cases ht
       exfalso
       have hk : t.kind = 0 := hk
       unfold ze3 at ht0
       simp only at ht0
       split at ht0
       ·split at ht0 <;> cases ht0
        simp at hk
       ·split at ht0
        ·split at ht0 <;> cases ht0
         simp at hk
        ·split at ht0 <;> cases ht0
         simp at hk
      | i + 1 => exact ih _ _ hl' i t' ht hk
 unfold zgS at h
 split at h
 ·cases h
 ·exact key _ _ _ h i t ht hk
abbrev zhV (ws : List W8) : List (List U) := ws.map fun w => [.str w]
theorem zc2 (ws : List W8) : (zhV ws).length = ws.length := by simp
end Go.Proofs.YthnemhfamhnfjaaGreatDoor
namespace Go.Proofs.YthnemhfamhnfjaaGreatDoor
open Go Go.VL
attribute [local simp] HS zde zb7 evPure opd uOf zaF St.put St.at getK binD binI binS binB nilD aggD zhn ziD lookD lookR zcB Go.VL.nextD zcF ziQ ziP zgW zcz mkV zdB zbq zbB mapEff zev zgg Key.kk shiftI arith unD convD zeg loadD cellsAt fieldAddrD fieldD indexAddrD indexD sliceD cutD lenD minmaxD nilCheckD buildD fillD zbU zdn ze5 setAll zcU zff zcx zhN zct St.add zaR zbR rowsOf zd0 zcJ zak zac zaa za9 zcI zaP entry zbO zbY valD zb8 zcA zhf zdz zdA zb1 zbQ zax zaW zbu delAll effD St.effS zdj zbl za5 zdk zbm za7 zcl za6 zaV zcm zdh zbJ zci zbt zcg zch zaK mkD zbL zbC zbP zax zcv D.ids Op.operands Call.operands zbI makeIfD makeFuncD typeAssertD ziB zdR zdS zhX zcD IntKind.bits zcV List.take_of_length_le List.range_succ
attribute [local irreducible] V G H HD HD2 HD4 zmC RetX zao Eff CallP CallV EndOK Fun Ret FinOK LoopI LoopW EndW
abbrev zex (e : Exp) : D := .u (.agg e.row)
abbrev zio (n : Int) : D := .u (.int .i64 n)
theorem zaB {i nx : Nat} (h : i < nx) : ¬ i = nx ∧ ¬ nx = i ∧ (∀ k, ¬ i = nx + k) ∧ ∀ k, ¬ nx + k = i := ⟨by omega, by omega, fun k => by omega, fun k => by omega⟩
theorem zoi (l : List Tok) (p : Nat) (i nx : Nat) (hi : i < nx) (hp : p < l.length) (hl : TokOK l) :
  RetX Tryz.prog 143 [.ptr i 0] [(i, pOb l p)] nx (PPost l i nx zio (ziV l p)) := by
 have hne := zaB hi
 have hh1 := fun nx' (h : nx ≤ nx') => zbc l p [99, 111, 105, 110, 115] i nx' (by omega) hp hl.len
 have hh2 := fun nx' (h : nx ≤ nx') => zbc l p [100, 97, 121, 115] i nx' (by omega) hp hl.len
 have hh3 := fun nx' (h : nx ≤ nx') => zbc l p [112, 101, 114] i nx' (by omega) hp hl.len
 unfold ziV
 by_cases h1 : isB l p [99, 111, 105, 110, 115] = true
 ·simp only [h1, if_true] at hh1 ⊢
  (refine RetX.of_bodyW Tryz.func143 rfl (by simp) fun Γ hn hpan => ?_); simp only [entry, ziC, ziN, maC, maN, oA, Tryz.ntmps143]
  repeat' (first
  | ((first | refine zaf ?_ | refine zaj ?_ | refine zag ?_ | refine zai ?_ | fail); simp [hne])
  | (refine zaq ?_; simp only [zao])
  | (refine CallP.ok1 (hh1 _ (by first | omega | simp <;> omega | fail)) (by first | (simp [hne, zaa, getK, zab, zac]; done) | fail) (by rfl) (by rfl) ?_; (try simp [hne]))
  | fail)
  (refine EndW.here ?_; (first | (refine EndOK.fin (.inr rfl) ?_) | (refine EndOK.fin (.inl rfl) ?_)); simp [zaJ, zah, Tryz.results143]; refine FinOK.here (by simp) ?_; try simp)
  exact PPost.zcf rfl rfl (by first | rfl | simp [del])
 ·simp only [h1, Bool.false_eq_true, if_false] at hh1 ⊢
  by_cases h2 : isB l p [100, 97, 121, 115] = true
  ·simp only [h2, if_true] at hh2 ⊢
   (refine RetX.of_bodyW Tryz.func143 rfl (by simp) fun Γ hn hpan => ?_); simp only [entry, ziC, ziN, maC, maN, oA, Tryz.ntmps143]
   repeat' (first
  | ((first | refine zaf ?_ | refine zaj ?_ | refine zag ?_ | refine zai ?_ | fail); simp [hne])
  | (refine zaq ?_; simp only [zao])
  | (refine CallP.ok1 (hh1 _ (by first | omega | simp <;> omega | fail)) (by first | (simp [hne, zaa, getK, zab, zac]; done) | fail) (by rfl) (by rfl) ?_; (try simp [hne]))
  | (refine CallP.ok1 (hh2 _ (by first | omega | simp <;> omega | fail)) (by first | (simp [hne, zaa, getK, zab, zac]; done) | fail) (by rfl) (by rfl) ?_; (try simp [hne]))
  | fail)
   (refine EndW.here ?_; (first | (refine EndOK.fin (.inr rfl) ?_) | (refine EndOK.fin (.inl rfl) ?_)); simp [zaJ, zah, Tryz.results143]; refine FinOK.here (by simp) ?_; try simp)
   exact PPost.zcf rfl rfl (by first | rfl | simp [del])
  ·simp only [h2, Bool.false_eq_true, if_false] at hh2 ⊢
   by_cases h3 : isB l p [112, 101, 114] = true
   ·simp only [h3, if_true] at hh3 ⊢
    have hw := fun nx' (h : nx ≤ nx') => zhU l (p + 1) [[109, 105, 108, 108, 101]] i nx' (by omega) (zba hl h3) hl (by simp)
    cases hr : zbs l (p + 1) [[109, 105, 108, 108, 101]] with
    | ok a q =>
     simp only [hr, List.map_cons, List.map_nil] at hw
     (refine RetX.of_bodyW Tryz.func143 rfl (by simp) fun Γ hn hpan => ?_); simp only [entry, ziC, ziN, maC, maN, oA, Tryz.ntmps143]
     repeat' (first
  | ((first | refine zaf ?_ | refine zaj ?_ | refine zag ?_ | refine zai ?_ | fail); simp [hne])
  | (refine zaq ?_; simp only [zao])
  | (refine CallP.ok1 (hh1 _ (by first | omega | simp <;> omega | fail)) (by first | (simp [hne, zaa, getK, zab, zac]; done) | fail) (by rfl) (by rfl) ?_; (try simp [hne]))
  | (refine CallP.ok1 (hh2 _ (by first | omega | simp <;> omega | fail)) (by first | (simp [hne, zaa, getK, zab, zac]; done) | fail) (by rfl) (by rfl) ?_; (try simp [hne]))
  | (refine CallP.ok1 (hh3 _ (by first | omega | simp <;> omega | fail)) (by first | (simp [hne, zaa, getK, zab, zac]; done) | fail) (by rfl) (by rfl) ?_; (try simp [hne]))
  | (refine CallP.ok1 (hw _ (by first | omega | simp <;> omega | fail)) (by first | (simp [hne, zaa, getK, zab, zac]; done) | fail) (by rfl) (by rfl) ?_; (try simp [hne]))
  | (refine zar (by first | rfl | fail) ?_; simp [hne, frzN, frz1, zaA, zaz, St.frz, St.frzS, frzS, fv, zaE, zaY, za1, zaD, zas, zal, del, frz, za2])
  | fail)
     (refine EndW.wk { n := _, env := [(2, zio 4)], obs := [(i, pOb l q)], next := nx } (Wk.cut rfl (by simp [hn]) (by simp [wkO, zaa, getK, zab, zac, Ob.under, D.under, zad, zae, hne, hi]) (by simp [wkU, zam, zaa, getK, D.under, hne, hi]) (by simp [wkE, zam, zaa, getK, hne, hi])) (EndW.here ?_); (first | (refine EndOK.fin (.inr rfl) ?_) | (refine EndOK.fin (.inl rfl) ?_)); simp [zaJ, zah, Tryz.results143]; refine FinOK.here (by simp) ?_; try simp)
     exact PPost.zcf rfl rfl (by first | rfl | simp [del])
    | stop pos e =>
     simp only [hr, List.map_cons, List.map_nil] at hw
     (refine RetX.of_bodyW Tryz.func143 rfl (by simp) fun Γ hn hpan => ?_); simp only [entry, ziC, ziN, maC, maN, oA, Tryz.ntmps143]
     repeat' (first
  | ((first | refine zaf ?_ | refine zaj ?_ | refine zag ?_ | refine zai ?_ | fail); simp [hne])
  | (refine CallP.ok1 (hh1 _ (by first | omega | simp <;> omega | fail)) (by first | (simp [hne, zaa, getK, zab, zac]; done) | fail) (by rfl) (by rfl) ?_; (try simp [hne]))
  | (refine CallP.ok1 (hh2 _ (by first | omega | simp <;> omega | fail)) (by first | (simp [hne, zaa, getK, zab, zac]; done) | fail) (by rfl) (by rfl) ?_; (try simp [hne]))
  | (refine CallP.ok1 (hh3 _ (by first | omega | simp <;> omega | fail)) (by first | (simp [hne, zaa, getK, zab, zac]; done) | fail) (by rfl) (by rfl) ?_; (try simp [hne]))
  | (refine CallP.zd8 (hw _ (by first | omega | simp <;> omega | fail)) (by first | (simp [hne, zaa, getK, zab, zac]; done) | fail) (by rfl) (by first | assumption | (simp; done) | fail) (by rfl) (by simp) ?_; rintro ob' ⟨q', rfl⟩; refine ⟨_, Wk.refl _, ?_⟩)
  | (refine zar (by first | rfl | fail) ?_; simp [hne, frzN, frz1, zaA, zaz, St.frz, St.frzS, frzS, fv, zaE, zaY, za1, zaD, zas, zal, del, frz, za2])
  | fail)
     (refine hpan _ _ ⟨{ n := _, env := [], obs := [(i, pOb l q')], next := nx }, (Wk.cut rfl (by simp [hn]) (by simp [wkO, zaa, getK, zab, zac, Ob.under, D.under, zad, zae, hi, zab, zac, zaa, getK]) (by simp [wkU, zam, zaa, getK, D.under, hi, zab, zac, zaa, getK]) (by simp [wkE, zam, zaa, getK, hi, zab, zac, zaa, getK])), by simp [hn], ?_⟩; try simp)
     exact PPost.zay rfl
   ·simp only [h3, Bool.false_eq_true, if_false] at hh3 ⊢
    (refine RetX.of_bodyW Tryz.func143 rfl (by simp) fun Γ hn hpan => ?_); simp only [entry, ziC, ziN, maC, maN, oA, Tryz.ntmps143]
    repeat' (first
  | ((first | refine zaf ?_ | refine zaj ?_ | refine zag ?_ | refine zai ?_ | fail); simp [hne])
  | ((first | refine zaq ?_ | refine zap ?_ | fail); simp only [zao])
  | (refine CallP.ok1 (hh1 _ (by first | omega | simp <;> omega | fail)) (by first | (simp [hne, zaa, getK, zab, zac]; done) | fail) (by rfl) (by rfl) ?_; (try simp [hne]))
  | (refine CallP.ok1 (hh2 _ (by first | omega | simp <;> omega | fail)) (by first | (simp [hne, zaa, getK, zab, zac]; done) | fail) (by rfl) (by rfl) ?_; (try simp [hne]))
  | (refine CallP.ok1 (hh3 _ (by first | omega | simp <;> omega | fail)) (by first | (simp [hne, zaa, getK, zab, zac]; done) | fail) (by rfl) (by rfl) ?_; (try simp [hne]))
  | fail)
    (refine EndW.here ?_; (first | (refine EndOK.fin (.inr rfl) ?_) | (refine EndOK.fin (.inl rfl) ?_)); simp [zaJ, zah, Tryz.results143]; refine FinOK.here (by simp) ?_; try simp)
    exact PPost.zcf rfl rfl (by first | rfl | simp [del])
abbrev zjp (e : Exp × Int) : D := .tup [.u (.agg e.1.row), .u (.int .i64 e.2)]
def zhc (l : List Tok) (f : Nat) : Prop := ∀ (p : Nat) (form : Int) (i nx : Nat), i < nx → p < l.length → 4 * (l.length - p) + 3 ≤ f → 0 ≤ form → form ≤ 7 →
 RetX Tryz.prog 41 [.ptr i 0, zio form] [(i, pOb l p)] nx (PPost l i nx zex (zdI l f p form))
def zqb (l : List Tok) (f : Nat) : Prop := ∀ (p : Nat) (form : Int) (i nx : Nat), i < nx → p < l.length → 4 * (l.length - p) + 2 ≤ f → 0 ≤ form → form ≤ 7 →
 RetX Tryz.prog 95 [.ptr i 0, zio form] [(i, pOb l p)] nx (PPost l i nx zjp (zbo l f p form))
def zhS (l : List Tok) (f : Nat) : Prop := ∀ (p : Nat) (i nx : Nat), i < nx → p < l.length → 4 * (l.length - p) + 1 ≤ f →
 RetX Tryz.prog 133 [.ptr i 0] [(i, pOb l p)] nx (PPost l i nx zex (zaU l f p))
theorem zeu {l : List Tok} (hl : TokOK l) (w : List UInt8) {q i nx : Nat} (hi : i < nx) (hq : q < l.length) :
  RetX Tryz.prog 83 [.ptr i 0, .u (.sl [[.str w]])] [(i, pOb l q)] nx (PPost l i nx (fun _ => .tup []) (zbs l q [w])) := zhU l q [w] i nx hi hq hl (by simp)
theorem zkm {l : List Tok} (hl : TokOK l) {f p : Nat} {t : Tok} (ht : l[p]? = some t) (hk : t.kind = 2) {i nx : Nat} (hi : i < nx) :
  RetX Tryz.prog 133 [.ptr i 0] [(i, pOb l p)] nx (PPost l i nx zex (zaU l (f + 1) p)) := by
 have hne := zaB hi
 have hp := (lGE.1 ht).1
 have hnx := zbM l p t ht hl.len
 have hp2 := hl.fin p t ht (by omega)
 have hll := hl.len
 rw [zaU, ht]
 simp only [hk, if_true] at hnx ⊢
 have hu := fun nx' (h : nx ≤ nx') => zoi l (p + 1) i nx' (by omega) hp2 hl
 cases hr : ziV l (p + 1) with
 | ok a q =>
  simp only [hr] at hu
  (refine RetX.of_bodyW Tryz.func133 rfl (by simp) fun Γ hn hpan => ?_); simp only [entry, ziC, ziN, maC, maN, oA, Tryz.ntmps133]
  repeat' (first
  | (refine zhb (fun nx' h' => hu nx' (by simp at h'; omega)) (by first | (simp [hne, zaa, getK, zab, zac, zak, zaK]; done) | fail) (by rfl) (by first | assumption | simp) (by rfl) (by simp [D.under, Ob.under]) (by simp) ?_; (try simp [hne]))
  | ((first | refine zaf ?_ | refine zaO rfl ?_ | refine za3 rfl ?_ | refine zaj ?_ | fail); simp [hne])
  | (refine ⟨by omega, ?_⟩)
  | ((first | refine zag ?_ | refine zai ?_ | fail); simp [hne])
  | (refine zaX (hC _ (zcc [i] nx (by simp <;> omega) (by simp <;> omega) (by apply Exists.intro; apply And.intro; (focus (repeat' (first | exact KF.nil | exact KL.nil | apply KF.cons | apply KL.cons 0 rfl | apply KL.cons 1 rfl | apply KL.cons 2 rfl | apply KL.cons 3 rfl | apply KL.cons 4 rfl | apply KL.cons 5 rfl | apply KL.cons 6 rfl | apply KL.cons 7 rfl | apply KL.cons 8 rfl | apply KL.cons 9 rfl))); kernel_rfl))) (hk _ ?_); clear hC hk C k; simp only [zao])
  | (refine za0 rfl (by kernel_rfl) (by first | (simp [hn]; done) | (simp [hn]; omega) | fail) fun C k hC hk => ?_; simp [hne])
  | (refine zaq ?_; simp only [zao])
  | (refine CallP.fE (hnx) (by first | rfl | fail) (by first | simp [hne] <;> rfl | fail) ?_; (try simp [hne]))
  | fail)
  refine EndW.norm ?_
  simp [St.norm, zbh, zbZ, zcj, zck, hne]
  (refine EndW.here ?_; (first | (refine EndOK.fin (.inr rfl) ?_) | (refine EndOK.fin (.inl rfl) ?_)); simp [zaJ, zah, Tryz.results133, hne, hi]; refine FinOK.cut [(i, pOb l q)] (nx) (by simp [zaa, getK, zab, zac, Ob.under, D.under, zad, zae, hne, hi] <;> omega) (by simp [D.under]) (by simp [hn]) ?_; try simp)
  exact PPost.zcf rfl (by simp [Exp.row]) rfl
 | stop pos e =>
  simp only [hr] at hu
  (refine RetX.of_bodyW Tryz.func133 rfl (by simp) fun Γ hn hpan => ?_); simp only [entry, ziC, ziN, maC, maN, oA, Tryz.ntmps133]
  repeat' (first
  | (refine zfB (fun nx' h' => hu nx' (by simp at h'; omega)) (by first | (simp [hne, zaa, getK, zab, zac, zak, zaK]; done) | fail) (by rfl) (by first | assumption | simp) (by rfl) (by simp) ?_ ?_; rintro env' ob' n' hn' ⟨q', rfl⟩; refine ⟨_, Wk.refl _, ?_⟩)
  | (refine zeQ rfl (by simp) ?_; simp)
  | ((first | refine zaf ?_ | refine zaO rfl ?_ | refine zaj ?_ | fail); simp [hne])
  | (refine ⟨by omega, ?_⟩)
  | ((first | refine zag ?_ | refine zai ?_ | fail); simp [hne])
  | (refine zfC (hC _ (zcc [i] nx (by simp <;> omega) (by simp <;> omega) (by apply Exists.intro; apply And.intro; (focus (repeat' (first | exact KF.nil | exact KL.nil | apply KF.cons | apply KL.cons 0 rfl | apply KL.cons 1 rfl | apply KL.cons 2 rfl | apply KL.cons 3 rfl | apply KL.cons 4 rfl | apply KL.cons 5 rfl | apply KL.cons 6 rfl | apply KL.cons 7 rfl | apply KL.cons 8 rfl | apply KL.cons 9 rfl))); kernel_rfl))) rfl; done)
  | (refine za0 rfl (by kernel_rfl) (by first | (simp [hn]; done) | (simp [hn]; omega) | fail) fun C k hC hk => ?_; simp [hne])
  | (refine CallP.fE (hnx) (by first | rfl | fail) (by first | simp [hne] <;> rfl | fail) ?_; (try simp [hne]))
  | fail)
  (refine hpan _ _ ⟨{ n := _, env := [], obs := [(i, pOb l q')], next := nx }, (Wk.cut rfl (by simp [hn]) (by simp [wkO, zaa, getK, zab, zac, Ob.under, D.under, zad, zae, hi, hne, zab, zac, zaa, getK]) (by simp [wkU, zam, zaa, getK, D.under, hi, hne, zab, zac, zaa, getK]) (by simp [wkE, zam, zaa, getK, hi, hne, zab, zac, zaa, getK])), by simp [hn], ?_⟩; try simp)
  exact PPost.zay (by simp [PR.bind])
theorem zje {l : List Tok} (hl : TokOK l) {f p : Nat} {t : Tok} (ht : l[p]? = some t) (hk : ¬ t.kind = 2) (h1 : isB l p [116, 114, 117, 101] = true) {i nx : Nat} (hi : i < nx) :
  RetX Tryz.prog 133 [.ptr i 0] [(i, pOb l p)] nx (PPost l i nx zex (zaU l (f + 1) p)) := by
 have hne := zaB hi
 have hp := (lGE.1 ht).1
 have hnx := zbM l p t ht hl.len
 have hll := hl.len
 rw [zaU, ht]
 have hh1 := fun nx' (h : nx ≤ nx') => zbc l p [116, 114, 117, 101] i nx' (by omega) hp hl.len
 simp only [hk, h1, if_false, if_true] at hh1 ⊢
 (refine RetX.of_bodyW Tryz.func133 rfl (by simp) fun Γ hn hpan => ?_); simp only [entry, ziC, ziN, maC, maN, oA, Tryz.ntmps133]
 repeat' (first
  | ((first | refine zaf ?_ | refine zaj ?_ | refine zag ?_ | refine zai ?_ | fail); simp [hne, hk, del])
  | (refine zaq ?_; simp only [zao])
  | (refine CallP.fE (hnx) (by first | rfl | fail) (by first | simp [hne, hk, del] <;> rfl | fail) ?_; (try simp [hne, hk, del]))
  | (refine CallP.ok1 (hh1 _ (by first | omega | simp <;> omega | fail)) (by first | (simp [hne, hk, del, zaa, getK, zab, zac]; done) | fail) (by rfl) (by rfl) ?_; (try simp [hne, hk, del]))
  | fail)
 refine EndW.norm ?_
 simp [St.norm, zbh, zbZ, zcj, zck, hne]
 (refine EndW.here ?_; (first | (refine EndOK.fin (.inr rfl) ?_) | (refine EndOK.fin (.inl rfl) ?_)); simp [zaJ, zah, Tryz.results133, hne, hi]; refine FinOK.cut [(i, pOb l (p + 1))] (nx) (by simp [zaa, getK, zab, zac, Ob.under, D.under, zad, zae, hne, hi] <;> omega) (by simp [D.under]) (by simp [hn]) ?_; try simp)
 exact PPost.zcf rfl (by simp [Exp.row]) rfl
theorem zh7 {l : List Tok} (hl : TokOK l) {f p : Nat} {t : Tok} (ht : l[p]? = some t) (hk : ¬ t.kind = 2) (h1 : isB l p [116, 114, 117, 101] = false) (h2 : isB l p [102, 97, 108, 115, 101] = true) {i nx : Nat} (hi : i < nx) :
  RetX Tryz.prog 133 [.ptr i 0] [(i, pOb l p)] nx (PPost l i nx zex (zaU l (f + 1) p)) := by
 have hne := zaB hi
 have hp := (lGE.1 ht).1
 have hnx := zbM l p t ht hl.len
 have hll := hl.len
 rw [zaU, ht]
 have hh1 := fun nx' (h : nx ≤ nx') => zbc l p [116, 114, 117, 101] i nx' (by omega) hp hl.len
 have hh2 := fun nx' (h : nx ≤ nx') => zbc l p [102, 97, 108, 115, 101] i nx' (by omega) hp hl.len
 simp only [hk, h1, h2, if_false, if_true, Bool.false_eq_true] at hh1 hh2 ⊢
 (refine RetX.of_bodyW Tryz.func133 rfl (by simp) fun Γ hn hpan => ?_); simp only [entry, ziC, ziN, maC, maN, oA, Tryz.ntmps133]
 repeat' (first
  | ((first | refine zaf ?_ | refine zaj ?_ | refine zag ?_ | refine zai ?_ | fail); simp [hne, hk, del])
  | (refine zaq ?_; simp only [zao])
  | (refine CallP.fE (hnx) (by first | rfl | fail) (by first | simp [hne, hk, del] <;> rfl | fail) ?_; (try simp [hne, hk, del]))
  | (refine CallP.ok1 (hh1 _ (by first | omega | simp <;> omega | fail)) (by first | (simp [hne, hk, del, zaa, getK, zab, zac]; done) | fail) (by rfl) (by rfl) ?_; (try simp [hne, hk, del]))
  | (refine CallP.ok1 (hh2 _ (by first | omega | simp <;> omega | fail)) (by first | (simp [hne, hk, del, zaa, getK, zab, zac]; done) | fail) (by rfl) (by rfl) ?_; (try simp [hne, hk, del]))
  | fail)
 refine EndW.norm ?_
 simp [St.norm, zbh, zbZ, zcj, zck, hne]
 (refine EndW.here ?_; (first | (refine EndOK.fin (.inr rfl) ?_) | (refine EndOK.fin (.inl rfl) ?_)); simp [zaJ, zah, Tryz.results133, hne, hi]; refine FinOK.cut [(i, pOb l (p + 1))] (nx) (by simp [zaa, getK, zab, zac, Ob.under, D.under, zad, zae, hne, hi] <;> omega) (by simp [D.under]) (by simp [hn]) ?_; try simp)
 exact PPost.zcf rfl (by simp [Exp.row]) rfl
theorem zcL {l : List Tok} {F : FuncId} {r : PR Exp} {e : Exp} {q i nx : Nat} {ds : List D} {obs : List (Nat × Ob)} (h : RetX Tryz.prog F ds obs nx (PPost l i nx zex r)) (hr : r = .ok e q) :
  RetX Tryz.prog F ds obs nx fun r o n => r = .val (.u (.agg [.int .i64 e.op, .int .i64 e.n, .int .i64 e.unit, .str e.s, .sl (e.args.map Exp.row)])) ∧ o = [(i, pOb l q)] ∧ n = nx := by
 subst hr
 rw [← Exp.row_eq]
 exact h
theorem zh6 {l : List Tok} (hl : TokOK l) {f p : Nat} (hE : zhc l f) (hf : 4 * (l.length - p) ≤ f) {t : Tok} (ht : l[p]? = some t) (hk : ¬ t.kind = 2) (h1 : isB l p [116, 114, 117, 101] = false) (h2 : isB l p [102, 97, 108, 115, 101] = false)
  (h3 : isB l p [109, 105, 110] = false) (h4 : isB l p [109, 97, 120] = false) (h5 : isB l p [40] = true) {i nx : Nat} (hi : i < nx) :
  RetX Tryz.prog 133 [.ptr i 0] [(i, pOb l p)] nx (PPost l i nx zex (zaU l (f + 1) p)) := by
 have hne := zaB hi
 have hp := (lGE.1 ht).1
 have hnx := zbM l p t ht hl.len
 have hll := hl.len
 have hp2 := zba hl h5
 rw [zaU, ht]
 have hh1 := fun nx' (h : nx ≤ nx') => zbc l p [116, 114, 117, 101] i nx' (by omega) hp hl.len
 have hh2 := fun nx' (h : nx ≤ nx') => zbc l p [102, 97, 108, 115, 101] i nx' (by omega) hp hl.len
 have hm1 := zdH l p [109, 105, 110] hp hl.len
 have hm2 := zdH l p [109, 97, 120] hp hl.len
 have hh3 := fun nx' (h : nx ≤ nx') => zbc l p [40] i nx' (by omega) hp hl.len
 simp only [hk, h1, h2, h3, h4, h5, if_false, if_true, Bool.false_eq_true, or_self] at hh1 hh2 hm1 hm2 hh3 ⊢
 have he := fun nx' (h : nx ≤ nx') => hE (p + 1) 0 i nx' (by omega) hp2 (by omega) (by omega) (by omega)
 cases hr : zdI l f (p + 1) 0 with
 | stop pos e =>
  simp only [hr] at he
  (refine RetX.of_bodyW Tryz.func133 rfl (by simp) fun Γ hn hpan => ?_); simp only [entry, ziC, ziN, maC, maN, oA, Tryz.ntmps133]
  repeat' (first
  | ((first | refine zaf ?_ | refine zaj ?_ | refine zag ?_ | refine zai ?_ | fail); simp [hne, hk, del, nAA])
  | (refine CallP.fE (hnx) (by first | rfl | fail) (by first | simp [hne, hk, del, nAA] <;> rfl | fail) ?_; (try simp [hne, hk, del, nAA]))
  | (refine CallP.fE (hm1) (by first | rfl | fail) (by first | simp [hne, hk, del, nAA] <;> rfl | fail) ?_; (try simp [hne, hk, del, nAA]))
  | (refine CallP.fE (hm2) (by first | rfl | fail) (by first | simp [hne, hk, del, nAA] <;> rfl | fail) ?_; (try simp [hne, hk, del, nAA]))
  | (refine CallP.ok1 (hh1 _ (by first | omega | simp <;> omega | fail)) (by first | (simp [hne, hk, del, nAA, zaa, getK, zab, zac]; done) | fail) (by rfl) (by rfl) ?_; (try simp [hne, hk, del, nAA]))
  | (refine CallP.ok1 (hh2 _ (by first | omega | simp <;> omega | fail)) (by first | (simp [hne, hk, del, nAA, zaa, getK, zab, zac]; done) | fail) (by rfl) (by rfl) ?_; (try simp [hne, hk, del, nAA]))
  | (refine CallP.ok1 (hh3 _ (by first | omega | simp <;> omega | fail)) (by first | (simp [hne, hk, del, nAA, zaa, getK, zab, zac]; done) | fail) (by rfl) (by rfl) ?_; (try simp [hne, hk, del, nAA]))
  | (refine CallP.zd8 (he _ (by first | omega | simp <;> omega | fail)) (by first | (simp [hne, hk, del, nAA, zaa, getK, zab, zac]; done) | fail) (by rfl) (by first | assumption | (simp; done) | fail) (by rfl) (by simp) ?_; rintro ob' ⟨q', rfl⟩; refine ⟨_, Wk.refl _, ?_⟩)
  | fail)
  (refine hpan _ _ ⟨{ n := _, env := [], obs := [(i, pOb l q')], next := nx }, (Wk.cut rfl (by simp [hn]) (by simp [wkO, zaa, getK, zab, zac, Ob.under, D.under, zad, zae, hi, hne, zab, zac, zaa, getK]) (by simp [wkU, zam, zaa, getK, D.under, hi, hne, zab, zac, zaa, getK]) (by simp [wkE, zam, zaa, getK, hi, hne, zab, zac, zaa, getK])), by simp [hn], ?_⟩; try simp)
  exact PPost.zay (by simp [PR.bind, *])
 | ok e1 q1 =>
  have he := fun nx' h => zcL (he nx' h) hr
  obtain ⟨g1, g2⟩ := (zbV hl f).1 _ _ _ _ hr hp2
  have hw := fun nx' (h : nx ≤ nx') => zeu hl [41] (q := q1) (i := i) (nx := nx') (by omega) g2
  cases hr2 : zbs l q1 [[41]] with
  | stop pos e =>
   simp only [hr2] at hw
   (refine RetX.of_bodyW Tryz.func133 rfl (by simp) fun Γ hn hpan => ?_); simp only [entry, ziC, ziN, maC, maN, oA, Tryz.ntmps133]
   repeat' (first
  | ((first | refine zaf ?_ | refine zaj ?_ | refine zag ?_ | refine zai ?_ | fail); simp [hne, hk, del, nAA])
  | (refine CallP.fE (hnx) (by first | rfl | fail) (by first | simp [hne, hk, del, nAA] <;> rfl | fail) ?_; (try simp [hne, hk, del, nAA]))
  | (refine CallP.fE (hm1) (by first | rfl | fail) (by first | simp [hne, hk, del, nAA] <;> rfl | fail) ?_; (try simp [hne, hk, del, nAA]))
  | (refine CallP.fE (hm2) (by first | rfl | fail) (by first | simp [hne, hk, del, nAA] <;> rfl | fail) ?_; (try simp [hne, hk, del, nAA]))
  | (refine CallP.ok1 (hh1 _ (by first | omega | simp <;> omega | fail)) (by first | (simp [hne, hk, del, nAA, zaa, getK, zab, zac]; done) | fail) (by rfl) (by rfl) ?_; (try simp [hne, hk, del, nAA]))
  | (refine CallP.ok1 (hh2 _ (by first | omega | simp <;> omega | fail)) (by first | (simp [hne, hk, del, nAA, zaa, getK, zab, zac]; done) | fail) (by rfl) (by rfl) ?_; (try simp [hne, hk, del, nAA]))
  | (refine CallP.ok1 (hh3 _ (by first | omega | simp <;> omega | fail)) (by first | (simp [hne, hk, del, nAA, zaa, getK, zab, zac]; done) | fail) (by rfl) (by rfl) ?_; (try simp [hne, hk, del, nAA]))
  | (refine CallP.ok1 (he _ (by first | omega | simp <;> omega | fail)) (by first | (simp [hne, hk, del, nAA, zaa, getK, zab, zac]; done) | fail) (by rfl) (by rfl) ?_; (try simp [hne, hk, del, nAA]))
  | (refine CallP.zd8 (hw _ (by first | omega | simp <;> omega | fail)) (by first | (simp [hne, hk, del, nAA, zaa, getK, zab, zac]; done) | fail) (by rfl) (by first | assumption | (simp; done) | fail) (by rfl) (by simp) ?_; rintro ob' ⟨q', rfl⟩; refine ⟨_, Wk.refl _, ?_⟩)
  | (refine zar (by first | rfl | fail) ?_; simp [hne, hk, del, nAA, frzN, frz1, zaA, zaz, St.frz, St.frzS, frzS, fv, zaE, zaY, za1, zaD, zas, zal, del, frz, za2])
  | fail)
   (refine hpan _ _ ⟨{ n := _, env := [], obs := [(i, pOb l q')], next := nx }, (Wk.cut rfl (by simp [hn]) (by simp [wkO, zaa, getK, zab, zac, Ob.under, D.under, zad, zae, hi, hne, zab, zac, zaa, getK]) (by simp [wkU, zam, zaa, getK, D.under, hi, hne, zab, zac, zaa, getK]) (by simp [wkE, zam, zaa, getK, hi, hne, zab, zac, zaa, getK])), by simp [hn], ?_⟩; try simp)
   exact PPost.zay (by simp [PR.bind, *])
  | ok u2 q =>
   simp only [hr2] at hw
   (refine RetX.of_bodyW Tryz.func133 rfl (by simp) fun Γ hn hpan => ?_); simp only [entry, ziC, ziN, maC, maN, oA, Tryz.ntmps133]
   repeat' (first
  | ((first | refine zaf ?_ | refine zaj ?_ | refine zag ?_ | refine zai ?_ | fail); simp [hne, hk, del, nAA])
  | (refine zaq ?_; simp only [zao])
  | (refine CallP.fE (hnx) (by first | rfl | fail) (by first | simp [hne, hk, del, nAA] <;> rfl | fail) ?_; (try simp [hne, hk, del, nAA]))
  | (refine CallP.fE (hm1) (by first | rfl | fail) (by first | simp [hne, hk, del, nAA] <;> rfl | fail) ?_; (try simp [hne, hk, del, nAA]))
  | (refine CallP.fE (hm2) (by first | rfl | fail) (by first | simp [hne, hk, del, nAA] <;> rfl | fail) ?_; (try simp [hne, hk, del, nAA]))
  | (refine CallP.ok1 (hh1 _ (by first | omega | simp <;> omega | fail)) (by first | (simp [hne, hk, del, nAA, zaa, getK, zab, zac]; done) | fail) (by rfl) (by rfl) ?_; (try simp [hne, hk, del, nAA]))
  | (refine CallP.ok1 (hh2 _ (by first | omega | simp <;> omega | fail)) (by first | (simp [hne, hk, del, nAA, zaa, getK, zab, zac]; done) | fail) (by rfl) (by rfl) ?_; (try simp [hne, hk, del, nAA]))
  | (refine CallP.ok1 (hh3 _ (by first | omega | simp <;> omega | fail)) (by first | (simp [hne, hk, del, nAA, zaa, getK, zab, zac]; done) | fail) (by rfl) (by rfl) ?_; (try simp [hne, hk, del, nAA]))
  | (refine CallP.ok1 (he _ (by first | omega | simp <;> omega | fail)) (by first | (simp [hne, hk, del, nAA, zaa, getK, zab, zac]; done) | fail) (by rfl) (by rfl) ?_; (try simp [hne, hk, del, nAA]))
  | (refine CallP.ok1 (hw _ (by first | omega | simp <;> omega | fail)) (by first | (simp [hne, hk, del, nAA, zaa, getK, zab, zac]; done) | fail) (by rfl) (by rfl) ?_; (try simp [hne, hk, del, nAA]))
  | (refine zar (by first | rfl | fail) ?_; simp [hne, hk, del, nAA, frzN, frz1, zaA, zaz, St.frz, St.frzS, frzS, fv, zaE, zaY, za1, zaD, zas, zal, del, frz, za2])
  | fail)
   refine EndW.norm ?_
   simp [St.norm, zbh, zbZ, zcj, zck, hne]
   (refine EndW.here ?_; (first | (refine EndOK.fin (.inr rfl) ?_) | (refine EndOK.fin (.inl rfl) ?_)); simp [zaJ, zah, Tryz.results133, hne, hi]; refine FinOK.cut [(i, pOb l q)] (nx) (by simp [zaa, getK, zab, zac, Ob.under, D.under, zad, zae, hne, hi] <;> omega) (by simp [D.under]) (by simp [hn]) ?_; try simp)
   exact PPost.zcf (by simp [PR.bind, *]; rfl) (by simp [Exp.row_eq]) rfl
theorem zko {l : List Tok} (hl : TokOK l) {f p : Nat} (hE : zhc l f) (hf : 4 * (l.length - p) ≤ f) {t : Tok} (ht : l[p]? = some t) (hk : ¬ t.kind = 2) (h1 : isB l p [116, 114, 117, 101] = false) (h2 : isB l p [102, 97, 108, 115, 101] = false)
  (h3 : isB l p [109, 105, 110] = false) (h4 : isB l p [109, 97, 120] = true) {i nx : Nat} (hi : i < nx) :
  RetX Tryz.prog 133 [.ptr i 0] [(i, pOb l p)] nx (PPost l i nx zex (zaU l (f + 1) p)) := by
 have hne := zaB hi
 have hp := (lGE.1 ht).1
 have hnx := zbM l p t ht hl.len
 have hll := hl.len
 have hp2 := zba hl h4
 rw [zaU, ht]
 have hh1 := fun nx' (h : nx ≤ nx') => zbc l p [116, 114, 117, 101] i nx' (by omega) hp hl.len
 have hh2 := fun nx' (h : nx ≤ nx') => zbc l p [102, 97, 108, 115, 101] i nx' (by omega) hp hl.len
 have hm1 := zdH l p [109, 105, 110] hp hl.len
 have hm2 := zdH l p [109, 97, 120] hp hl.len
 simp only [hk, h1, h2, h3, h4, if_false, if_true, Bool.false_eq_true, or_true, true_or] at hh1 hh2 hm1 hm2 ⊢
 have hw1 := fun nx' (h : nx ≤ nx') => zeu hl [40] (q := (p + 1)) (i := i) (nx := nx') (by omega) hp2
 cases hr0 : zbs l (p + 1) [[40]] with
 | stop pos e =>
  simp only [hr0] at hw1
  (refine RetX.of_bodyW Tryz.func133 rfl (by simp) fun Γ hn hpan => ?_); simp only [entry, ziC, ziN, maC, maN, oA, Tryz.ntmps133]
  repeat' (first
  | ((first | refine zaf ?_ | refine zaj ?_ | fail); simp [hne, hk, del, nAA])
  | (refine ⟨by omega, ?_⟩)
  | ((first | refine zag ?_ | refine zai ?_ | refine zat ?_ | fail); simp [hne, hk, del, nAA])
  | (refine CallP.fE (hnx) (by first | rfl | fail) (by first | simp [hne, hk, del, nAA] <;> rfl | fail) ?_; (try simp [hne, hk, del, nAA]))
  | (refine CallP.fE (hm1) (by first | rfl | fail) (by first | simp [hne, hk, del, nAA] <;> rfl | fail) ?_; (try simp [hne, hk, del, nAA]))
  | (refine CallP.fE (hm2) (by first | rfl | fail) (by first | simp [hne, hk, del, nAA] <;> rfl | fail) ?_; (try simp [hne, hk, del, nAA]))
  | (refine CallP.ok1 (hh1 _ (by first | omega | simp <;> omega | fail)) (by first | (simp [hne, hk, del, nAA, zaa, getK, zab, zac]; done) | fail) (by rfl) (by rfl) ?_; (try simp [hne, hk, del, nAA]))
  | (refine CallP.ok1 (hh2 _ (by first | omega | simp <;> omega | fail)) (by first | (simp [hne, hk, del, nAA, zaa, getK, zab, zac]; done) | fail) (by rfl) (by rfl) ?_; (try simp [hne, hk, del, nAA]))
  | (refine CallP.zd8 (hw1 _ (by first | omega | simp <;> omega | fail)) (by first | (simp [hne, hk, del, nAA, zaa, getK, zab, zac]; done) | fail) (by rfl) (by first | assumption | (simp; done) | fail) (by rfl) (by simp) ?_; rintro ob' ⟨q', rfl⟩; refine ⟨_, Wk.refl _, ?_⟩)
  | (refine zar (by first | rfl | fail) ?_; simp [hne, hk, del, nAA, frzN, frz1, zaA, zaz, St.frz, St.frzS, frzS, fv, zaE, zaY, za1, zaD, zas, zal, del, frz, za2])
  | fail)
  (refine hpan _ _ ⟨{ n := _, env := [], obs := [(i, pOb l q')], next := nx }, (Wk.cut rfl (by simp [hn]) (by simp [wkO, zaa, getK, zab, zac, Ob.under, D.under, zad, zae, hi, hne, zab, zac, zaa, getK]) (by simp [wkU, zam, zaa, getK, D.under, hi, hne, zab, zac, zaa, getK]) (by simp [wkE, zam, zaa, getK, hi, hne, zab, zac, zaa, getK])), by simp [hn], ?_⟩; try simp)
  exact PPost.zay (by simp [PR.bind, *])
 | ok v0 q0 =>
  simp only [hr0] at hw1
  obtain ⟨g0a, g0b⟩ := zaS hl _ hr0 hp2
  have ha := fun nx' (h : nx ≤ nx') => hE q0 0 i nx' (by omega) g0b (by omega) (by omega) (by omega)
  cases hr1 : zdI l f q0 0 with
  | stop pos e =>
   simp only [hr1] at ha
   (refine RetX.of_bodyW Tryz.func133 rfl (by simp) fun Γ hn hpan => ?_); simp only [entry, ziC, ziN, maC, maN, oA, Tryz.ntmps133]
   repeat' (first
  | ((first | refine zaf ?_ | refine zaj ?_ | fail); simp [hne, hk, del, nAA])
  | (refine ⟨by omega, ?_⟩)
  | ((first | refine zag ?_ | refine zai ?_ | refine zat ?_ | fail); simp [hne, hk, del, nAA])
  | (refine CallP.fE (hnx) (by first | rfl | fail) (by first | simp [hne, hk, del, nAA] <;> rfl | fail) ?_; (try simp [hne, hk, del, nAA]))
  | (refine CallP.fE (hm1) (by first | rfl | fail) (by first | simp [hne, hk, del, nAA] <;> rfl | fail) ?_; (try simp [hne, hk, del, nAA]))
  | (refine CallP.fE (hm2) (by first | rfl | fail) (by first | simp [hne, hk, del, nAA] <;> rfl | fail) ?_; (try simp [hne, hk, del, nAA]))
  | (refine CallP.ok1 (hh1 _ (by first | omega | simp <;> omega | fail)) (by first | (simp [hne, hk, del, nAA, zaa, getK, zab, zac]; done) | fail) (by rfl) (by rfl) ?_; (try simp [hne, hk, del, nAA]))
  | (refine CallP.ok1 (hh2 _ (by first | omega | simp <;> omega | fail)) (by first | (simp [hne, hk, del, nAA, zaa, getK, zab, zac]; done) | fail) (by rfl) (by rfl) ?_; (try simp [hne, hk, del, nAA]))
  | (refine CallP.ok1 (hw1 _ (by first | omega | simp <;> omega | fail)) (by first | (simp [hne, hk, del, nAA, zaa, getK, zab, zac]; done) | fail) (by rfl) (by rfl) ?_; (try simp [hne, hk, del, nAA]))
  | (refine CallP.zd8 (ha _ (by first | omega | simp <;> omega | fail)) (by first | (simp [hne, hk, del, nAA, zaa, getK, zab, zac]; done) | fail) (by rfl) (by first | assumption | (simp; done) | fail) (by rfl) (by simp) ?_; rintro ob' ⟨q', rfl⟩; refine ⟨_, Wk.refl _, ?_⟩)
  | (refine zar (by first | rfl | fail) ?_; simp [hne, hk, del, nAA, frzN, frz1, zaA, zaz, St.frz, St.frzS, frzS, fv, zaE, zaY, za1, zaD, zas, zal, del, frz, za2])
  | fail)
   (refine hpan _ _ ⟨{ n := _, env := [], obs := [(i, pOb l q')], next := nx }, (Wk.cut rfl (by simp [hn]) (by simp [wkO, zaa, getK, zab, zac, Ob.under, D.under, zad, zae, hi, hne, zab, zac, zaa, getK]) (by simp [wkU, zam, zaa, getK, D.under, hi, hne, zab, zac, zaa, getK]) (by simp [wkE, zam, zaa, getK, hi, hne, zab, zac, zaa, getK])), by simp [hn], ?_⟩; try simp)
   exact PPost.zay (by simp [PR.bind, *])
  | ok v1 q1 =>
   have ha := fun nx' h => zcL (ha nx' h) hr1
   obtain ⟨g1a, g1b⟩ := (zbV hl f).1 _ _ _ _ hr1 g0b
   have hw2 := fun nx' (h : nx ≤ nx') => zeu hl [44] (q := q1) (i := i) (nx := nx') (by omega) g1b
   cases hr2 : zbs l q1 [[44]] with
   | stop pos e =>
    simp only [hr2] at hw2
    (refine RetX.of_bodyW Tryz.func133 rfl (by simp) fun Γ hn hpan => ?_); simp only [entry, ziC, ziN, maC, maN, oA, Tryz.ntmps133]
    repeat' (first
  | ((first | refine zaf ?_ | refine zaj ?_ | fail); simp [hne, hk, del, nAA])
  | (refine ⟨by omega, ?_⟩)
  | ((first | refine zag ?_ | refine zai ?_ | refine zat ?_ | fail); simp [hne, hk, del, nAA])
  | (refine CallP.fE (hnx) (by first | rfl | fail) (by first | simp [hne, hk, del, nAA] <;> rfl | fail) ?_; (try simp [hne, hk, del, nAA]))
  | (refine CallP.fE (hm1) (by first | rfl | fail) (by first | simp [hne, hk, del, nAA] <;> rfl | fail) ?_; (try simp [hne, hk, del, nAA]))
  | (refine CallP.fE (hm2) (by first | rfl | fail) (by first | simp [hne, hk, del, nAA] <;> rfl | fail) ?_; (try simp [hne, hk, del, nAA]))
  | (refine CallP.ok1 (hh1 _ (by first | omega | simp <;> omega | fail)) (by first | (simp [hne, hk, del, nAA, zaa, getK, zab, zac]; done) | fail) (by rfl) (by rfl) ?_; (try simp [hne, hk, del, nAA]))
  | (refine CallP.ok1 (hh2 _ (by first | omega | simp <;> omega | fail)) (by first | (simp [hne, hk, del, nAA, zaa, getK, zab, zac]; done) | fail) (by rfl) (by rfl) ?_; (try simp [hne, hk, del, nAA]))
  | (refine CallP.ok1 (hw1 _ (by first | omega | simp <;> omega | fail)) (by first | (simp [hne, hk, del, nAA, zaa, getK, zab, zac]; done) | fail) (by rfl) (by rfl) ?_; (try simp [hne, hk, del, nAA]))
  | (refine CallP.ok1 (ha _ (by first | omega | simp <;> omega | fail)) (by first | (simp [hne, hk, del, nAA, zaa, getK, zab, zac]; done) | fail) (by rfl) (by rfl) ?_; (try simp [hne, hk, del, nAA]))
  | (refine CallP.zd8 (hw2 _ (by first | omega | simp <;> omega | fail)) (by first | (simp [hne, hk, del, nAA, zaa, getK, zab, zac]; done) | fail) (by rfl) (by first | assumption | (simp; done) | fail) (by rfl) (by simp) ?_; rintro ob' ⟨q', rfl⟩; refine ⟨_, Wk.refl _, ?_⟩)
  | (refine zar (by first | rfl | fail) ?_; simp [hne, hk, del, nAA, frzN, frz1, zaA, zaz, St.frz, St.frzS, frzS, fv, zaE, zaY, za1, zaD, zas, zal, del, frz, za2])
  | fail)
    (refine hpan _ _ ⟨{ n := _, env := [], obs := [(i, pOb l q')], next := nx }, (Wk.cut rfl (by simp [hn]) (by simp [wkO, zaa, getK, zab, zac, Ob.under, D.under, zad, zae, hi, hne, zab, zac, zaa, getK]) (by simp [wkU, zam, zaa, getK, D.under, hi, hne, zab, zac, zaa, getK]) (by simp [wkE, zam, zaa, getK, hi, hne, zab, zac, zaa, getK])), by simp [hn], ?_⟩; try simp)
    exact PPost.zay (by simp [PR.bind, *])
   | ok v2 q2 =>
    simp only [hr2] at hw2
    obtain ⟨g2a, g2b⟩ := zaS hl _ hr2 g1b
    have hb := fun nx' (h : nx ≤ nx') => hE q2 0 i nx' (by omega) g2b (by omega) (by omega) (by omega)
    cases hr3 : zdI l f q2 0 with
    | stop pos e =>
     simp only [hr3] at hb
     (refine RetX.of_bodyW Tryz.func133 rfl (by simp) fun Γ hn hpan => ?_); simp only [entry, ziC, ziN, maC, maN, oA, Tryz.ntmps133]
     repeat' (first
  | ((first | refine zaf ?_ | refine zaj ?_ | fail); simp [hne, hk, del, nAA])
  | (refine ⟨by omega, ?_⟩)
  | ((first | refine zag ?_ | refine zai ?_ | refine zat ?_ | fail); simp [hne, hk, del, nAA])
  | (refine CallP.fE (hnx) (by first | rfl | fail) (by first | simp [hne, hk, del, nAA] <;> rfl | fail) ?_; (try simp [hne, hk, del, nAA]))
  | (refine CallP.fE (hm1) (by first | rfl | fail) (by first | simp [hne, hk, del, nAA] <;> rfl | fail) ?_; (try simp [hne, hk, del, nAA]))
  | (refine CallP.fE (hm2) (by first | rfl | fail) (by first | simp [hne, hk, del, nAA] <;> rfl | fail) ?_; (try simp [hne, hk, del, nAA]))
  | (refine CallP.ok1 (hh1 _ (by first | omega | simp <;> omega | fail)) (by first | (simp [hne, hk, del, nAA, zaa, getK, zab, zac]; done) | fail) (by rfl) (by rfl) ?_; (try simp [hne, hk, del, nAA]))
  | (refine CallP.ok1 (hh2 _ (by first | omega | simp <;> omega | fail)) (by first | (simp [hne, hk, del, nAA, zaa, getK, zab, zac]; done) | fail) (by rfl) (by rfl) ?_; (try simp [hne, hk, del, nAA]))
  | (refine CallP.ok1 (hw1 _ (by first | omega | simp <;> omega | fail)) (by first | (simp [hne, hk, del, nAA, zaa, getK, zab, zac]; done) | fail) (by rfl) (by rfl) ?_; (try simp [hne, hk, del, nAA]))
  | (refine CallP.ok1 (ha _ (by first | omega | simp <;> omega | fail)) (by first | (simp [hne, hk, del, nAA, zaa, getK, zab, zac]; done) | fail) (by rfl) (by rfl) ?_; (try simp [hne, hk, del, nAA]))
  | (refine CallP.ok1 (hw2 _ (by first | omega | simp <;> omega | fail)) (by first | (simp [hne, hk, del, nAA, zaa, getK, zab, zac]; done) | fail) (by rfl) (by rfl) ?_; (try simp [hne, hk, del, nAA]))
  | (refine CallP.zd8 (hb _ (by first | omega | simp <;> omega | fail)) (by first | (simp [hne, hk, del, nAA, zaa, getK, zab, zac]; done) | fail) (by rfl) (by first | assumption | (simp; done) | fail) (by rfl) (by simp) ?_; rintro ob' ⟨q', rfl⟩; refine ⟨_, Wk.refl _, ?_⟩)
  | (refine zar (by first | rfl | fail) ?_; simp [hne, hk, del, nAA, frzN, frz1, zaA, zaz, St.frz, St.frzS, frzS, fv, zaE, zaY, za1, zaD, zas, zal, del, frz, za2])
  | fail)
     (refine hpan _ _ ⟨{ n := _, env := [], obs := [(i, pOb l q')], next := nx }, (Wk.cut rfl (by simp [hn]) (by simp [wkO, zaa, getK, zab, zac, Ob.under, D.under, zad, zae, hi, hne, zab, zac, zaa, getK]) (by simp [wkU, zam, zaa, getK, D.under, hi, hne, zab, zac, zaa, getK]) (by simp [wkE, zam, zaa, getK, hi, hne, zab, zac, zaa, getK])), by simp [hn], ?_⟩; try simp)
     exact PPost.zay (by simp [PR.bind, *])
    | ok v3 q3 =>
     have hb := fun nx' h => zcL (hb nx' h) hr3
     obtain ⟨g3a, g3b⟩ := (zbV hl f).1 _ _ _ _ hr3 g2b
     have hw3 := fun nx' (h : nx ≤ nx') => zeu hl [41] (q := q3) (i := i) (nx := nx') (by omega) g3b
     cases hr4 : zbs l q3 [[41]] with
     | stop pos e =>
      simp only [hr4] at hw3
      (refine RetX.of_bodyW Tryz.func133 rfl (by simp) fun Γ hn hpan => ?_); simp only [entry, ziC, ziN, maC, maN, oA, Tryz.ntmps133]
      repeat' (first
  | ((first | refine zaf ?_ | refine zaj ?_ | fail); simp [hne, hk, del, nAA])
  | (refine ⟨by omega, ?_⟩)
  | ((first | refine zag ?_ | refine zai ?_ | refine zat ?_ | fail); simp [hne, hk, del, nAA])
  | (refine CallP.fE (hnx) (by first | rfl | fail) (by first | simp [hne, hk, del, nAA] <;> rfl | fail) ?_; (try simp [hne, hk, del, nAA]))
  | (refine CallP.fE (hm1) (by first | rfl | fail) (by first | simp [hne, hk, del, nAA] <;> rfl | fail) ?_; (try simp [hne, hk, del, nAA]))
  | (refine CallP.fE (hm2) (by first | rfl | fail) (by first | simp [hne, hk, del, nAA] <;> rfl | fail) ?_; (try simp [hne, hk, del, nAA]))
  | (refine CallP.ok1 (hh1 _ (by first | omega | simp <;> omega | fail)) (by first | (simp [hne, hk, del, nAA, zaa, getK, zab, zac]; done) | fail) (by rfl) (by rfl) ?_; (try simp [hne, hk, del, nAA]))
  | (refine CallP.ok1 (hh2 _ (by first | omega | simp <;> omega | fail)) (by first | (simp [hne, hk, del, nAA, zaa, getK, zab, zac]; done) | fail) (by rfl) (by rfl) ?_; (try simp [hne, hk, del, nAA]))
  | (refine CallP.ok1 (hw1 _ (by first | omega | simp <;> omega | fail)) (by first | (simp [hne, hk, del, nAA, zaa, getK, zab, zac]; done) | fail) (by rfl) (by rfl) ?_; (try simp [hne, hk, del, nAA]))
  | (refine CallP.ok1 (ha _ (by first | omega | simp <;> omega | fail)) (by first | (simp [hne, hk, del, nAA, zaa, getK, zab, zac]; done) | fail) (by rfl) (by rfl) ?_; (try simp [hne, hk, del, nAA]))
  | (refine CallP.ok1 (hw2 _ (by first | omega | simp <;> omega | fail)) (by first | (simp [hne, hk, del, nAA, zaa, getK, zab, zac]; done) | fail) (by rfl) (by rfl) ?_; (try simp [hne, hk, del, nAA]))
  | (refine CallP.ok1 (hb _ (by first | omega | simp <;> omega | fail)) (by first | (simp [hne, hk, del, nAA, zaa, getK, zab, zac]; done) | fail) (by rfl) (by rfl) ?_; (try simp [hne, hk, del, nAA]))
  | (refine CallP.zd8 (hw3 _ (by first | omega | simp <;> omega | fail)) (by first | (simp [hne, hk, del, nAA, zaa, getK, zab, zac]; done) | fail) (by rfl) (by first | assumption | (simp; done) | fail) (by rfl) (by simp) ?_; rintro ob' ⟨q', rfl⟩; refine ⟨_, Wk.refl _, ?_⟩)
  | (refine zar (by first | rfl | fail) ?_; simp [hne, hk, del, nAA, frzN, frz1, zaA, zaz, St.frz, St.frzS, frzS, fv, zaE, zaY, za1, zaD, zas, zal, del, frz, za2])
  | fail)
      (refine hpan _ _ ⟨{ n := _, env := [], obs := [(i, pOb l q')], next := nx }, (Wk.cut rfl (by simp [hn]) (by simp [wkO, zaa, getK, zab, zac, Ob.under, D.under, zad, zae, hi, hne, zab, zac, zaa, getK]) (by simp [wkU, zam, zaa, getK, D.under, hi, hne, zab, zac, zaa, getK]) (by simp [wkE, zam, zaa, getK, hi, hne, zab, zac, zaa, getK])), by simp [hn], ?_⟩; try simp)
      exact PPost.zay (by simp [PR.bind, *])
     | ok v4 q4 =>
      simp only [hr4] at hw3
      obtain ⟨g4a, g4b⟩ := zaS hl _ hr4 g3b
      (refine RetX.of_bodyW Tryz.func133 rfl (by simp) fun Γ hn hpan => ?_); simp only [entry, ziC, ziN, maC, maN, oA, Tryz.ntmps133]
      repeat' (first
  | ((first | refine zaf ?_ | refine zaj ?_ | fail); simp [hne, hk, del, nAA])
  | (refine ⟨by omega, ?_⟩)
  | ((first | refine zag ?_ | refine zai ?_ | refine zat ?_ | fail); simp [hne, hk, del, nAA])
  | (refine zaq ?_; simp only [zao])
  | (refine CallP.fE (hnx) (by first | rfl | fail) (by first | simp [hne, hk, del, nAA] <;> rfl | fail) ?_; (try simp [hne, hk, del, nAA]))
  | (refine CallP.fE (hm1) (by first | rfl | fail) (by first | simp [hne, hk, del, nAA] <;> rfl | fail) ?_; (try simp [hne, hk, del, nAA]))
  | (refine CallP.fE (hm2) (by first | rfl | fail) (by first | simp [hne, hk, del, nAA] <;> rfl | fail) ?_; (try simp [hne, hk, del, nAA]))
  | (refine CallP.ok1 (hh1 _ (by first | omega | simp <;> omega | fail)) (by first | (simp [hne, hk, del, nAA, zaa, getK, zab, zac]; done) | fail) (by rfl) (by rfl) ?_; (try simp [hne, hk, del, nAA]))
  | (refine CallP.ok1 (hh2 _ (by first | omega | simp <;> omega | fail)) (by first | (simp [hne, hk, del, nAA, zaa, getK, zab, zac]; done) | fail) (by rfl) (by rfl) ?_; (try simp [hne, hk, del, nAA]))
  | (refine CallP.ok1 (hw1 _ (by first | omega | simp <;> omega | fail)) (by first | (simp [hne, hk, del, nAA, zaa, getK, zab, zac]; done) | fail) (by rfl) (by rfl) ?_; (try simp [hne, hk, del, nAA]))
  | (refine CallP.ok1 (ha _ (by first | omega | simp <;> omega | fail)) (by first | (simp [hne, hk, del, nAA, zaa, getK, zab, zac]; done) | fail) (by rfl) (by rfl) ?_; (try simp [hne, hk, del, nAA]))
  | (refine CallP.ok1 (hw2 _ (by first | omega | simp <;> omega | fail)) (by first | (simp [hne, hk, del, nAA, zaa, getK, zab, zac]; done) | fail) (by rfl) (by rfl) ?_; (try simp [hne, hk, del, nAA]))
  | (refine CallP.ok1 (hb _ (by first | omega | simp <;> omega | fail)) (by first | (simp [hne, hk, del, nAA, zaa, getK, zab, zac]; done) | fail) (by rfl) (by rfl) ?_; (try simp [hne, hk, del, nAA]))
  | (refine CallP.ok1 (hw3 _ (by first | omega | simp <;> omega | fail)) (by first | (simp [hne, hk, del, nAA, zaa, getK, zab, zac]; done) | fail) (by rfl) (by rfl) ?_; (try simp [hne, hk, del, nAA]))
  | (refine zar (by first | rfl | fail) ?_; simp [hne, hk, del, nAA, frzN, frz1, zaA, zaz, St.frz, St.frzS, frzS, fv, zaE, zaY, za1, zaD, zas, zal, del, frz, za2])
  | fail)
      (refine EndW.frzN 1 ?_; simp [frzN, frz1, zaA, zaz, St.frz, St.frzS, frzS, fv, zaE, zaY, za1, zaD, zas, zal, del, frz, za2, hne, nAA])
      refine EndW.norm ?_
      simp [St.norm, zbh, zbZ, zcj, zck, hne, nAA]
      (refine EndW.here ?_; (first | (refine EndOK.fin (.inr rfl) ?_) | (refine EndOK.fin (.inl rfl) ?_)); simp [zaJ, zah, Tryz.results133, hne, hi]; refine FinOK.cut [(i, pOb l q4)] (nx) (by simp [zaa, getK, zab, zac, Ob.under, D.under, zad, zae, hne, hi] <;> omega) (by simp [D.under]) (by simp [hn]) ?_; try simp)
      exact PPost.zcf (by simp [PR.bind, *]; rfl) (by simp [Exp.row_eq, Exp.op, Exp.n, Exp.unit, Exp.s, Exp.args]) rfl
end Go.Proofs.YthnemhfamhnfjaaGreatDoor
