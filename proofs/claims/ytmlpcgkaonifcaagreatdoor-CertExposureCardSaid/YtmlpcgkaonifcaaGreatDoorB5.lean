import Derived.Test.YtmlpcgkaonifcaaGreatDoorB4
import Derived.Lib.ItoaNum
set_option linter.all false
set_option maxRecDepth 100000
set_option maxHeartbeats 8000000
namespace Go.Proofs.YtmlpcgkaonifcaaGreatDoor
open Go Go.VL
attribute [local simp] zbw zc2 zcq evPure opd uOf zay St.put St.at getK binD binI binS binB nilD aggD zfJ zge lookD lookR zcn rangeS Go.VL.nextD Go.VL.nextS zcr zgk zgh zfs zcv mkV zbi zaT zaS zaR zc0 zaP zba zbs mapEff zdE zfp Key.kk shiftI arith unD convD zdu loadD cellsAt fieldAddrD fieldD indexAddrD indexSlD arrAddr indexD sliceD cutD lenD minmaxD nilCheckD buildD fillD zb0 zc7 zeD setAll zcW zef zck zfv zcj St.add zaw zbB rowsOf zdg zcw zad zac zaa zbz zda za3 entry zbO zbT valD zcm zcB zfw zdb zdc zb4 zbP zam zaW zbj delAll effD St.effS zcF zaU zaH zcG zaV zaJ zbY zaI zaA zbZ zcD zbv zbX za9 zbV zbW zar mkD zcl zbG zbK zam zcu D.ids Op.operands Call.operands zbH makeIfD makeFuncD typeAssertD zgd zdm zdn zf8 zco IntKind.bits zct zaz List.take_of_length_le List.range_succ zcO zcf zcP zcK zbD zb6 zb8 zcL zca zbe zb9 zb7 zhc zce zcM zaZ zaL zcN za0 zaN zcd zaM zaF zcS zcT zha zab frzN frz1 zav zau St.frz St.frzS frzS fv za1 zbm zbn frzObS zat zan frz zbL zbq zbr zbN zb5 zcc za7 St.norm St.lp St.only zax wkE wkO wkU Ob.under D.under zaj zak zcQ zcg zcR h4s zea zaC zbC List.zipIdx_cons List.zipIdx_nil zzC zzD Nat.zero_add
attribute [local irreducible] V G H HD HD2 zbf Eff CallP CallV EndOK Fun Ret FinOK LoopI LoopW EndW HR vs2 RN Cnd H4
theorem zeS (g : GM) (m : LM) : ∀ (d : Nat) (e : Exp), zbg d e = true -> Fun Tryz.prog 147 [.u (jU g m), zdo e] (· = .u (.bool (zgi (sF m) e)))
 | 0, e, h => by simp [zbg] at h
 | d + 1, e, h => by
  obtain ⟨h1, h2, h3, h4⟩ := zdT h;rw [zqo];have hm := zuC m e.s;by_cases h0 : e.op = 0
  ·rw [if_pos h0];refine Fun.run Tryz.func147 Tryz.ntmps147 Tryz.results147 rfl (by simp) fun Γ hn => ?_; simp only [zzE, zzC, zzD];simp only [zdo, jU]
   repeat' (first
  | (refine zaf rfl ?_; simp [h0])
  | fail)
   (refine Pst.of ?_; simp)
  rw [if_neg h0];by_cases hnm : e.op = 1
  ·rw [if_pos hnm];cases hma : asc m e.s with
   | some q =>
    rw [hma] at hm;simp only [Option.map_some] at hm;refine Fun.run Tryz.func147 Tryz.ntmps147 Tryz.results147 rfl (by simp) fun Γ hn => ?_; simp only [zzE, zzC, zzD];simp only [zdo, jU]
    repeat' (first
  | (refine zaf rfl ?_; simp [h0, hnm, hm])
  | (refine ⟨hC _ (by kernel_rfl), hk _ (zdH 8 _ _ _ ?_)⟩; clear hC hk C k; simp [h0, hnm, hm])
  | (refine zdx rfl (by kernel_rfl) (by first | (simp [hn] <;> omega) | fail) fun C k hC hk => ?_; simp [h0, hnm, hm])
  | fail)
    (refine Pst.of ?_; simp)
    simp [sF, hma]
   | none =>
    rw [hma] at hm;simp only [Option.map_none] at hm;refine Fun.run Tryz.func147 Tryz.ntmps147 Tryz.results147 rfl (by simp) fun Γ hn => ?_; simp only [zzE, zzC, zzD];simp only [zdo, jU]
    repeat' (first
  | (refine zaf rfl ?_; simp [h0, hnm, hm])
  | (refine ⟨hC _ (by kernel_rfl), hk _ (zdH 8 _ _ _ ?_)⟩; clear hC hk C k; simp [h0, hnm, hm])
  | (refine zdx rfl (by kernel_rfl) (by first | (simp [hn] <;> omega) | fail) fun C k hC hk => ?_; simp [h0, hnm, hm])
  | fail)
    (refine Pst.of ?_; simp)
    simp [sF, hma]
  rw [if_neg hnm];have hr := h4 h0 hnm;by_cases hA : e.op = 2 \/ e.op = 3 \/ e.op = 6 \/ e.op = 7
  ·rw [if_pos hA];have hl : e.args.length = 2 := by
    rcases hA with ha | ha | ha | ha <;> rw [ha] at h1 <;> simp [zbU] at h1 <;> omega
   obtain ⟨a, b, hab⟩ : ∃ a b, e.args = [a, b] := by
    match hq : e.args, hl with
    | [a, b], _ => exact ⟨a, b, rfl⟩
   have h5 := zeS g m d a (hr a (by simp [hab]));simp only [zdo, jU] at h5;rw [hab, zek];rcases hA with ha | ha | ha | ha
   all_goals
    refine Fun.run Tryz.func147 Tryz.ntmps147 Tryz.results147 rfl (by simp) fun Γ hn => ?_; simp only [zzE, zzC, zzD];simp only [zdo, jU]
    repeat' (first
  | (refine zaf rfl ?_; simp [ha, hab, a.row_eq, b.row_eq])
  | (refine CallP.f2 rfl (h5) (by first | simp [ha, hab, a.row_eq, b.row_eq] <;> rfl | fail) ?_; simp [ha, hab, a.row_eq, b.row_eq])
  | fail)
    (refine Pst.of ?_; simp)
  rw [if_neg hA];by_cases hB : e.op = 4
  ·rw [if_pos hB];have hl : e.args.length = 2 := by rw [hB] at h1; simp [zbU] at h1; omega
   obtain ⟨a, b, hab⟩ : ∃ a b, e.args = [a, b] := by
    match hq : e.args, hl with
    | [a, b], _ => exact ⟨a, b, rfl⟩
   have h5 := zeS g m d a (hr a (by simp [hab]));have h6 := zeS g m d b (hr b (by simp [hab]));simp only [zdo, jU] at h5 h6;rw [hab, zek, zek, zek];generalize zgi (sF m) a = x1 at h5 ⊢;generalize zgi (sF m) b = x2 at h6 ⊢;refine Fun.run Tryz.func147 Tryz.ntmps147 Tryz.results147 rfl (by simp) fun Γ hn => ?_; simp only [zzE, zzC, zzD];simp only [zdo, jU]
   repeat' (first
  | (refine Cnd.of (fun hc => ?_) (fun hc => ?_) <;> (try (exfalso; omega)) <;> (try simp [hB, hab, a.row_eq, b.row_eq]))
  | (refine zaf rfl ?_; simp [hB, hab, a.row_eq, b.row_eq])
  | ((first | refine CallP.f2 rfl (h5) (by first | simp [hB, hab, a.row_eq, b.row_eq] <;> rfl | fail) ?_ | refine CallP.f2 rfl (h6) (by first | simp [hB, hab, a.row_eq, b.row_eq] <;> rfl | fail) ?_ | fail); simp [hB, hab, a.row_eq, b.row_eq])
  | fail)
   all_goals
    (refine Pst.of ?_; simp)
   all_goals (simp_all; done)
  rw [if_neg hB];by_cases hC : e.op = 13
  ·rw [if_pos hC];have hl : e.args.length = 3 := by rw [hC] at h1; simp [zbU] at h1; omega
   obtain ⟨a, b, c, hab⟩ : ∃ a b c, e.args = [a, b, c] := by
    match hq : e.args, hl with
    | [a, b, c], _ => exact ⟨a, b, c, rfl⟩
   have h5 := zeS g m d b (hr b (by simp [hab]));simp only [zdo, jU] at h5;rw [hab, zek, zek];refine Fun.run Tryz.func147 Tryz.ntmps147 Tryz.results147 rfl (by simp) fun Γ hn => ?_; simp only [zzE, zzC, zzD];simp only [zdo, jU]
   repeat' (first
  | (refine zaf rfl ?_; simp [hC, hab, a.row_eq, b.row_eq, c.row_eq])
  | (refine CallP.f2 rfl (h5) (by first | simp [hC, hab, a.row_eq, b.row_eq, c.row_eq] <;> rfl | fail) ?_; simp [hC, hab, a.row_eq, b.row_eq, c.row_eq])
  | fail)
   (refine Pst.of ?_; simp)
  rw [if_neg hC];have hD : ¬ e.op = 2 /\ ¬ e.op = 3 /\ ¬ e.op = 6 /\ ¬ e.op = 7 := by omega
  refine Fun.run Tryz.func147 Tryz.ntmps147 Tryz.results147 rfl (by simp) fun Γ hn => ?_; simp only [zzE, zzC, zzD];simp only [zdo, jU]
  repeat' (first
  | (refine zaf rfl ?_; simp [h0, hnm, hB, hC, hD.1, hD.2.1, hD.2.2.1, hD.2.2.2])
  | fail)
  (refine Pst.of ?_; simp)
theorem zvd (l : Let) : Fun Tryz.prog 149 (ztq l :: [].map .u) (· = .u (.bool (!zbg 12 l.body))) := by
 have h1 := zd6 l.body;simp only [ztq, zzD, zdo] at h1 ⊢;refine Fun.run Tryz.func149 Tryz.ntmps149 Tryz.results149 rfl (by simp) fun Γ hn => ?_
 repeat' (first
  | (refine zaf rfl ?_; simp)
  | (refine CallP.f2 rfl (h1) (by first | simp <;> rfl | fail) ?_; simp)
  | fail)
 (refine Pst.of ?_; simp)
def zdS (l : List Var) : U := .sl (l.map fun v => [.str v.name, .int .i64 v.unit, .int .i64 v.n])
def gOf (names : List Var) : GM := names.foldl (fun g v => if asc g v.name = none then zey g v.name v.unit else g) []
def mOf (g : GM) (lets : List Let) : LM := lets.foldl (fun m l => zey m l.name ((ze9 (gF g) (mF m) l.body).1, (ze9 (gF g) (mF m) l.body).2, zgi (sF m) l.body)) []
def zig (v : Var) : Bool := decide (0 <= v.unit) && decide (v.unit < 5)
def zdK (lets : List Let) (e : Exp) : Bool := decide (lets.length <= 20) && zbg 12 e && !lets.any (fun l => !zbg 12 l.body)
def okJ (lets : List Let) (names : List Var) (e : Exp) : Bool := zdK lets e && names.all zig
def zrn (lets : List Let) (names : List Var) (e : Exp) : D := if okJ lets names e = true then .tup [.u (jU (gOf names) (mOf (gOf names) lets)), .u (.bool true)] else .tup [.u (.oth (.pointer none)), .u (.bool false)]
theorem zk5 (g : GM) (x : List UInt8) (u : Int) : zdE (zrx g) (.s x) [U.int .i64 u] = zrx (zey g x u) := zki (fun u : Int => [U.int .i64 u]) x u g
theorem zhR (g : LM) (x : List UInt8) (u e : Int) (b : Bool) : zdE (zwh g) (.s x) [U.int .i64 u, .int .i64 e, .bool b] = zwh (zey g x (u, e, b)) := zki (fun q : Int × Int × Bool => [U.int .i64 q.1, .int .i64 q.2.1, .bool q.2.2]) x (u, e, b) g
theorem zhx {α β : Type} (f : β -> α -> β) (b : β) {l : List α} {i : Nat} {x : α} (h : l[i]? = some x) : (l.take (i + 1)).foldl f b = f ((l.take i).foldl f b) x := by
 obtain ⟨hi, rfl⟩ := List.getElem?_eq_some_iff.1 h;rw [List.take_succ_eq_append_getElem hi, List.foldl_append];rfl
theorem ztC {names : List Var} {i : Nat} {v : Var} (h : names[i]? = some v) : gOf (names.take (i + 1)) = if asc (gOf (names.take i)) v.name = none then zey (gOf (names.take i)) v.name v.unit else gOf (names.take i) := zhx _ _ h
theorem zte {g : GM} {lets : List Let} {i : Nat} {l : Let} (h : lets[i]? = some l) : mOf g (lets.take (i + 1)) = zey (mOf g (lets.take i)) l.name ((ze9 (gF g) (mF (mOf g (lets.take i))) l.body).1, (ze9 (gF g) (mF (mOf g (lets.take i))) l.body).2, zgi (sF (mOf g (lets.take i))) l.body) := zhx _ _ h
theorem zrm (lets : List Let) (names : List Var) (e : Exp) : Fun Tryz.prog 146 [.u (zaQ lets), .u (zdS names), zdo e] (· = zrn lets names e) := by
 have h1 := zd6 e;have h2 := zfk lets 149 [] _ (fun x _ => zvd x) (by simp) (fun _ => rfl) (fun _ => rfl);simp only [zzD, zaQ, zdo] at h1 h2;generalize hre : zbg 12 e = re at h1;generalize hrl : (lets.any fun l => !zbg 12 l.body) = rl at h2;have hok0 : okJ lets names e = (decide (lets.length <= 20) && re && !rl && names.all zig) := by rw [okJ, zdK, hre, hrl]
 have hre' := hre;have hrl' := hrl;clear hre hrl;unfold zrn;generalize okJ lets names e = K at hok0 ⊢;refine Fun.runW Tryz.func146 Tryz.ntmps146 rfl (by simp) fun Γ hn => ?_; simp only [zzE, zzC, zzD];simp only [zdo, zaQ, zdS];refine zhK (x := 0) rfl fun hl0 => ?_;refine zhK (x := 1) rfl fun hl1 => ?_;simp only [List.length_map] at hl0 hl1
 repeat' (first
  | (refine Cnd.of (fun hc => ?_) (fun hc => ?_) <;> (try (exfalso; omega)) <;> (try simp))
  | (refine zaf rfl ?_; simp)
  | ((first | refine CallP.f2 rfl (h1) (by first | simp <;> rfl | fail) ?_ | refine CallP.f2 rfl (h2) (by first | simp <;> rfl | fail) ?_ | fail); simp)
  | fail)
 all_goals try (refine EndW.here ?_; have hKf : K = false := (by first | (rw [hok0]; clear h1 h2 hok0 hre' hrl'; simp; intros; simp_all; done) | (rw [hok0]; clear h1 h2 hok0 hre' hrl'; simp; intros; omega) | fail); subst hKf; (refine EndOK.val (.inr rfl) ?_; simp [Tryz.results146]); done)
 refine zbS (α := { i : Nat // i <= names.length /\ ∀ v ∈ names.take i, zig v = true }) [0, 8, 33, 34] (fun i => [(35, .u (.int .i64 i.1))])
  (fun i => [(3, .box [.mp 1, .mp 2]), (2, .map .s true []), (1, .map .s false (zj3 (zrx (gOf (names.take i.1))))), (0, .box [.u (.int .i64 e.op), .u (.int .i64 e.n), .u (.int .i64 e.unit), .u (.str e.s), .u (.sl (e.args.map Exp.row))])]) 4
  (fun i => names.length - i.1) ⟨0, by omega, by simp⟩ ?_ ?_
 ·exact (Wk.zdw (by simp [hn, gOf, zrx, zbi, Ob.under] <;> grind))
 rintro ⟨i, hi, hb⟩;simp;rcases hx : names[i]? with _ | v
 ·have hge : names.length <= i := by simpa using hx
  obtain rfl : i = names.length := by omega
  rw [List.take_length] at hb;have hall : names.all zig = true := by simpa [List.all_eq_true] using hb
  repeat' (first
  | (refine zaf rfl ?_; simp [hx])
  | fail)
  refine zbS (α := { i : Nat // i <= lets.length }) [8, 68, 69] (fun i => [(70, .u (.int .i64 i.1))])
   (fun i => [(3, .box [.mp 1, .mp 2]), (2, .map .s true (zj3 (zwh (mOf (gOf names) (lets.take i.1))))), (1, .map .s false (zj3 (zrx (gOf names)))), (0, .box [.u (.int .i64 e.op), .u (.int .i64 e.n), .u (.int .i64 e.unit), .u (.str e.s), .u (.sl (e.args.map Exp.row))])]) 4
   (fun i => lets.length - i.1) ⟨0, by omega⟩ ?_ ?_
  ·exact (Wk.zdw (by simp [hn, mOf, zwh, zbi, Ob.under] <;> grind))
  rintro ⟨k, hk0⟩;simp;rcases hy : lets[k]? with _ | l
  ·have hgk : lets.length <= k := by simpa using hy
   obtain rfl : k = lets.length := by omega
   obtain rfl : K = true := by
    rw [hok0, hall];have : lets.length <= 20 := by omega
    clear h1 h2;simp_all
   repeat' (first
  | (refine zaf rfl ?_; simp [hy])
  | fail)
   (refine EndW.frzN 2 ?_; simp [del])
   (refine EndW.frzB 3 ?_; simp [frzB, zav, zau, St.frzS, frzS, fv, za1, zbm, zbn, frzObS, zat, zan, del])
   refine EndW.here ?_
   (refine EndOK.val (.inr rfl) ?_; simp [Tryz.results146])
   rfl
  ·have hltk : k < lets.length := (List.getElem?_eq_some_iff.1 hy).1;have hsu := zte (g := gOf names) hy;have hrl : zbg 12 l.body = true := by
    have h7 : (lets.any fun l => !zbg 12 l.body) = false := by rw [hrl']; assumption
    rw [List.any_eq_false] at h7;simpa using h7 l (List.mem_of_getElem? hy)
   have h5 := znD (gOf names) (mOf (gOf names) (lets.take k)) 12 l.body hrl;have h6 := zeS (gOf names) (mOf (gOf names) (lets.take k)) 12 l.body hrl;simp only [zdo, jU] at h5 h6
   repeat' (first
  | (refine Cnd.of (fun hc => ?_) (fun hc => ?_) <;> (try (exfalso; omega)) <;> (try simp [hy, zhR]))
  | (refine zaf rfl ?_; simp [hy, zhR])
  | (refine And.intro (by omega) ?_)
  | (refine ⟨hC _ (by kernel_rfl), hk _ (zdH 8 _ _ _ ?_)⟩; clear hC hk C k; simp [hy, zhR])
  | (refine zdx rfl (by kernel_rfl) (by first | (simp [hn] <;> omega) | fail) fun C k hC hk => ?_; simp [hy, zhR])
  | (refine zcA rfl ?_; simp [hy, zhR])
  | (refine zbQ rfl ?_; simp [hy, zhR])
  | ((first | refine CallP.f2 rfl (h5) (by first | simp [hy, zhR] <;> rfl | fail) ?_ | refine CallP.f2 rfl (h6) (by first | simp [hy, zhR] <;> rfl | fail) ?_ | fail); simp [hy, zhR])
  | ((first | refine CallV.f2 rfl (h5) (by first | simp [hy, zhR] <;> rfl | fail) ?_ | refine CallV.f2 rfl (h6) (by first | simp [hy, zhR] <;> rfl | fail) ?_ | fail); simp [hy, zhR])
  | fail)
   refine LoopW.next ⟨k + 1, by omega⟩ (by simp; omega) ?_
   exact (Wk.zdw (by simp [hn, hsu] <;> grind))
 ·have hlt : i < names.length := (List.getElem?_eq_some_iff.1 hx).1;have hg := znZ (gOf (names.take i)) v.name;have hsu := ztC hx;have hok : zig v = (decide (0 <= v.unit) && decide (v.unit < 5)) := rfl;have hbad : zig v = false -> names.all zig = false := fun h => by
   rw [List.all_eq_false];exact ⟨v, List.mem_of_getElem? hx, by simp [h]⟩
  cases hga : asc (gOf (names.take i)) v.name with
  | some u =>
   rw [hga] at hg hsu;simp only [Option.map_some] at hg
   repeat' (first
  | (refine Cnd.of (fun hc => ?_) (fun hc => ?_) <;> (try (exfalso; omega)) <;> (try simp [hx, hg]))
  | (refine zaf rfl ?_; simp [hx, hg])
  | (refine And.intro (by omega) ?_)
  | (refine ⟨hC _ (by kernel_rfl), hk _ (zdH 8 _ _ _ ?_)⟩; clear hC hk C k; simp [hx, hg])
  | (refine zdx rfl (by kernel_rfl) (by first | (simp [hn] <;> omega) | fail) fun C k hC hk => ?_; simp [hx, hg])
  | fail)
   all_goals first
    | (refine LoopW.next ⟨i + 1, by omega, zbh hx hb (by rw [hok]; simp; omega)⟩ (by simp; omega) ?_; exact (Wk.zdw (by simp [hn, hsu] <;> grind)))
    | (refine EndW.here ?_; have hKf : K = false := (by first | (rw [hok0, hbad (by rw [hok]; simp; omega)]; simp; done) | fail); subst hKf; (refine EndOK.val (.inr rfl) ?_; simp [Tryz.results146]))
  | none =>
   rw [hga] at hg hsu;simp only [Option.map_none] at hg
   repeat' (first
  | (refine Cnd.of (fun hc => ?_) (fun hc => ?_) <;> (try (exfalso; omega)) <;> (try simp [hx, hg, zk5]))
  | (refine zaf rfl ?_; simp [hx, hg, zk5])
  | (refine And.intro (by omega) ?_)
  | (refine ⟨hC _ (by kernel_rfl), hk _ (zdH 8 _ _ _ ?_)⟩; clear hC hk C k; simp [hx, hg, zk5])
  | (refine zdx rfl (by kernel_rfl) (by first | (simp [hn] <;> omega) | fail) fun C k hC hk => ?_; simp [hx, hg, zk5])
  | fail)
   all_goals first
    | (refine LoopW.next ⟨i + 1, by omega, zbh hx hb (by rw [hok]; simp; omega)⟩ (by simp; omega) ?_; exact (Wk.zdw (by simp [hn, hsu] <;> grind)))
    | (refine EndW.here ?_; have hKf : K = false := (by first | (rw [hok0, hbad (by rw [hok]; simp; omega)]; simp; done) | fail); subst hKf; (refine EndOK.val (.inr rfl) ?_; simp [Tryz.results146]))
theorem zse (c : UInt8) : Fun Tryz.prog 113 [.u (.int .u8 c.toNat)] (· = .u (.bool (zc1 c))) := by
 unfold zc1;refine Fun.run Tryz.func113 Tryz.ntmps113 Tryz.results113 rfl (by simp) fun Γ hn => ?_
 repeat' (first
  | (refine Cnd.of (fun hc => ?_) (fun hc => ?_) <;> (try (exfalso; omega)) <;> (try simp))
  | (refine zaf rfl ?_; simp)
  | fail)
 all_goals
  (refine Pst.of ?_; simp)
 all_goals first | omega | (rw [Bool.eq_iff_iff]; simp; omega) | (simp; omega)
theorem zqU (c : UInt8) : Fun Tryz.prog 133 [.u (.int .u8 c.toNat)] (· = .u (.bool (zdW c))) := by
 unfold zdW;refine Fun.run Tryz.func133 Tryz.ntmps133 Tryz.results133 rfl (by simp) fun Γ hn => ?_
 repeat' (first
  | (refine Cnd.of (fun hc => ?_) (fun hc => ?_) <;> (try (exfalso; omega)) <;> (try simp))
  | (refine zaf rfl ?_; simp)
  | ((first | refine CallP.f2 rfl (zeZ c) (by first | simp <;> rfl | fail) ?_ | refine CallP.f2 rfl (zfN c) (by first | simp <;> rfl | fail) ?_ | fail); simp)
  | fail)
 all_goals
  (refine Pst.of ?_; simp)
 all_goals simp_all
theorem zeG (p : UInt8 -> Bool) (l : List UInt8) : zdt p l <= l.length := by
 unfold zdt;exact (List.takeWhile_sublist p).length_le
theorem zqi {p : UInt8 -> Bool} {l : List UInt8} (h : zdt p l = l.length) : ∀ c ∈ l, p c = true := by
 have : l.takeWhile p = l := (List.takeWhile_sublist p).eq_of_length h;intro c hc;rw [<- this] at hc;exact List.all_eq_true.1 (List.all_takeWhile (l := l) (p := p)) c hc
theorem zoT (s : List UInt8) (hl : s.length <= 1000000) : Fun Tryz.prog 134 [.u (.str s)] (· = .tup [.u (.int .i64 ((zho s).getD 0)), .u (.bool (zho s).isSome)]) := by
 have hsp := zgK s hl 75 zb2 (fun c _ => zfN c) (by simp);unfold zho;cases s with
 | nil =>
  refine Fun.run Tryz.func134 Tryz.ntmps134 Tryz.results134 rfl (by simp) fun Γ hn => ?_
  repeat' (first
  | (refine zaf rfl ?_; simp)
  | fail)
  all_goals
   (refine Pst.of ?_; simp)
 | cons c s =>
  by_cases h1 : zdt zb2 (c :: s) = (c :: s).length
  case neg =>
   rw [if_pos (.inr (.inl h1))];have h1' : ¬ (zdt zb2 (c :: s) : Int) = s.length + 1 := by simp at h1; omega
   refine Fun.run Tryz.func134 Tryz.ntmps134 Tryz.results134 rfl (by simp) fun Γ hn => ?_
   repeat' (first
  | (refine zaf rfl ?_; simp [h1'])
  | (refine CallP.f2 rfl (hsp) (by first | simp [h1'] <;> rfl | fail) ?_; simp [h1'])
  | fail)
   all_goals
    (refine Pst.of ?_; simp)
  have h1' : (zdt zb2 (c :: s) : Int) = s.length + 1 := by simp at h1; omega
  by_cases h2 : c.toNat = 48 /\ s ≠ []
  ·rw [if_pos (.inr (.inr (.inl ⟨by have := h2.1; simp; exact UInt8.toNat_inj.1 this, by simp; intro _; exact h2.2⟩)))];have h2b := h2.1;have h2a := h2.2;refine Fun.run Tryz.func134 Tryz.ntmps134 Tryz.results134 rfl (by simp) fun Γ hn => ?_
   repeat' (first
  | (refine zaf rfl ?_; simp [h1', h2a, h2b])
  | (refine CallP.f2 rfl (hsp) (by first | simp [h1', h2a, h2b] <;> rfl | fail) ?_; simp [h1', h2a, h2b])
  | fail)
   all_goals
    (refine Pst.of ?_; simp)
  have h2' : c.toNat = 48 -> s = [] := fun h => by
   by_cases hs : s = []
   ·exact hs
   ·exact absurd ⟨h, hs⟩ h2
  by_cases h3 : 13 < (c :: s).length
  ·rw [if_pos (.inr (.inr (.inr h3)))];have h3' : 13 < (s.length : Int) + 1 := by simp at h3; omega
   have hne : s ≠ [] := fun e => by rw [e] at h3; simp at h3
   have h2'' : ¬ c.toNat = 48 := fun h => hne (h2' h);refine Fun.run Tryz.func134 Tryz.ntmps134 Tryz.results134 rfl (by simp) fun Γ hn => ?_
   repeat' (first
  | (refine Cnd.of (fun hc => ?_) (fun hc => ?_) <;> (try (exfalso; omega)) <;> (try simp [h1', h2'', h3']))
  | (refine zaf rfl ?_; simp [h1', h2'', h3'])
  | (refine CallP.f2 rfl (hsp) (by first | simp [h1', h2'', h3'] <;> rfl | fail) ?_; simp [h1', h2'', h3'])
  | fail)
   all_goals
    (refine Pst.of ?_; simp)
  have hall := zqi h1;rw [if_neg (by
   simp only [not_or];refine ⟨by simp, fun h => h h1, fun h => ?_, h3⟩;have hc48 : c = 48 := by have := h.1; simpa using this
   have := h2' (by rw [hc48]; rfl);rw [this, hc48] at h;exact h.2 rfl)]
  have h3' : ¬ 13 < (s.length : Int) + 1 := by simp at h3; omega
  have hval : ∀ k, k <= (c :: s).length -> 0 <= zcs ((c :: s).take k) /\ zcs ((c :: s).take k) < 10 ^ 13 := fun k hk => by
   have h4 := zg0 k ((c :: s).take k) (by simp; simp at hk; omega) (fun x hx => hall x (List.mem_of_mem_take hx));have : (10 : Int) ^ k <= 10 ^ 13 := by
    have := Nat.pow_le_pow_right (n := 10) (by omega) (show k <= 13 by simp at h3 hk; omega)
    exact_mod_cast this
   omega
  have hloop : ∀ (hw : c.toNat = 48 -> s = []), Fun Tryz.prog 134 [.u (.str (c :: s))] (· = .tup [.u (.int .i64 ((if 1099511627776 < zcs (c :: s) then none else some (zcs (c :: s)) : Option Int).getD 0)), .u (.bool (if 1099511627776 < zcs (c :: s) then none else some (zcs (c :: s)) : Option Int).isSome)]) := fun hw => by
   by_cases h48 : c.toNat = 48
   ·have h48' : (c.toNat : Int) = 48 := by omega
    have hc48 : (c = 48) = True := eq_true (UInt8.toNat_inj.1 h48);have hs0 : (s = []) = True := eq_true (hw h48);refine Fun.run Tryz.func134 Tryz.ntmps134 Tryz.results134 rfl (by simp) fun Γ hn => ?_
    repeat' (first
  | (refine zaf rfl ?_; simp [h1', h3', h48', hc48, hs0])
  | (refine CallP.f2 rfl (hsp) (by first | simp [h1', h3', h48', hc48, hs0] <;> rfl | fail) ?_; simp [h1', h3', h48', hc48, hs0])
  | fail)
    refine zdd (α := { i : Nat // i <= (c :: s).length }) [0, 30] (fun i => [(4, .u (.int .i64 (zcs ((c :: s).take i.1)))), (31, .u (.int .i64 i.1))]) (fun i => (c :: s).length - i.1) ⟨0, by omega⟩ ?_ ?_
    ·exact (Wk.zdw (by simp [hn, zcs] <;> grind))
    rintro ⟨i, hi⟩;simp;rcases hx : (c :: s)[i]? with _ | a
    ·have hge : (c :: s).length <= i := by simpa using hx
     obtain rfl : i = (c :: s).length := by omega
     rw [List.take_length];have hge2 : ¬ ((c :: s).length : Int) < s.length + 1 := by simp
     by_cases hb : 1099511627776 < zcs (c :: s)
     ·repeat' (first
  | (refine zaf rfl ?_; simp [hb, hge2])
  | fail)
      (refine Pst.of ?_; simp)
      try simp [hb]
     ·repeat' (first
  | (refine zaf rfl ?_; simp [hb, hge2])
  | fail)
      (refine Pst.of ?_; simp)
      try simp [hb]
    ·have hlt : i < (c :: s).length := (List.getElem?_eq_some_iff.1 hx).1;have hlt2 : (i : Int) < s.length + 1 := by simp at hlt; omega
     have hd := hall a (List.mem_of_getElem? hx);simp only [zb2, Bool.and_eq_true, decide_eq_true_eq] at hd;have hv := hval i hi;have hv2 := hval (i + 1) hlt;have hsn : zcs ((c :: s).take (i + 1)) = 10 * zcs ((c :: s).take i) + ((a.toNat : Int) - 48) := by
      rw [List.take_succ, hx]; exact zfM _ _
     generalize zcs ((c :: s).take i) = dv at hv hsn;have hsn2 := hsn.symm
     repeat' (first
  | (refine zaf rfl ?_; simp [hx, hlt2, hsn2])
  | (refine And.intro (by omega) ?_)
  | fail)
     refine LoopW.next ⟨i + 1, hlt⟩ (by simp at hlt; simp; omega) ?_
     exact (Wk.zdw (by simp [hn, hsn] <;> grind))
   ·refine Fun.run Tryz.func134 Tryz.ntmps134 Tryz.results134 rfl (by simp) fun Γ hn => ?_
    repeat' (first
  | (refine Cnd.of (fun hc => ?_) (fun hc => ?_) <;> (try (exfalso; omega)) <;> (try simp [h1', h3', h48]))
  | (refine zaf rfl ?_; simp [h1', h3', h48])
  | (refine CallP.f2 rfl (hsp) (by first | simp [h1', h3', h48] <;> rfl | fail) ?_; simp [h1', h3', h48])
  | fail)
    refine zdd (α := { i : Nat // i <= (c :: s).length }) [0, 30] (fun i => [(4, .u (.int .i64 (zcs ((c :: s).take i.1)))), (31, .u (.int .i64 i.1))]) (fun i => (c :: s).length - i.1) ⟨0, by omega⟩ ?_ ?_
    ·exact (Wk.zdw (by simp [hn, zcs] <;> grind))
    rintro ⟨i, hi⟩;simp;rcases hx : (c :: s)[i]? with _ | a
    ·have hge : (c :: s).length <= i := by simpa using hx
     obtain rfl : i = (c :: s).length := by omega
     rw [List.take_length];have hge2 : ¬ ((c :: s).length : Int) < s.length + 1 := by simp
     by_cases hb : 1099511627776 < zcs (c :: s)
     ·repeat' (first
  | (refine zaf rfl ?_; simp [hb, hge2])
  | fail)
      (refine Pst.of ?_; simp)
      try simp [hb]
     ·repeat' (first
  | (refine zaf rfl ?_; simp [hb, hge2])
  | fail)
      (refine Pst.of ?_; simp)
      try simp [hb]
    ·have hlt : i < (c :: s).length := (List.getElem?_eq_some_iff.1 hx).1;have hlt2 : (i : Int) < s.length + 1 := by simp at hlt; omega
     have hd := hall a (List.mem_of_getElem? hx);simp only [zb2, Bool.and_eq_true, decide_eq_true_eq] at hd;have hv := hval i hi;have hv2 := hval (i + 1) hlt;have hsn : zcs ((c :: s).take (i + 1)) = 10 * zcs ((c :: s).take i) + ((a.toNat : Int) - 48) := by
      rw [List.take_succ, hx]; exact zfM _ _
     generalize zcs ((c :: s).take i) = dv at hv hsn;have hsn2 := hsn.symm
     repeat' (first
  | (refine zaf rfl ?_; simp [hx, hlt2, hsn2])
  | (refine And.intro (by omega) ?_)
  | fail)
     refine LoopW.next ⟨i + 1, hlt⟩ (by simp at hlt; simp; omega) ?_
     exact (Wk.zdw (by simp [hn, hsn] <;> grind))
  exact hloop h2'
theorem zmW (s p : List UInt8) : Fun Tryz.prog 144 [.u (.str s), .u (.str p)] (· = .u (.bool (p.isPrefixOf s))) := by
 by_cases hl : p.length <= s.length
 ·have hl2 : (p.length : Int) <= s.length := by omega
  by_cases he : s.take p.length = p
  ·have hp : p.isPrefixOf s = true := List.isPrefixOf_iff_prefix.2 (List.prefix_iff_eq_take.2 he.symm);refine Fun.run Tryz.func144 Tryz.ntmps144 Tryz.results144 rfl (by simp) fun Γ hn => ?_
   repeat' (first
  | (refine zaf rfl ?_; simp [hl, hl2, he])
  | fail)
   all_goals
    (refine Pst.of ?_; simp)
   all_goals first | (rw [hp]; done) | exact List.isPrefixOf_iff_prefix.1 hp | (simp [hp]; done) | rfl
  ·have hp : p.isPrefixOf s = false := by
    cases h : p.isPrefixOf s with
    | false => rfl
    | true => exact absurd (List.prefix_iff_eq_take.1 (List.isPrefixOf_iff_prefix.1 h)).symm he
   refine Fun.run Tryz.func144 Tryz.ntmps144 Tryz.results144 rfl (by simp) fun Γ hn => ?_
   repeat' (first
  | (refine zaf rfl ?_; simp [hl, hl2, he])
  | fail)
   all_goals
    (refine Pst.of ?_; simp)
   all_goals first | (rw [hp]; done) | exact List.isPrefixOf_iff_prefix.1 hp | (simp [hp]; done) | rfl
 ·have hl2 : ¬ (p.length : Int) <= s.length := by omega
  have hp : p.isPrefixOf s = false := by
   cases h : p.isPrefixOf s with
   | false => rfl
   | true => exact absurd (List.isPrefixOf_iff_prefix.1 h).length_le hl
  refine Fun.run Tryz.func144 Tryz.ntmps144 Tryz.results144 rfl (by simp) fun Γ hn => ?_
  repeat' (first
  | (refine zaf rfl ?_; simp [hl, hl2])
  | fail)
  all_goals
   (refine Pst.of ?_; simp)
  all_goals first | (rw [hp]; done) | exact List.isPrefixOf_iff_prefix.1 hp | (simp [hp]; done) | rfl
theorem zoM (s p : List UInt8) : Fun Tryz.prog 135 [.u (.str s), .u (.str p)] (· = .u (.bool (p.isPrefixOf s))) := by
 have h := zmW s p;refine Fun.run Tryz.func135 Tryz.ntmps135 Tryz.results135 rfl (by simp) fun Γ hn => ?_
 repeat' (first
  | (refine zaf rfl ?_; simp)
  | (refine CallP.f2 rfl (h) (by first | simp <;> rfl | fail) ?_; simp)
  | fail)
 (refine Pst.of ?_; simp)
@[local simp] theorem zwj : zrA 0 = .u (.row (signsL.map .str) 0) := by
 simp [zrA, globs, signsL, uOf]
theorem hsl : signsL.length = 11 := rfl
theorem zta (s : List UInt8) (hs : s ≠ []) (hl : s.length <= 1000000) : Fun Tryz.prog 114 [.u (.str s)] (· = nextD s) := by
 obtain ⟨c, r, rfl⟩ : ∃ c r, s = c :: r := by cases s with | nil => exact absurd rfl hs | cons c r => exact ⟨c, r, rfl⟩
 have h1 := zeZ c;have h2 := zfN c;have h3 := zgK (c :: r) hl 133 zdW (fun c _ => zqU c) (by simp);have h4 := zgK (c :: r) hl 75 zb2 (fun c _ => zfN c) (by simp);have h5 := znA ((c :: r).take (zdt zdW (c :: r)));have h6 := zoT ((c :: r).take (zdt zb2 (c :: r))) (by have := zeG zb2 (c :: r); rw [List.length_take]; omega);have l1 : (zdt zdW (c :: r) : Int) <= r.length + 1 := by have := zeG zdW (c :: r); simp at this; omega
 have l2 : (zdt zb2 (c :: r) : Int) <= r.length + 1 := by have := zeG zb2 (c :: r); simp at this; omega
 have l1' : zdt zdW (c :: r) <= r.length + 1 := by omega
 have l2' : zdt zb2 (c :: r) <= r.length + 1 := by omega
 unfold nextD zjf;cases c1 : zd1 c with
 | true =>
  rw [c1] at h1;cases c3 : zkZ ((c :: r).take (zdt zdW (c :: r))) with
  | true =>
   rw [c3] at h5;refine Fun.run Tryz.func114 Tryz.ntmps114 Tryz.results114 rfl (by simp) fun Γ hn => ?_
   repeat' (first
  | (refine zaf rfl ?_; simp [l1, l1'])
  | ((first | refine CallP.f2 rfl (h1) (by first | simp [l1, l1'] <;> rfl | fail) ?_ | refine CallP.f2 rfl (h3) (by first | simp [l1, l1'] <;> rfl | fail) ?_ | refine CallP.f2 rfl (h5) (by first | simp [l1, l1'] <;> rfl | fail) ?_ | fail); simp [l1, l1'])
  | fail)
   (refine Pst.of ?_; simp)
   simp [c1, c3]
  | false =>
   rw [c3] at h5;refine Fun.run Tryz.func114 Tryz.ntmps114 Tryz.results114 rfl (by simp) fun Γ hn => ?_
   repeat' (first
  | (refine zaf rfl ?_; simp [l1, l1'])
  | ((first | refine CallP.f2 rfl (h1) (by first | simp [l1, l1'] <;> rfl | fail) ?_ | refine CallP.f2 rfl (h3) (by first | simp [l1, l1'] <;> rfl | fail) ?_ | refine CallP.f2 rfl (h5) (by first | simp [l1, l1'] <;> rfl | fail) ?_ | fail); simp [l1, l1'])
  | fail)
   (refine Pst.of ?_; simp)
   simp [c1, c3]
 | false =>
  rw [c1] at h1;cases c2 : zb2 c with
  | true =>
   rw [c2] at h2;cases c3 : zho ((c :: r).take (zdt zb2 (c :: r))) with
   | none =>
    rw [c3] at h6;refine Fun.run Tryz.func114 Tryz.ntmps114 Tryz.results114 rfl (by simp) fun Γ hn => ?_
    repeat' (first
  | (refine zaf rfl ?_; simp [l2, l2'])
  | ((first | refine CallP.f2 rfl (h1) (by first | simp [l2, l2'] <;> rfl | fail) ?_ | refine CallP.f2 rfl (h2) (by first | simp [l2, l2'] <;> rfl | fail) ?_ | refine CallP.f2 rfl (h4) (by first | simp [l2, l2'] <;> rfl | fail) ?_ | refine CallP.f2 rfl (h6) (by first | simp [l2, l2'] <;> rfl | fail) ?_ | fail); simp [l2, l2'])
  | fail)
    (refine Pst.of ?_; simp)
    simp [c1, c2, c3]
   | some n =>
    rw [c3] at h6;refine Fun.run Tryz.func114 Tryz.ntmps114 Tryz.results114 rfl (by simp) fun Γ hn => ?_
    repeat' (first
  | (refine zaf rfl ?_; simp [l2, l2'])
  | ((first | refine CallP.f2 rfl (h1) (by first | simp [l2, l2'] <;> rfl | fail) ?_ | refine CallP.f2 rfl (h2) (by first | simp [l2, l2'] <;> rfl | fail) ?_ | refine CallP.f2 rfl (h4) (by first | simp [l2, l2'] <;> rfl | fail) ?_ | refine CallP.f2 rfl (h6) (by first | simp [l2, l2'] <;> rfl | fail) ?_ | fail); simp [l2, l2'])
  | fail)
    (refine Pst.of ?_; simp)
    simp [c1, c2, c3]
  | false =>
   rw [c2] at h2;refine Fun.run Tryz.func114 Tryz.ntmps114 Tryz.results114 rfl (by simp) fun Γ hn => ?_
   repeat' (first
  | (refine zaf rfl ?_; simp [hsl, List.take_of_length_le])
  | ((first | refine CallP.f2 rfl (h1) (by first | simp [hsl, List.take_of_length_le] <;> rfl | fail) ?_ | refine CallP.f2 rfl (h2) (by first | simp [hsl, List.take_of_length_le] <;> rfl | fail) ?_ | fail); simp [hsl, List.take_of_length_le])
  | fail)
   refine zdd (α := { i : Nat // i <= 11 /\ ∀ x ∈ signsL.take i, x.isPrefixOf (c :: r) = false }) [0, 2, 3, 43] (fun i => [(44, .u (.int .i64 i.1))]) (fun i => 11 - i.1) ⟨0, by omega, by simp⟩ ?_ ?_
   ·exact (Wk.zdw (by simp [hn] <;> grind))
   rintro ⟨i, hi, hb⟩;simp;rcases hx : signsL[i]? with _ | x
   ·have hge : signsL.length <= i := by simpa using hx
    obtain rfl : i = 11 := by rw [hsl] at hge; omega
    have hnone : signsL.find? (fun x => x.isPrefixOf (c :: r)) = none := List.find?_eq_none.2 fun x hx => by
     rw [hb x (by rw [List.take_of_length_le (by rw [hsl]; omega)]; exact hx)]; simp
    repeat' (first
  | (refine zaf rfl ?_; simp)
  | fail)
    (refine Pst.of ?_; simp)
    simp [c1, c2, hnone]
   ·have hlt : i < 11 := by have := (List.getElem?_eq_some_iff.1 hx).1; rw [hsl] at this; exact this
    have hlt2 : (i : Int) < 11 := by omega
    have hp := zoM (c :: r) x;by_cases hpx : x.isPrefixOf (c :: r) = true
    ·have hfind : signsL.find? (fun x => x.isPrefixOf (c :: r)) = some x := by
      have e : signsL = signsL.take i ++ x :: signsL.drop (i + 1) := by
       obtain ⟨h5, h6⟩ := List.getElem?_eq_some_iff.1 hx;rw [<- h6, List.getElem_cons_drop, List.take_append_drop]
      rw [e, List.find?_append, List.find?_eq_none.2 (fun y hy => by rw [hb y hy]; simp), List.find?_cons, hpx];rfl
     rw [hpx] at hp
     repeat' (first
  | (refine zaf rfl ?_; simp [hx, hsl, hlt2])
  | (refine CallP.f2 rfl (hp) (by first | simp [hx, hsl, hlt2] <;> rfl | fail) ?_; simp [hx, hsl, hlt2])
  | fail)
     (refine Pst.of ?_; simp)
     simp [c1, c2, hfind]
    ·rw [Bool.eq_false_iff.2 hpx] at hp
     repeat' (first
  | (refine zaf rfl ?_; simp [hx, hsl, hlt2])
  | (refine And.intro (by omega) ?_)
  | (refine CallP.f2 rfl (hp) (by first | simp [hx, hsl, hlt2] <;> rfl | fail) ?_; simp [hx, hsl, hlt2])
  | fail)
     refine LoopW.next ⟨i + 1, by omega, fun y hy => ?_⟩ (by simp; omega) ?_
     ·rw [List.take_succ, hx] at hy;rcases List.mem_append.1 hy with h | h
      ·exact hb y h
      ·simp at h; subst h; exact Bool.eq_false_iff.2 hpx
     ·exact (Wk.zdw (by simp [hn] <;> grind))
end Go.Proofs.YtmlpcgkaonifcaaGreatDoor
namespace Go.VL
theorem zuM {P : Program} {Γ : Ctx} {c : Code} {s : St} {Q : Exit -> St -> Prop} {x j : Nat} {cells : List U} {rows : List (List U)} (hx : getK s.env x = some (.u (.agg cells))) (hj : cells[j]? = some (.sl rows)) (h : rows.length <= 9223372036854775807 -> V P Γ c s Q) : V P Γ c s Q :=
 zsq (fun K a w hs => by
  have hr := (hs.getK hx).2;obtain ⟨vs, hl, _, hr⟩ := zee hr;have hr := hr j _ hj;generalize vs.getD j undef = v at hr;cases hr with
  | slE => simp
  | sl _ b o sz c f hc hcx => unfold maxLen at hcx; omega) h
end Go.VL
namespace Go.Proofs.YtmlpcgkaonifcaaGreatDoor
open Go Go.VL
attribute [local simp] zbw zc2 zcq evPure opd uOf zay St.put St.at getK binD binI binS binB nilD aggD zfJ zge lookD lookR zcn rangeS Go.VL.nextD Go.VL.nextS zcr zgk zgh zfs zcv mkV zbi zaT zaS zaR zc0 zaP zba zbs mapEff zdE zfp Key.kk shiftI arith unD convD zdu loadD cellsAt fieldAddrD fieldD indexAddrD indexSlD arrAddr indexD sliceD cutD lenD minmaxD nilCheckD buildD fillD zb0 zc7 zeD setAll zcW zef zck zfv zcj St.add zaw zbB rowsOf zdg zcw zad zac zaa zbz zda za3 entry zbO zbT valD zcm zcB zfw zdb zdc zb4 zbP zam zaW zbj delAll effD St.effS zcF zaU zaH zcG zaV zaJ zbY zaI zaA zbZ zcD zbv zbX za9 zbV zbW zar mkD zcl zbG zbK zam zcu D.ids Op.operands Call.operands zbH makeIfD makeFuncD typeAssertD zgd zdm zdn zf8 zco IntKind.bits zct zaz List.take_of_length_le List.range_succ zcO zcf zcP zcK zbD zb6 zb8 zcL zca zbe zb9 zb7 zhc zce zcM zaZ zaL zcN za0 zaN zcd zaM zaF zcS zcT zha zab frzN frz1 zav zau St.frz St.frzS frzS fv za1 zbm zbn frzObS zat zan frz zbL zbq zbr zbN zb5 zcc za7 St.norm St.lp St.only zax wkE wkO wkU Ob.under D.under zaj zak zcQ zcg zcR h4s zea zaC zbC List.zipIdx_cons List.zipIdx_nil zzC zzD Nat.zero_add
attribute [local irreducible] V G H HD HD2 zbf Eff CallP CallV EndOK Fun Ret FinOK LoopI LoopW EndW HR vs2 RN Cnd H4
def zc6 : Nat -> Exp -> Int -> Int
 | 0, _, most => most + 1
 | L + 1, e, most => if 60 < e.s.length then most + 1 else e.args.foldl (fun n x => if n <= most then n + zc6 L x (most - n) else n) 1
theorem ziw (L : Nat) (e : Exp) (most : Int) : zc6 (L + 1) e most = if 60 < e.s.length then most + 1 else e.args.foldl (fun n x => if n <= most then n + zc6 L x (most - n) else n) 1 := by rw [zc6]
theorem zgu : ∀ (L : Nat) (e : Exp) (most : Int), 0 <= most -> 1 <= zc6 L e most /\ zc6 L e most <= most + 1
 | 0, e, most, h => by rw [zc6]; omega
 | L + 1, e, most, h => by
  rw [zc6];split
  ·omega
  ·have : ∀ (l : List Exp) (n : Int), 1 <= n -> n <= most + 1 -> 1 <= l.foldl (fun n x => if n <= most then n + zc6 L x (most - n) else n) n /\ l.foldl (fun n x => if n <= most then n + zc6 L x (most - n) else n) n <= most + 1 := by
    intro l
    induction l with
    | nil => intro n h1 h2; exact ⟨h1, h2⟩
    | cons a l ih =>
     intro n h1 h2;rw [List.foldl_cons];split
     ·rename_i hn;have := zgu L a (most - n) (by omega);exact ih _ (by omega) (by omega)
     ·exact ih n h1 h2
   exact this _ 1 (by omega) (by omega)
theorem zf1 {L : Nat} {most : Int} : ∀ (l : List Exp) (n : Int), ¬ n <= most -> l.foldl (fun n x => if n <= most then n + zc6 L x (most - n) else n) n = n
 | [], _, _ => rfl
 | a :: l, n, h => by rw [List.foldl_cons, if_neg h]; exact zf1 l n h
theorem zlD : ∀ (L : Nat) (e : Exp) (most : Int), 0 <= most -> most <= 1000 -> (L : Int) <= 100 -> Fun Tryz.prog 42 [zdo e, .u (.int .i64 most), .u (.int .i64 L)] (· = .u (.int .i64 (zc6 L e most)))
 | 0, e, most, _, _, _ => by
  rw [zc6];refine Fun.run Tryz.func42 Tryz.ntmps42 Tryz.results42 rfl (by simp) fun Γ hn => ?_; simp only [zzE, zzC, zzD];simp only [zdo]
  repeat' (first
  | (refine zaf rfl ?_; simp)
  | (refine And.intro (by omega) ?_)
  | fail)
  (refine Pst.of ?_; simp)
 | L + 1, e, most, h0, h1, hL => by
  rw [ziw];by_cases hs : 60 < e.s.length
  ·rw [if_pos hs];refine Fun.run Tryz.func42 Tryz.ntmps42 Tryz.results42 rfl (by simp) fun Γ hn => ?_; simp only [zzE, zzC, zzD];simp only [zdo]
   repeat' (first
  | (refine Cnd.of (fun hc => ?_) (fun hc => ?_) <;> (try (exfalso; omega)) <;> (try simp))
  | (refine zaf rfl ?_; simp)
  | (refine And.intro (by omega) ?_)
  | fail)
   all_goals first
    | (exfalso; omega)
    | ((refine Pst.of ?_; simp); done)
  rw [if_neg hs];generalize hg : (e.args.foldl (fun n x => if n <= most then n + zc6 L x (most - n) else n) 1) = g;refine Fun.run Tryz.func42 Tryz.ntmps42 Tryz.results42 rfl (by simp) fun Γ hn => ?_; simp only [zzE, zzC, zzD];simp only [zdo];refine zuM (x := 0) (j := 4) rfl rfl fun hl => ?_;simp only [List.length_map] at hl
  repeat' (first
  | (refine Cnd.of (fun hc => ?_) (fun hc => ?_) <;> (try (exfalso; omega)) <;> (try simp))
  | (refine zaf rfl ?_; simp)
  | fail)
  refine zdd (α := { p : Nat × Int // p.1 <= e.args.length /\ 1 <= p.2 /\ p.2 <= most + 1 /\ g = (e.args.drop p.1).foldl (fun n x => if n <= most then n + zc6 L x (most - n) else n) p.2 }) [1, 2, 3] (fun p => [(7, .u (.int .i64 p.1.2)), (8, .u (.int .i64 p.1.1))]) (fun p => e.args.length - p.1.1) ⟨(0, 1), by simp, by simp, by simp; omega, by simp [hg]⟩ ?_ ?_
  ·exact (Wk.zdw (by simp [hn] <;> grind))
  rintro ⟨⟨i, n⟩, hi, hn1, hn2, hgn⟩;simp only at hi hn1 hn2 hgn;simp;rcases hx : e.args[i]? with _ | x
  ·have hge : e.args.length <= i := by simpa using hx
   rw [List.drop_of_length_le hge] at hgn
   repeat' (first
  | (refine Cnd.of (fun hc => ?_) (fun hc => ?_) <;> (try (exfalso; omega)) <;> (try simp [hx]))
  | (refine zaf rfl ?_; simp [hx])
  | fail)
   (refine Pst.of ?_; simp)
   rw [hgn]; rfl
  ·have hlt : i < e.args.length := (List.getElem?_eq_some_iff.1 hx).1;by_cases hm : n <= most
   ·have h5 := zlD L x (most - n) (by omega) (by omega) (by omega);have hb := zgu L x (most - n) (by omega);simp only [zdo] at h5;rw [List.drop_eq_getElem_cons hlt, List.foldl_cons, if_pos hm, (List.getElem?_eq_some_iff.1 hx).2] at hgn;generalize zc6 L x (most - n) = y at h5 hb hgn
    repeat' (first
  | (refine Cnd.of (fun hc => ?_) (fun hc => ?_) <;> (try (exfalso; omega)) <;> (try simp [hx, x.row_eq]))
  | (refine zaf rfl ?_; simp [hx, x.row_eq])
  | (refine And.intro (by omega) ?_)
  | (refine CallP.f2 rfl (h5) (by first | simp [hx, x.row_eq] <;> rfl | fail) ?_; simp [hx, x.row_eq])
  | fail)
    refine LoopW.next ⟨(i + 1, n + y), (by omega : i + 1 <= e.args.length), (by omega : 1 <= n + y), (by omega : n + y <= most + 1), hgn⟩ (by simp; omega) ?_
    exact (Wk.zdw (by simp [hn] <;> grind))
   ·rw [zf1 _ _ hm] at hgn
    repeat' (first
  | (refine Cnd.of (fun hc => ?_) (fun hc => ?_) <;> (try (exfalso; omega)) <;> (try simp [hx]))
  | (refine zaf rfl ?_; simp [hx])
  | fail)
    (refine Pst.of ?_; simp)
    rw [hgn]
def zmA (e : Exp) (n : Int) : Bool := decide (zc6 16 e n <= n)
theorem zei (e : Exp) (n : Int) (h0 : 0 <= n) (h1 : n <= 1000) : Fun Tryz.prog 17 [zdo e, .u (.int .i64 n)] (· = .u (.bool (zmA e n))) := by
 have h2 := zlD 16 e n h0 h1 (by omega);unfold zmA;simp only [zdo] at h2 ⊢;generalize zc6 16 e n = y at h2 ⊢;refine Fun.run Tryz.func17 Tryz.ntmps17 Tryz.results17 rfl (by simp) fun Γ hn => ?_
 repeat' (first
  | (refine zaf rfl ?_; simp)
  | (refine CallP.f2 rfl (h2) (by first | simp <;> rfl | fail) ?_; simp)
  | fail)
 (refine Pst.of ?_; simp)
mutual
def zeX : Exp -> Int
 | .mk op _ _ _ args => (if op = 1 then 1 else 0) + zcH args
def zcH : List Exp -> Int
 | [] => 0
 | e :: r => zeX e + zcH r
end
theorem zlG (e : Exp) : zeX e = (if e.op = 1 then 1 else 0) + zcH e.args := by cases e with | mk op n u s args => rw [zeX]; rfl
mutual
theorem zfd : ∀ e : Exp, 0 <= zeX e
 | .mk op n u s args => by
  rw [zeX];have := zdy args;split <;> omega
theorem zdy : ∀ l : List Exp, 0 <= zcH l
 | [] => by rw [zcH]; omega
 | e :: r => by
  rw [zcH];have := zfd e;have := zdy r;omega
end
theorem zoX {l : List Exp} {i : Nat} {x : Exp} (h : l[i]? = some x) : zcH (l.take (i + 1)) = zcH (l.take i) + zeX x := by
 induction l generalizing i with
 | nil => simp at h
 | cons a l ih =>
  cases i with
  | zero => simp at h; subst h; simp [zcH]
  | succ i => rw [List.take_succ_cons, List.take_succ_cons, zcH, zcH, ih (i := i) (by simpa using h)]; omega
theorem zoW {l : List Exp} (i : Nat) : zcH (l.take i) <= zcH l := by
 induction l generalizing i with
 | nil => simp
 | cons a l ih =>
  cases i with
  | zero => rw [List.take_zero]; have := zdy (a :: l); rw [show zcH [] = 0 by rw [zcH]]; exact this
  | succ i => rw [List.take_succ_cons, zcH, zcH]; have := ih i; omega
theorem zl5 : ∀ (L : Nat) (e : Exp) (most : Int), 0 <= most -> zc6 L e most <= most -> zeX e <= zc6 L e most
 | 0, e, most, _, h => by rw [zc6] at h; omega
 | L + 1, e, most, h0, h => by
  rw [ziw] at h ⊢;by_cases hs : 60 < e.s.length
  ·rw [if_pos hs] at h; omega
  rw [if_neg hs] at h ⊢;have key : ∀ (l : List Exp) (n : Int), 1 <= n -> l.foldl (fun n x => if n <= most then n + zc6 L x (most - n) else n) n <= most -> n + zcH l <= l.foldl (fun n x => if n <= most then n + zc6 L x (most - n) else n) n := by
   intro l
   induction l with
   | nil => intro n _ _; rw [zcH]; simp
   | cons a l ih =>
    intro n h1 h2;rw [List.foldl_cons] at h2 ⊢;by_cases hn : n <= most
    ·rw [if_pos hn] at h2 ⊢;have hb := zgu L a (most - n) (by omega);have h3 := ih _ (by omega) h2;have h4 : n + zc6 L a (most - n) <= most := by
      rcases Int.lt_or_le most (n + zc6 L a (most - n)) with h5 | h5
      ·rw [zf1 _ _ (by omega)] at h2; omega
      ·exact h5
     have h5 := zl5 L a (most - n) (by omega) (by omega);rw [zcH];omega
    ·rw [if_neg hn, zf1 _ _ hn] at h2; omega
  have h1 := key e.args 1 (by omega) h;rw [zlG];by_cases h3 : e.op = 1
  ·rw [if_pos h3]; omega
  ·rw [if_neg h3]; omega
theorem zjE : ∀ (m : Nat) (e : Exp), SizeOf.sizeOf e <= m -> zeX e <= 1000000 -> Fun Tryz.prog 41 [zdo e] (· = .u (.int .i64 (zeX e)))
 | 0, e, hm, _ => by cases e; simp at hm
 | m + 1, e, hm, hN => by
  have hch : ∀ x ∈ e.args, SizeOf.sizeOf x <= m := fun x hx => by
   cases e with
   | mk op n u s args =>
    have h1 := List.sizeOf_lt_of_mem (show x ∈ args from hx);simp at hm;omega
  rw [zlG] at hN ⊢;have hnn := zdy e.args;generalize hk : (if e.op = 1 then (1 : Int) else 0) = k0 at hN ⊢;have hk01 : 0 <= k0 /\ k0 <= 1 := by rw [<- hk]; split <;> omega
  refine Fun.run Tryz.func41 Tryz.ntmps41 Tryz.results41 rfl (by simp) fun Γ hn => ?_; simp only [zzE, zzC, zzD];simp only [zdo];refine zuM (x := 0) (j := 4) rfl rfl fun hl => ?_;simp only [List.length_map] at hl
  repeat' (first
  | (refine Cnd.of (fun hc => ?_) (fun hc => ?_) <;> (try (exfalso; omega)) <;> (try simp))
  | (refine zaf rfl ?_; simp)
  | fail)
  all_goals
   refine zdd (α := { i : Nat // i <= e.args.length }) [1] (fun i => [(3, .u (.int .i64 (k0 + zcH (e.args.take i.1)))), (4, .u (.int .i64 i.1))]) (fun i => e.args.length - i.1) ⟨0, by omega⟩ ?_ ?_
   ·exact (Wk.zdw (by simp [hn, zcH] <;> grind))
   rintro ⟨i, hi⟩;simp;rcases hx : e.args[i]? with _ | x
   ·have hge : e.args.length <= i := by simpa using hx
    obtain rfl : i = e.args.length := by omega
    repeat' (first
  | (refine zaf rfl ?_; simp [hx])
  | fail)
    (refine Pst.of ?_; simp)
   ·have hlt : i < e.args.length := (List.getElem?_eq_some_iff.1 hx).1;have hat := zoX hx;have hle := zoW (l := e.args) (i + 1);have hn0 := zdy (e.args.take i);have hnx := zfd x;have h5 := zjE m x (hch x (List.mem_of_getElem? hx)) (by omega);simp only [zdo] at h5
    repeat' (first
  | (refine Cnd.of (fun hc => ?_) (fun hc => ?_) <;> (try (exfalso; omega)) <;> (try simp [hx, x.row_eq]))
  | (refine zaf rfl ?_; simp [hx, x.row_eq])
  | (refine And.intro (by omega) ?_)
  | (refine CallP.f2 rfl (h5) (by first | simp [hx, x.row_eq] <;> rfl | fail) ?_; simp [hx, x.row_eq])
  | fail)
    all_goals
     refine LoopW.next ⟨i + 1, by omega⟩ (by simp; omega) ?_
     exact (Wk.zdw (by simp [hn, hat, Int.add_assoc] <;> grind))
end Go.Proofs.YtmlpcgkaonifcaaGreatDoor
namespace Go.Proofs.YtmlpcgkaonifcaaGreatDoor
open Go Go.VL
attribute [local simp] zbw zc2 zcq evPure opd uOf zay St.put St.at getK binD binI binS binB nilD aggD zfJ zge lookD lookR zcn rangeS Go.VL.nextD Go.VL.nextS zcr zgk zgh zfs zcv mkV zbi zaT zaS zaR zc0 zaP zba zbs mapEff zdE zfp Key.kk shiftI arith unD convD zdu loadD cellsAt fieldAddrD fieldD indexAddrD indexSlD arrAddr indexD sliceD cutD lenD minmaxD nilCheckD buildD fillD zb0 zc7 zeD setAll zcW zef zck zfv zcj St.add zaw zbB rowsOf zdg zcw zad zac zaa zbz zda za3 entry zbO zbT valD zcm zcB zfw zdb zdc zb4 zbP zam zaW zbj delAll effD St.effS zcF zaU zaH zcG zaV zaJ zbY zaI zaA zbZ zcD zbv zbX za9 zbV zbW zar mkD zcl zbG zbK zam zcu D.ids Op.operands Call.operands zbH makeIfD makeFuncD typeAssertD zgd zdm zdn zf8 zco IntKind.bits zct zaz List.take_of_length_le List.range_succ zcO zcf zcP zcK zbD zb6 zb8 zcL zca zbe zb9 zb7 zhc zce zcM zaZ zaL zcN za0 zaN zcd zaM zaF zcS zcT zha zab frzN frz1 zav zau St.frz St.frzS frzS fv za1 zbm zbn frzObS zat zan frz zbL zbq zbr zbN zb5 zcc za7 St.norm St.lp St.only zax wkE wkO wkU Ob.under D.under zaj zak zcQ zcg zcR h4s zea zaC zbC List.zipIdx_cons List.zipIdx_nil zzC zzD Nat.zero_add
attribute [local irreducible] V G H HD HD2 zbf Eff CallP CallV EndOK Fun Ret FinOK LoopI LoopW EndW HR vs2 RN Cnd H4
def zpt (n m : Int) : List Let -> Int -> Int -> Bool
 | [], _, _ => true
 | l :: r, i, p => if i <= m then (if 60 < l.name.length \/ zmA l.body n = false then false else if 2000 < p * (1 + zeX l.body) then false else zpt n m r (i + 1) (p * (1 + zeX l.body))) else true
def zxh (l : List Let) (m n : Int) : Bool := zpt n m l 0 1 && decide ((l.length : Int) <= m)
theorem znd (l : List Let) (m n : Int) (h0 : 0 <= n) (h1 : n <= 1000) (h2 : 0 <= m) (h3 : m <= 1000) : Fun Tryz.prog 16 [.u (zaQ l), .u (.int .i64 m), .u (.int .i64 n)] (· = .u (.bool (zxh l m n))) := by
 unfold zxh;generalize hB : zpt n m l 0 1 = B;refine Fun.run Tryz.func16 Tryz.ntmps16 Tryz.results16 rfl (by simp) fun Γ hn => ?_; simp only [zzE, zzC, zzD];simp only [zaQ];refine zhK (x := 0) rfl fun hl => ?_;simp only [List.length_map] at hl
 repeat' (first
  | (refine zaf rfl ?_; simp)
  | fail)
 refine zdd (α := { q : Nat × Int // q.1 <= l.length /\ (q.1 : Int) <= m + 1 /\ 1 <= q.2 /\ q.2 <= 2000 /\ B = zpt n m (l.drop q.1) q.1 q.2 }) [0, 1, 2] (fun q => [(7, .u (.int .i64 q.1.2)), (8, .u (.int .i64 q.1.1))]) (fun q => l.length - q.1.1) ⟨(0, 1), by simp, by simp; omega, by simp, by simp, by simp [hB]⟩ ?_ ?_
 ·exact (Wk.env rfl rfl rfl (by simp [wkE, St.lp, zax, zaa, getK] <;> (try (intros; simp_all; done)) <;> (try (intros; omega)) <;> (try grind)))
 rintro ⟨⟨i, p⟩, hi, him, hp1, hp2, hb⟩;simp only at hi him hp1 hp2 hb;simp;rcases hx : l[i]? with _ | x
 ·have hge : l.length <= i := by simpa using hx
  obtain rfl : i = l.length := by omega
  rw [List.drop_length, zpt] at hb
  repeat' (first
  | (refine zaf rfl ?_; simp [hx])
  | fail)
  all_goals
   (refine Pst.of ?_; simp)
  all_goals simp [hb]
 ·have hlt : i < l.length := (List.getElem?_eq_some_iff.1 hx).1;rw [List.drop_eq_getElem_cons hlt, (List.getElem?_eq_some_iff.1 hx).2, zpt] at hb;by_cases hm : (i : Int) <= m
  ·rw [if_pos hm] at hb;have h5 := zei x.body n h0 h1;simp only [zdo] at h5;by_cases hn60 : 60 < x.name.length
   ·rw [if_pos (.inl hn60)] at hb;cases hf : zmA x.body n
    all_goals
     rw [hf] at h5
     repeat' (first
  | (refine Cnd.of (fun hc => ?_) (fun hc => ?_) <;> (try (exfalso; omega)) <;> (try simp [hx, hm]))
  | (refine zaf rfl ?_; simp [hx, hm])
  | fail)
     all_goals first
      | (exfalso; omega)
      | ((refine Pst.of ?_; simp); simp [hb]; done)
   ·cases hf : zmA x.body n with
    | false =>
     rw [if_pos (.inr hf)] at hb;rw [hf] at h5
     repeat' (first
  | (refine Cnd.of (fun hc => ?_) (fun hc => ?_) <;> (try (exfalso; omega)) <;> (try simp [hx, hm]))
  | (refine zaf rfl ?_; simp [hx, hm])
  | (refine CallP.f2 rfl (h5) (by first | simp [hx, hm] <;> rfl | fail) ?_; simp [hx, hm])
  | fail)
     all_goals first
      | (exfalso; omega)
      | ((refine Pst.of ?_; simp); simp [hb]; done)
    | true =>
     rw [if_neg (by simp [hn60, hf])] at hb;rw [hf] at h5;have hfn : zeX x.body <= 1000 := by
      unfold zmA at hf;simp only [decide_eq_true_eq] at hf;have := zl5 16 x.body n h0 hf;omega
     have hnn := zfd x.body;have h6 := zjE _ x.body (Nat.le_refl _) (by omega);simp only [zdo] at h6;generalize zeX x.body = y at h6 hb hfn hnn;have hpy : p * (1 + y) <= 2000 * 1001 := Int.mul_le_mul hp2 (by omega) (by omega) (by omega);have hpy1 : 1 <= p * (1 + y) := by
      have := Int.mul_le_mul hp1 (show (1 : Int) <= 1 + y by omega) (by omega) (by omega);omega
     repeat' (first
  | (refine Cnd.of (fun hc => ?_) (fun hc => ?_) <;> (try (exfalso; omega)) <;> (try simp [hx, hm]))
  | (refine zaf rfl ?_; simp [hx, hm])
  | (refine And.intro (by omega) ?_)
  | ((first | refine CallP.f2 rfl (h5) (by first | simp [hx, hm] <;> rfl | fail) ?_ | refine CallP.f2 rfl (h6) (by first | simp [hx, hm] <;> rfl | fail) ?_ | fail); simp [hx, hm])
  | fail)
     all_goals first
      | (exfalso; omega)
      | ((refine Pst.of ?_; simp); rw [if_pos (by omega)] at hb; simp [hb]; done)
      | (refine LoopW.next ⟨(i + 1, p * (1 + y)), (by omega : i + 1 <= l.length), (by simp; omega), hpy1, (by omega : p * (1 + y) <= 2000), by rw [if_neg (by omega)] at hb; simpa using hb⟩ (by simp; omega) ?_; exact (Wk.env rfl rfl rfl (by simp [wkE, St.lp, zax, zaa, getK] <;> (try (intros; simp_all; done)) <;> (try (intros; omega)) <;> (try grind))))
  ·rw [if_neg hm] at hb
   repeat' (first
  | (refine Cnd.of (fun hc => ?_) (fun hc => ?_) <;> (try (exfalso; omega)) <;> (try simp [hx, hm]))
  | (refine zaf rfl ?_; simp [hx, hm])
  | fail)
   (refine Pst.of ?_; simp)
   simp [hb]
end Go.Proofs.YtmlpcgkaonifcaaGreatDoor
namespace Go.Proofs.YtmlpcgkaonifcaaGreatDoor
open Go Go.VL Go.ChangeShapes Go.WideShapes Go.ChangeAt Go.RowKit
theorem zx7 {r : List U} (h : HasRow Tryz.prog 27 r) : ∃ b : By, r = zaE b := by
 obtain ⟨rs, hr, h⟩ := h.of_struct zyl
 match rs, h with
 | [a1, a2, a3, a4, a5, a6, a7, a8, a9, a10, a11, a12, a13, a14, a15, a16, a17], h =>
  obtain ⟨h1, h2, h3, h4, h5, h6, h7, h8, h9, h10, h11, h12, h13, h14, h15, h16, h17, _⟩ := h;obtain ⟨x1, rfl, _⟩ := h1.of_int io3;obtain ⟨x2, rfl, _⟩ := h2.of_int io3;obtain ⟨x3, rfl, _⟩ := h3.of_int io3;obtain ⟨x4, rfl, _⟩ := h4.of_int io3;obtain ⟨x5, rfl, _⟩ := h5.of_int io3;obtain ⟨x6, rfl, _⟩ := h6.of_int io3;obtain ⟨x7, rfl⟩ := h7.of_bool (by simp);obtain ⟨x8, rfl, _⟩ := h8.of_int io3;obtain ⟨x9, rfl, _⟩ := h9.of_int io3;obtain ⟨x10, rfl, _⟩ := h10.of_int io3;obtain ⟨x11, rfl, _⟩ := h11.of_int io3;obtain ⟨rows, rfl, _, h12⟩ := h12.of_slice zB2;obtain ⟨l, rfl, _⟩ := rows_list (fun l : Let => [.str l.name, .int .i64 l.body.op, .int .i64 l.body.n, .int .i64 l.body.unit, .str l.body.s, .sl (l.body.args.map Exp.row)]) (fun _ => True) (rows := rows) fun r hr => zwy (h12 r hr);obtain ⟨e1, rfl⟩ := zhA h13;obtain ⟨e2, rfl⟩ := zhA h14;obtain ⟨e3, rfl⟩ := zhA h15;obtain ⟨e4, rfl⟩ := zhA h16;obtain ⟨e5, rfl⟩ := zhA h17;exact ⟨⟨x1, x2, x3, x4, x5, x6, x7, x8, x9, x10, x11, l, e1, e2, e3, e4, e5⟩, by rw [hr]; rfl⟩
end Go.Proofs.YtmlpcgkaonifcaaGreatDoor
namespace Go.Proofs.YtmlpcgkaonifcaaGreatDoor
open Go Go.VL
theorem zjF {lets : List Let} {e : Exp} (h : zdK lets e = true) : lets.length <= 20 /\ zbg 12 e = true /\ ∀ l ∈ lets, zbg 12 l.body = true := by
 simp only [zdK, Bool.and_eq_true, decide_eq_true_eq, Bool.not_eq_true', List.any_eq_false, Bool.not_eq_true] at h;exact ⟨h.1.1, h.1.2, fun l hl => by have := h.2 l hl; simpa using this⟩
def zdI (lets : List Let) (e : Exp) : Bool := zdK lets e && zgi (sF (mOf [] lets)) e
abbrev Tab := List (Int × Int × Bool)
def zeE (n : Int) : Except Int Int := if 1099511627776 < n \/ n < -1099511627776 then .error 3 else .ok n
def zgX (a b : Int) : Int := if a.tdiv b * b ≠ a /\ ¬ (a < 0 ↔ b < 0) then a.tdiv b - 1 else a.tdiv b
def zhn (a b c : Int) : Except Int Int :=
 if a ≠ 0 /\ ((1099511627777 * c).tdiv (max a (-a)) < b \/ b < (-(1099511627777 * c)).tdiv (max a (-a))) then .error 3 else zeE (zgX (a * b) c)
def zdP (b : Bool) : Int := if b = true then 1 else 0
def zjo (op : Int) (sh : Bool) (a b : Int) : Except Int Int :=
 if op = 2 then zeE (a + b) else if op = 3 then zeE (a - b) else if op = 4 then zhn a b (if sh = true then 1000 else 1)
 else if op = 5 then (if b = 0 then .error 15 else zeE (zgX a b))
 else if op = 6 then .ok (min a b) else if op = 7 then .ok (max a b) else if op = 8 then .ok (zdP (decide (a < b))) else .ok (zdP (decide (a = b)))
abbrev TM := Tab -> Except Int Int × Tab
def TM.bind (f : TM) (g : Int -> TM) : TM := fun t => match f t with | (.ok v, t') => g v t' | (.error e, t') => (.error e, t')
def TM.ret (x : Except Int Int) : TM := fun t => (x, t)
theorem TM.bind_ok {f : TM} {g : Int -> TM} {t t' : Tab} {v : Int} (h : f t = (.ok v, t')) : f.bind g t = g v t' := by unfold TM.bind; rw [h]
theorem TM.zia {f : TM} {g : Int -> TM} {t t' : Tab} {e : Int} (h : f t = (.error e, t')) : f.bind g t = (.error e, t') := by unfold TM.bind; rw [h]
mutual
def zox (nm : List UInt8 -> TM) (sh : Exp -> Bool) : Exp -> TM
 | .mk op n _ s args =>
  if op = 0 then .ret (zeE n)
  else if op = 1 then nm s
  else if op = 10 then (zd0 nm sh args 0).bind fun a => if a = 0 then .ret (.ok 0) else (zd0 nm sh args 1).bind fun b => .ret (.ok (zdP (decide (b ≠ 0))))
  else if op = 11 then (zd0 nm sh args 0).bind fun a => if a ≠ 0 then .ret (.ok 1) else (zd0 nm sh args 1).bind fun b => .ret (.ok (zdP (decide (b ≠ 0))))
  else if op = 12 then (zd0 nm sh args 0).bind fun a => .ret (.ok (zdP (decide (a = 0))))
  else if op = 13 then (zd0 nm sh args 0).bind fun a => if a ≠ 0 then zd0 nm sh args 1 else zd0 nm sh args 2
  else (zd0 nm sh args 0).bind fun a => (zd0 nm sh args 1).bind fun b => .ret (zjo op ((args.take 2).any sh) a b)
def zd0 (nm : List UInt8 -> TM) (sh : Exp -> Bool) : List Exp -> Nat -> TM
 | [], _ => .ret (.error 0)
 | e :: _, 0 => zox nm sh e
 | _ :: r, i + 1 => zd0 nm sh r i
end
theorem zp5 {nm sh} : ∀ {l : List Exp} {i : Nat} {e : Exp}, l[i]? = some e -> zd0 nm sh l i = zox nm sh e
 | [], _, _, h => by simp at h
 | a :: r, 0, e, h => by simp at h; subst h; rw [zd0]
 | a :: r, i + 1, e, h => by rw [zd0]; exact zp5 (by simpa using h)
theorem zdC (nm sh) (e : Exp) : zox nm sh e = if e.op = 0 then .ret (zeE e.n)
  else if e.op = 1 then nm e.s
  else if e.op = 10 then (zd0 nm sh e.args 0).bind fun a => if a = 0 then .ret (.ok 0) else (zd0 nm sh e.args 1).bind fun b => .ret (.ok (zdP (decide (b ≠ 0))))
  else if e.op = 11 then (zd0 nm sh e.args 0).bind fun a => if a ≠ 0 then .ret (.ok 1) else (zd0 nm sh e.args 1).bind fun b => .ret (.ok (zdP (decide (b ≠ 0))))
  else if e.op = 12 then (zd0 nm sh e.args 0).bind fun a => .ret (.ok (zdP (decide (a = 0))))
  else if e.op = 13 then (zd0 nm sh e.args 0).bind fun a => if a ≠ 0 then zd0 nm sh e.args 1 else zd0 nm sh e.args 2
  else (zd0 nm sh e.args 0).bind fun a => (zd0 nm sh e.args 1).bind fun b => .ret (zjo e.op ((e.args.take 2).any sh) a b) := by
 cases e with | mk op n u s args => rw [zox]; rfl
def zj2 : Except Int Int -> Int × Int × Bool
 | .ok v => (v, 0, true)
 | .error e => (0, e, true)
def zmy (v e : Int) : Except Int Int := if e = 0 then .ok v else .error e
def nmT (lets : List Let) (given : List UInt8 -> Option Int) : Nat -> List UInt8 -> TM
 | 0, s => .ret (match given s with | some v => .ok v | none => .error 13)
 | n + 1, s => match given s with
  | some v => .ret (.ok v)
  | none => match lets[n]? with
   | none => .ret (.error 13)
   | some l => if l.name = s then fun t => match t[n]? with
          | some (v, e, true) => (zmy v e, t)
          | _ => match zox (nmT lets given n) (zdI (lets.take n)) l.body t with
           | (r, t') => (zmy (zj2 r).1 (zj2 r).2.1, t'.set n (zj2 r))
    else nmT lets given n s
def zcJ (lets : List Let) (given : List UInt8 -> Option Int) (n : Nat) (e : Exp) : TM := zox (nmT lets given n) (zdI (lets.take n)) e
def inC (v : Int) : Prop := -1099511627776 <= v /\ v <= 1099511627776
theorem zkB {n v : Int} (h : zeE n = .ok v) : inC v /\ v = n := by
 unfold zeE at h;split at h
 ·cases h
 ·cases h; exact ⟨by unfold inC; omega, rfl⟩
theorem ziI {n e : Int} (h : zeE n = .error e) : e = 3 := by
 unfold zeE at h;split at h <;> cases h;rfl
theorem zs4 {a b c v : Int} (h : zhn a b c = .ok v) : inC v := by
 unfold zhn at h;split at h
 ·cases h
 ·exact (zkB h).1
theorem zqt {a b c e : Int} (h : zhn a b c = .error e) : e = 3 := by
 unfold zhn at h;split at h
 ·cases h; rfl
 ·exact ziI h
theorem zgI (b : Bool) : inC (zdP b) := by unfold inC zdP; split <;> omega
theorem zvW {op sh a b v} (ha : inC a) (hb : inC b) (h : zjo op sh a b = .ok v) : inC v := by
 unfold zjo at h
 repeat' split at h
 all_goals first
  | exact (zkB h).1
  | exact zs4 h
  | (cases h; done)
  | (cases h; exact zgI _)
  | (cases h; unfold inC at *; omega)
theorem zuc {op sh a b e} (h : zjo op sh a b = .error e) : e = 3 \/ e = 15 := by
 unfold zjo at h
 repeat' split at h
 all_goals first
  | exact .inl (ziI h)
  | exact .inl (zqt h)
  | (cases h; done)
  | (cases h; exact .inr rfl)
structure TabOK (L : Nat) (t : Tab) : Prop where
 len : t.length = L
 small : ∀ (i : Nat) (v e : Int) (d : Bool), t[i]? = some (v, e, d) -> inC v
def TMok (L : Nat) (f : TM) : Prop := ∀ t, TabOK L t -> TabOK L (f t).2 /\ (∀ v, (f t).1 = .ok v -> inC v) /\ (∀ e, (f t).1 = .error e -> e ≠ 0)
theorem TMok.bind {L f g} (hf : TMok L f) (hg : ∀ a, inC a -> TMok L (g a)) : TMok L (TM.bind f g) := fun t ht => by
 obtain ⟨h1, h2, h3⟩ := hf t ht;unfold TM.bind;rcases hft : f t with ⟨r | v, t'⟩
 ·rw [hft] at h1 h3;refine ⟨h1, ?_, ?_⟩
  ·intro v h; cases h
  ·intro e h; exact h3 e h
 ·rw [hft] at h1 h2;exact hg v (h2 v rfl) t' h1
theorem TMok.ret {L} {x : Except Int Int} (h : ∀ v, x = .ok v -> inC v) (he : ∀ e, x = .error e -> e ≠ 0) : TMok L (TM.ret x) := fun t ht => ⟨ht, h, he⟩
theorem TMok.ok {L} {v : Int} (h : inC v) : TMok L (TM.ret (.ok v)) := .ret (fun w hw => by cases hw; exact h) (fun e he => by cases he)
theorem zmE {L nm sh} (hn : ∀ s, TMok L (nm s)) : ∀ (d : Nat) (e : Exp), zbg d e = true -> TMok L (zox nm sh e)
 | 0, e, h => by simp [zbg] at h
 | d + 1, e, h => by
  obtain ⟨h1, h2, h3, h4⟩ := zdT h;rw [zdC];by_cases c0 : e.op = 0
  ·rw [if_pos c0];exact .ret (fun v hv => (zkB hv).1) (fun e he => by rw [ziI he]; decide)
  rw [if_neg c0];by_cases c1 : e.op = 1
  ·rw [if_pos c1];exact hn _
  rw [if_neg c1];have hA : ∀ i : Nat, (i : Int) < zbU e.op -> TMok L (zd0 nm sh e.args i) := fun i hi => by
   have hlt : i < e.args.length := by omega
   rw [zp5 (List.getElem?_eq_getElem hlt)];exact zmE hn d _ (h4 c0 c1 _ (List.getElem_mem hlt))
  have i0 : inC 0 := by unfold inC; omega
  have i1 : inC 1 := by unfold inC; omega
  by_cases c2 : e.op = 10
  ·rw [if_pos c2];rw [c2] at hA;refine .bind (hA 0 (by decide)) fun a ha => ?_;split
   ·exact .ok i0
   ·exact .bind (hA 1 (by decide)) fun b hb => .ok (zgI _)
  rw [if_neg c2];by_cases c3 : e.op = 11
  ·rw [if_pos c3];rw [c3] at hA;refine .bind (hA 0 (by decide)) fun a ha => ?_;split
   ·exact .ok i1
   ·exact .bind (hA 1 (by decide)) fun b hb => .ok (zgI _)
  rw [if_neg c3];by_cases c4 : e.op = 12
  ·rw [if_pos c4];rw [c4] at hA;exact .bind (hA 0 (by decide)) fun a ha => .ok (zgI _)
  rw [if_neg c4];by_cases c5 : e.op = 13
  ·rw [if_pos c5];rw [c5] at hA;refine .bind (hA 0 (by decide)) fun a ha => ?_;split
   ·exact hA 1 (by decide)
   ·exact hA 2 (by decide)
  rw [if_neg c5];have ho : zbU e.op = 2 := by unfold zbU; split <;> first | omega | (split <;> first | omega | (split <;> first | omega | (split <;> omega)))
  rw [ho] at hA;exact .bind (hA 0 (by decide)) fun a ha => .bind (hA 1 (by decide)) fun b hb => .ret (fun v hv => zvW ha hb hv) (fun e he => by rcases zuc he with h | h <;> omega)
theorem zng {r : Except Int Int} (h : ∀ v, r = .ok v -> inC v) : inC (zj2 r).1 := by
 cases r with
 | ok v => exact h v rfl
 | error e => show inC 0; unfold inC; omega
theorem zqD {v e : Int} (h : inC v) : ∀ w, zmy v e = .ok w -> inC w := fun w hw => by
 unfold zmy at hw;split at hw
 ·cases hw; exact h
 ·cases hw
theorem znP {v e w : Int} (hw : zmy v e = .error w) : w ≠ 0 := by
 unfold zmy at hw;split at hw
 ·cases hw
 ·rename_i h; cases hw; exact h
theorem zqQ {lets : List Let} {given : List UInt8 -> Option Int} (hl : ∀ l ∈ lets, zbg 12 l.body = true) (hg : ∀ s v, given s = some v -> inC v) : ∀ n s, TMok lets.length (nmT lets given n s)
 | 0, s => by
  rw [nmT];cases hgs : given s with
  | some v => exact .ok (hg s v hgs)
  | none => exact .ret (fun v hv => by cases hv) (fun e he => by cases he; decide)
 | n + 1, s => by
  rw [nmT];cases hgs : given s with
  | some v => exact .ok (hg s v hgs)
  | none =>
   simp only;cases hx : lets[n]? with
   | none => exact .ret (fun v hv => by cases hv) (fun e he => by cases he; decide)
   | some l =>
    simp only;split
    ·intro t ht;have main : TabOK lets.length ((zox (nmT lets given n) (zdI (lets.take n)) l.body t).2.set n (zj2 (zox (nmT lets given n) (zdI (lets.take n)) l.body t).1)) /\
       (∀ v, zmy (zj2 (zox (nmT lets given n) (zdI (lets.take n)) l.body t).1).1 (zj2 (zox (nmT lets given n) (zdI (lets.take n)) l.body t).1).2.1 = .ok v -> inC v) /\
       (∀ e, zmy (zj2 (zox (nmT lets given n) (zdI (lets.take n)) l.body t).1).1 (zj2 (zox (nmT lets given n) (zdI (lets.take n)) l.body t).1).2.1 = .error e -> e ≠ 0) := by
      obtain ⟨g1, g2, g3⟩ := zmE (zqQ hl hg n) 12 l.body (hl l (List.mem_of_getElem? hx)) (sh := zdI (lets.take n)) t ht;refine ⟨⟨by rw [List.length_set]; exact g1.len, fun i v e d hi => ?_⟩, zqD (zng g2), fun e he => znP he⟩;rw [List.getElem?_set] at hi;split at hi
      ·split at hi
       ·have h5 := zng g2;have h6 := Option.some.inj hi;rw [h6] at h5;exact h5
       ·cases hi
      ·exact g1.small i v e d hi
     rcases hti : t[n]? with _ | ⟨v, e, d⟩
     ·simp only [hti]; exact main
     ·cases d
      ·simp only [hti]; exact main
      ·simp only [hti];exact ⟨ht, zqD (ht.small n v e true hti), fun e he => znP he⟩
    ·exact zqQ hl hg n s
theorem zmF {lets : List Let} {given : List UInt8 -> Option Int} (hl : ∀ l ∈ lets, zbg 12 l.body = true) (hg : ∀ s v, given s = some v -> inC v) (n d : Nat) (e : Exp) (h : zbg d e = true) : TMok lets.length (zcJ lets given n e) :=
 zmE (zqQ hl hg n) d e h
end Go.Proofs.YtmlpcgkaonifcaaGreatDoor
namespace Go.Proofs.YtmlpcgkaonifcaaGreatDoor
open Go Go.VL
def zq9 : Nat -> List UInt8 -> Nat -> Except (Nat × Int) (List Tok)
 | 0, _, _ => .ok []
 | f + 1, s, p =>
  match (s.drop (p + zdt zc1 (s.drop p))) with
  | [] => .ok [⟨0, [], 0, ((p + zdt zc1 (s.drop p) : Nat) : Int)⟩]
  | c :: r => match zjf (c :: r) with
   | .error e => .error (p + zdt zc1 (s.drop p), e)
   | .ok t => match zq9 f s (p + zdt zc1 (s.drop p) + t.text.length) with
    | .error x => .error x
    | .ok l => .ok ({ t with pos := ((p + zdt zc1 (s.drop p) : Nat) : Int) } :: l)
def zpP (s : List UInt8) : Except (Nat × Int) (List Tok) := if 2000 < s.length then .error (0, 6) else zq9 (s.length + 1) s 0
def zjU : Except (Nat × Int) (List Tok) -> D
 | .ok l => .tup [.u (.sl (l.map fun t => [.int .i64 t.kind, .str t.text, .int .i64 t.n, .int .i64 t.pos])), .u (.int .i64 0), .u (.int .i64 0)]
 | .error (p, e) => .tup [.u (.sl []), .u (.int .i64 p), .u (.int .i64 e)]
def zoL (acc : List Tok) : Except (Nat × Int) (List Tok) -> Except (Nat × Int) (List Tok)
 | .ok l => .ok (acc ++ l)
 | .error x => .error x
theorem zqv (x) : zoL [] x = x := by cases x <;> simp [zoL]
theorem zlf {p : UInt8 -> Bool} {c : UInt8} {r : List UInt8} (h : p c = true) : 0 < zdt p (c :: r) := by
 unfold zdt; rw [List.takeWhile_cons, if_pos h]; simp
theorem zhr {s : List UInt8} {t : Tok} (h : zjf s = .ok t) : 0 < t.text.length /\ t.text.length <= s.length := by
 unfold zjf at h;split at h
 ·cases h
 ·rename_i c r;by_cases c1 : zd1 c = true
  ·rw [if_pos c1] at h;split at h
   ·cases h;have h1 := zlf (p := zdW) (c := c) (r := r) (by simp [zdW, c1]);have h2 := zeG zdW (c :: r);simp only [List.length_take];omega
   ·cases h
  ·rw [if_neg c1] at h;by_cases c2 : zb2 c = true
   ·rw [if_pos c2] at h;split at h
    ·cases h;have h1 := zlf (p := zb2) (c := c) (r := r) c2;have h2 := zeG zb2 (c :: r);simp only [List.length_take];omega
    ·cases h
   ·rw [if_neg c2] at h;split at h
    ·rename_i x hx;cases h;have h1 := List.find?_some hx;have h2 := List.mem_of_find?_eq_some hx;refine ⟨?_, (List.isPrefixOf_iff_prefix.1 h1).length_le⟩;simp only [signsL, List.mem_cons, List.not_mem_nil, or_false] at h2;rcases h2 with h | h | h | h | h | h | h | h | h | h | h <;> subst h <;> simp
    ·cases h
def zlb (l : List Tok) : List (List D) := l.map fun t => [.u (.int .i64 t.kind), .u (.str t.text), .u (.int .i64 t.n), .u (.int .i64 t.pos)]
theorem zed (l : List Tok) : (zlb l).length = l.length := by simp [zlb]
theorem zla (l : List Tok) : rowsD (l.map fun t => [U.int .i64 t.kind, .str t.text, .int .i64 t.n, .int .i64 t.pos]) = zlb l := by simp [rowsD, zlb, Function.comp_def]
theorem znE (l : List Tok) : zct (zlb l) = some (l.map fun t => [U.int .i64 t.kind, .str t.text, .int .i64 t.n, .int .i64 t.pos]) := by rw [<- zla]; simp
theorem ziq (l) : za2 (zlb l) = True := by rw [<- zla]; simp
theorem zhg (n : Nat) (l) : (∀ x ∈ zlb l, ∀ y ∈ x, D.under n y = true) ↔ True := by
 refine ⟨fun _ => trivial, fun _ x hx y hy => ?_⟩;obtain ⟨b, _, rfl⟩ := List.mem_map.1 hx;simp at hy;rcases hy with rfl | rfl | rfl | rfl <;> simp [D.under]
end Go.Proofs.YtmlpcgkaonifcaaGreatDoor
namespace Go.Proofs.YtmlpcgkaonifcaaGreatDoor
open Go Go.VL
abbrev zqg (l : List Tok) : U := .sl (l.map fun t => [.int .i64 t.kind, .str t.text, .int .i64 t.n, .int .i64 t.pos])
abbrev pOb (l : List Tok) (p : Nat) : Ob := .box [.u (zqg l), .u (.int .i64 p)]
abbrev zuw (l : List Tok) (p : Nat) : U := .row [zqg l, .int .i64 p] 0
structure TokOK (l : List Tok) : Prop where
 fin : ∀ (i : Nat) (t : Tok), l[i]? = some t -> t.kind ≠ 0 -> i + 1 < l.length
 len : l.length <= 1000000
def isB (l : List Tok) (p : Nat) (w : List UInt8) : Bool := match l[p]? with | some t => decide (t.kind ≠ 0) && decide (t.text = w) | none => false
theorem zbR {l : List Tok} {p : Nat} {w : List UInt8} (hl : TokOK l) (h : isB l p w = true) : p + 1 < l.length := by
 unfold isB at h;split at h
 ·rename_i t ht;simp only [Bool.and_eq_true, decide_eq_true_eq] at h;exact hl.fin p t ht h.1
 ·cases h
end Go.Proofs.YtmlpcgkaonifcaaGreatDoor
namespace Go.Proofs.YtmlpcgkaonifcaaGreatDoor
open Go Go.VL
def zrG (b : By) (c : List Int) : Bool := zxh b.lets 2 12 && zmA b.due 12 && zmA b.fine 12 && zmA b.pay 12 && zmA b.cover 12 && zmA b.hold 12 && decide (b.last <= 12) && decide (c.length <= 9)
end Go.Proofs.YtmlpcgkaonifcaaGreatDoor
namespace Go.Proofs.YtmlpcgkaonifcaaGreatDoor
open Go Go.VL
attribute [local simp] HS zbw zc2 zcq evPure opd uOf zay St.put St.at getK binD binI binS binB nilD aggD zfJ zge lookD lookR zcn rangeS Go.VL.nextD Go.VL.nextS zcr zgk zgh zfs zcv mkV zbi zaT zaS zaR zc0 zaP zba zbs mapEff zdE zfp Key.kk shiftI arith unD convD zdu loadD cellsAt fieldAddrD fieldD indexAddrD indexSlD arrAddr indexD sliceD cutD lenD minmaxD nilCheckD buildD fillD zb0 zc7 zeD setAll zcW zef zck zfv zcj St.add zaw zbB rowsOf zdg zcw zad zac zaa zbz zda za3 entry zbO zbT valD zcm zcB zfw zdb zdc zb4 zbP zam zaW zbj delAll effD St.effS zcF zaU zaH zcG zaV zaJ zbY zaI zaA zbZ zcD zbv zbX za9 zbV zbW zar mkD zcl zbG zbK zam zcu D.ids Op.operands Call.operands zbH makeIfD makeFuncD typeAssertD zgd zdm zdn zf8 zco IntKind.bits zct zaz List.take_of_length_le List.range_succ zcO zcf zcP zcK zbD zb6 zb8 zcL zca zbe zb9 zb7 zhc zce zcM zaZ zaL zcN za0 zaN zcd zaM zaF zcS zcT zha zab frzN frz1 zav zau St.frz St.frzS frzS fv za1 zbm zbn frzObS zat zan frz zbL zbq zbr zbN zb5 zcc za7 St.norm St.lp St.only zax wkE wkO wkU Ob.under D.under zaj zak zcQ zcg zcR h4s zea zaC zbC List.zipIdx_cons List.zipIdx_nil zzC zzD Nat.zero_add
attribute [local irreducible] V G H HD HD2 HD4 zhd RetX zbf Eff CallP CallV EndOK Fun Ret FinOK LoopI LoopW EndW HR vs2 RN Cnd H4
theorem zjA (lets : List Let) (e : Exp) : Fun Tryz.prog 140 [.u (zaQ lets), zdo e] (· = .u (.bool (zdI lets e))) := by
 have h1 := zrm lets [] e;have hk : okJ lets [] e = zdK lets e := by simp [okJ]
 unfold zdI;unfold zrn at h1;rw [hk] at h1;cases hK : zdK lets e
 ·rw [hK] at h1;simp only [zaQ, zdS, zdo, Bool.false_eq_true, if_false, zzD] at h1 ⊢;refine Fun.run Tryz.func140 Tryz.ntmps140 Tryz.results140 rfl (by simp) fun Γ hn => ?_
  repeat' (first
  | (refine zaf rfl ?_; simp)
  | (refine CallP.f2 rfl (h1) (by first | simp <;> rfl | fail) ?_; simp)
  | fail)
  (refine Pst.of ?_; simp)
 ·rw [hK] at h1;have h2 := zeS (gOf []) (mOf (gOf []) lets) 12 e (zjF hK).2.1;have hg : gOf [] = [] := rfl;rw [hg] at h1 h2;simp only [zaQ, zdS, zdo, if_true, jU, zzD] at h1 h2 ⊢;generalize zgi (sF (mOf [] lets)) e = r at h2 ⊢;refine Fun.run Tryz.func140 Tryz.ntmps140 Tryz.results140 rfl (by simp) fun Γ hn => ?_
  repeat' (first
  | (refine zaf rfl ?_; simp)
  | ((first | refine CallP.f2 rfl (h1) (by first | simp <;> rfl | fail) ?_ | refine CallP.f2 rfl (h2) (by first | simp <;> rfl | fail) ?_ | fail); simp)
  | fail)
  (refine Pst.of ?_; simp)
def chF (e : Int) : List PanicEntry := [{ v := .iface 163 (.agg #[.int .i64 e]), recovered := false }]
def zdj : Except Int Int -> Out
 | .ok v => .val (.u (.int .i64 v))
 | .error e => .pan (chF e)
theorem zd3 (b : Bool) : Fun Tryz.prog 125 [.u (.bool b)] (· = .u (.int .i64 (zdP b))) := by
 cases b
 all_goals
  refine Fun.run Tryz.func125 Tryz.ntmps125 Tryz.results125 rfl (by simp) fun Γ hn => ?_
  repeat' (first
  | (refine zaf rfl ?_; simp)
  | fail)
  (refine Pst.of ?_; simp)
 all_goals (try rfl)
theorem ze4 (n : Int) (nx : Nat) : RetX Tryz.prog 123 [.u (.int .i64 n)] [] nx (fun r o m => r = zdj (zeE n) /\ o = [] /\ m = nx) := by
 unfold zeE;by_cases h1 : 1099511627776 < n
 ·refine RetX.runW Tryz.func123 Tryz.ntmps123 rfl (by simp) fun Γ hn hpan => ?_
  repeat' (first
  | (refine zaf rfl ?_; simp [h1])
  | fail)
  (refine hpan _ _ (PanG.k ([]) (nx) (by simp [hn] <;> omega) ?_); try simp)
  all_goals try simp [h1, zdj, chF]
 ·by_cases h2 : n < -1099511627776
  ·refine RetX.runW Tryz.func123 Tryz.ntmps123 rfl (by simp) fun Γ hn hpan => ?_
   repeat' (first
  | (refine zaf rfl ?_; simp [h1, h2])
  | fail)
   (refine hpan _ _ (PanG.k ([]) (nx) (by simp [hn] <;> omega) ?_); try simp)
   all_goals try simp [h1, h2, zdj, chF]
  ·refine RetX.runW Tryz.func123 Tryz.ntmps123 rfl (by simp) fun Γ hn hpan => ?_
   repeat' (first
  | (refine zaf rfl ?_; simp [h1, h2])
  | fail)
   (refine EndW.h Tryz.results123 ?_; simp)
   all_goals try simp [h1, h2, zdj]
theorem zhh (a b : Int) (hb : b ≠ 0) : (a.tdiv b).natAbs <= a.natAbs := by
 rw [Int.natAbs_tdiv];exact Nat.div_le_self _ _
theorem zjc (a b : Int) : (a.tdiv b * b).natAbs <= a.natAbs := by
 rw [Int.natAbs_mul, Int.natAbs_tdiv];exact Nat.div_mul_le_self _ _
theorem ziR (a b : Int) (ha : -1000000000000000000 <= a /\ a <= 1000000000000000000) (hb : b ≠ 0) (hb2 : -1000000000000000000 <= b /\ b <= 1000000000000000000) :
  Fun Tryz.prog 142 [.u (.int .i64 a), .u (.int .i64 b)] (· = .u (.int .i64 (zgX a b))) := by
 have h1 := zhh a b hb;have h2 := zjc a b;unfold zgX;generalize hq : a.tdiv b = q at *;generalize hp : q * b = p at *;by_cases c1 : p = a
 ·refine Fun.run Tryz.func142 Tryz.ntmps142 Tryz.results142 rfl (by simp) fun Γ hn => ?_
  repeat' (first
  | (refine zaf rfl ?_; simp [hb, hq, hp, c1])
  | (refine And.intro (by omega) ?_)
  | fail)
  (refine Pst.of ?_; simp)
  all_goals try simp [c1]
 ·by_cases c2 : a < 0 <;> by_cases c3 : b < 0
  all_goals
   refine Fun.run Tryz.func142 Tryz.ntmps142 Tryz.results142 rfl (by simp) fun Γ hn => ?_
   repeat' (first
  | (refine zaf rfl ?_; simp [hb, hq, hp, c1, c2, c3])
  | (refine And.intro (by omega) ?_)
  | fail)
   (refine Pst.of ?_; simp)
  all_goals simp [c1, c2, c3]
theorem zoK {a b L : Int} (hL : 0 <= L) (h1 : ¬ L.tdiv (max a (-a)) < b) (h2 : ¬ b < (-L).tdiv (max a (-a))) : -L <= a * b /\ a * b <= L := by
 have hm : (max a (-a)).natAbs = a.natAbs := by omega
 have h3 : (L.tdiv (max a (-a))).natAbs * a.natAbs <= L.natAbs := by
  rw [Int.natAbs_tdiv, hm];exact Nat.div_mul_le_self _ _
 have h4 : ((-L).tdiv (max a (-a))).natAbs * a.natAbs <= L.natAbs := by
  rw [Int.natAbs_tdiv, hm, Int.natAbs_neg];exact Nat.div_mul_le_self _ _
 have h5 : b.natAbs <= max (L.tdiv (max a (-a))).natAbs ((-L).tdiv (max a (-a))).natAbs := by omega
 have h6 : (a * b).natAbs <= L.natAbs := by
  rw [Int.natAbs_mul, Nat.mul_comm];refine Nat.le_trans (Nat.mul_le_mul_right _ h5) ?_;rcases Nat.le_total (L.tdiv (max a (-a))).natAbs ((-L).tdiv (max a (-a))).natAbs with h | h
  ·rw [Nat.max_eq_right h]; exact h4
  ·rw [Nat.max_eq_left h]; exact h3
 omega
theorem zgt (a b c : Int) (nx : Nat) (ha : inC a) (hb : inC b) (hc : 1 <= c /\ c <= 1000) :
  RetX Tryz.prog 141 [.u (.int .i64 a), .u (.int .i64 b), .u (.int .i64 c)] [] nx (fun r o m => r = zdj (zhn a b c) /\ o = [] /\ m = nx) := by
 unfold inC at ha hb;unfold zhn;have hm : a ≠ 0 -> max a (-a) ≠ 0 := by omega
 have hL := zoK (a := a) (b := b) (L := 1099511627777 * c) (by omega);have q1 := zhh (1099511627777 * c) (max a (-a));have q2 := zhh (-(1099511627777 * c)) (max a (-a));generalize hl : (1099511627777 * c : Int) = L at *;generalize hM : max a (-a) = M at *;generalize hq1 : L.tdiv M = Q1 at *;generalize hq2 : (-L).tdiv M = Q2 at *;by_cases c0 : a = 0
 ·subst c0;have hf := ziR 0 c (by omega) (by omega) (by omega);have hck := fun nx' => ze4 (zgX 0 c) nx';rw [if_neg (by simp)];simp only [Int.zero_mul];cases hk : zeE (zgX 0 c) with
  | ok v =>
   simp only [hk, zdj] at hck ⊢;refine RetX.runW Tryz.func141 Tryz.ntmps141 rfl (by simp) fun Γ hn hpan => ?_
   repeat' (first
  | (refine zaf rfl ?_; simp [hl, hM, hq1, hq2])
  | (refine And.intro (by omega) ?_)
  | (refine CallP.f2 rfl (hf) (by first | simp [hl, hM, hq1, hq2] <;> rfl | fail) ?_; simp [hl, hM, hq1, hq2])
  | (refine CallP.okL (hck _) (by first | (simp [hl, hM, hq1, hq2, zaa, getK, zab, zac, zad, zar, del]; done) | fail) (by rfl) (by first | assumption | (simp; done) | fail) (by rfl) (by simp) ?_; (try simp [hl, hM, hq1, hq2, zcZ, del]))
  | fail)
   (refine EndW.h Tryz.results141 ?_; simp)
  | error e =>
   simp only [hk, zdj] at hck ⊢;refine RetX.runW Tryz.func141 Tryz.ntmps141 rfl (by simp) fun Γ hn hpan => ?_
   repeat' (first
  | (refine zaf rfl ?_; simp [hl, hM, hq1, hq2])
  | (refine And.intro (by omega) ?_)
  | (refine CallP.f2 rfl (hf) (by first | simp [hl, hM, hq1, hq2] <;> rfl | fail) ?_; simp [hl, hM, hq1, hq2])
  | (refine CallP.zkV (hck _) (by first | (simp [hl, hM, hq1, hq2, zaa, getK, zab, zac, zad, zar, del]; done) | fail) (by rfl) (by first | assumption | (simp; done) | fail) (by rfl) (by simp) ?_; refine ⟨_, Wk.refl _, ?_⟩; (try simp [hl, hM, hq1, hq2, zcZ, del]))
  | fail)
   (refine hpan _ _ (PanG.k ([]) (nx) (by simp [hn] <;> omega) ?_); try simp)
 have hM0 := hm c0;have q1 := q1 hM0;have q2 := q2 hM0;by_cases c1 : Q1 < b
 ·rw [if_pos ⟨c0, .inl c1⟩];refine RetX.runW Tryz.func141 Tryz.ntmps141 rfl (by simp) fun Γ hn hpan => ?_
  repeat' (first
  | (refine zaf rfl ?_; simp [c0, c1, hl, hM, hM0, hq1, hq2])
  | (refine And.intro (by omega) ?_)
  | fail)
  (refine hpan _ _ (PanG.k ([]) (nx) (by simp [hn] <;> omega) ?_); try simp)
  all_goals (try simp [zdj, chF])
 by_cases c2 : b < Q2
 ·rw [if_pos ⟨c0, .inr c2⟩];refine RetX.runW Tryz.func141 Tryz.ntmps141 rfl (by simp) fun Γ hn hpan => ?_
  repeat' (first
  | (refine zaf rfl ?_; simp [c0, c1, c2, hl, hM, hM0, hq1, hq2])
  | (refine And.intro (by omega) ?_)
  | fail)
  (refine hpan _ _ (PanG.k ([]) (nx) (by simp [hn] <;> omega) ?_); try simp)
  all_goals (try simp [zdj, chF])
 rw [if_neg (by rintro ⟨_, h | h⟩ <;> contradiction)];obtain ⟨hL1, hL2⟩ := hL c1 c2;have hf := ziR (a * b) c (by omega) (by omega) (by omega);have hck := fun nx' => ze4 (zgX (a * b) c) nx';cases hk : zeE (zgX (a * b) c) with
 | ok v =>
  simp only [hk, zdj] at hck ⊢;refine RetX.runW Tryz.func141 Tryz.ntmps141 rfl (by simp) fun Γ hn hpan => ?_
  repeat' (first
  | (refine zaf rfl ?_; simp [c0, c1, c2, hl, hM, hM0, hq1, hq2])
  | (refine And.intro (by omega) ?_)
  | (refine CallP.f2 rfl (hf) (by first | simp [c0, c1, c2, hl, hM, hM0, hq1, hq2] <;> rfl | fail) ?_; simp [c0, c1, c2, hl, hM, hM0, hq1, hq2])
  | (refine CallP.okL (hck _) (by first | (simp [c0, c1, c2, hl, hM, hM0, hq1, hq2, zaa, getK, zab, zac, zad, zar, del]; done) | fail) (by rfl) (by first | assumption | (simp; done) | fail) (by rfl) (by simp) ?_; (try simp [c0, c1, c2, hl, hM, hM0, hq1, hq2, zcZ, del]))
  | fail)
  (refine EndW.h Tryz.results141 ?_; simp)
 | error e =>
  simp only [hk, zdj] at hck ⊢;refine RetX.runW Tryz.func141 Tryz.ntmps141 rfl (by simp) fun Γ hn hpan => ?_
  repeat' (first
  | (refine zaf rfl ?_; simp [c0, c1, c2, hl, hM, hM0, hq1, hq2])
  | (refine And.intro (by omega) ?_)
  | (refine CallP.f2 rfl (hf) (by first | simp [c0, c1, c2, hl, hM, hM0, hq1, hq2] <;> rfl | fail) ?_; simp [c0, c1, c2, hl, hM, hM0, hq1, hq2])
  | (refine CallP.zkV (hck _) (by first | (simp [c0, c1, c2, hl, hM, hM0, hq1, hq2, zaa, getK, zab, zac, zad, zar, del]; done) | fail) (by rfl) (by first | assumption | (simp; done) | fail) (by rfl) (by simp) ?_; refine ⟨_, Wk.refl _, ?_⟩; (try simp [c0, c1, c2, hl, hM, hM0, hq1, hq2, zcZ, del]))
  | fail)
  (refine hpan _ _ (PanG.k ([]) (nx) (by simp [hn] <;> omega) ?_); try simp)
abbrev mOb (lets : List Let) (r : Nat) (g : GM) : Ob := .box [.u (zaQ lets), .vec r lets.length, .u (.map .s false (zrx g))]
theorem zpM (lets : List Let) (r : Nat) (g : GM) (m nx : Nat) (hm : m < nx) (hr : r < nx) (e x y : Exp) (a b : Int) (n : Nat) (hnl : n <= lets.length) (hl : lets.length <= 20) (he : e.args = [x, y]) (ha : inC a) (hb : inC b)
  (hop : 2 <= e.op /\ e.op <= 9) :
  RetX Tryz.prog 126 [.ptr m 0, zdo e, .u (.int .i64 a), .u (.int .i64 b), .u (.int .i64 n)] [(m, mOb lets r g)] nx
   (fun o obs n' => o = zdj (zjo e.op (zdI (lets.take n) x || zdI (lets.take n) y) a b) /\ obs = [(m, mOb lets r g)] /\ n' = nx) := by
 have hne := nef hm;have hab := ha;have hbb := hb;unfold inC at ha hb;have hf := zd3 true;unfold mOb zaQ zdo;rw [he];simp only [zzC, zzD];by_cases c : e.op = 2
 ·obtain ⟨Z, hZ⟩ : ∃ Z, a + b = Z := ⟨_, rfl⟩;have hck := fun nx' => ze4 Z nx';rw [c, show ∀ sh, zjo 2 sh a b = zeE Z from fun sh => by rw [<- hZ]; rfl];cases hk : zeE Z with
  | ok v =>
   simp only [hk, zdj] at hck ⊢;refine RetX.runW Tryz.func126 Tryz.ntmps126 rfl (by simp) fun Γ hn hpan => ?_
   repeat' (first
  | (refine zaf rfl ?_; simp [c, hne, hZ])
  | (refine And.intro (by omega) ?_)
  | (refine CallP.okL (hck _) (by first | (simp [c, hne, hZ, zaa, getK, zab, zac, zad, zar, del]; done) | fail) (by rfl) (by first | assumption | (simp; done) | fail) (by rfl) (by simp) ?_; (try simp [c, hne, hZ, zcZ, del]))
  | fail)
   (refine EndW.z ([(m, mOb lets r g)]) (N := nx) Tryz.results126 (by simp [hne, hm, hr, zaQ] <;> omega) ?_; simp [hne, hm, hr, zaQ])
   all_goals rfl
  | error err =>
   simp only [hk, zdj] at hck ⊢;refine RetX.runW Tryz.func126 Tryz.ntmps126 rfl (by simp) fun Γ hn hpan => ?_
   repeat' (first
  | (refine zaf rfl ?_; simp [c, hne, hZ])
  | (refine And.intro (by omega) ?_)
  | (refine CallP.zkV (hck _) (by first | (simp [c, hne, hZ, zaa, getK, zab, zac, zad, zar, del]; done) | fail) (by rfl) (by first | assumption | (simp; done) | fail) (by rfl) (by simp) ?_; refine ⟨_, Wk.refl _, ?_⟩; (try simp [c, hne, hZ, zcZ, del]))
  | fail)
   (refine hpan _ _ (PanG.k ([(m, mOb lets r g)]) (nx) (by simp [hn, hm, hr, hne, zaQ, zab, zac, zaa, getK] <;> omega) ?_); try simp)
   all_goals rfl
 by_cases c : e.op = 3
 ·obtain ⟨Z, hZ⟩ : ∃ Z, a - b = Z := ⟨_, rfl⟩;have hck := fun nx' => ze4 Z nx';rw [c, show ∀ sh, zjo 3 sh a b = zeE Z from fun sh => by rw [<- hZ]; rfl];cases hk : zeE Z with
  | ok v =>
   simp only [hk, zdj] at hck ⊢;refine RetX.runW Tryz.func126 Tryz.ntmps126 rfl (by simp) fun Γ hn hpan => ?_
   repeat' (first
  | (refine zaf rfl ?_; simp [c, hne, hZ])
  | (refine And.intro (by omega) ?_)
  | (refine CallP.okL (hck _) (by first | (simp [c, hne, hZ, zaa, getK, zab, zac, zad, zar, del]; done) | fail) (by rfl) (by first | assumption | (simp; done) | fail) (by rfl) (by simp) ?_; (try simp [c, hne, hZ, zcZ, del]))
  | fail)
   (refine EndW.z ([(m, mOb lets r g)]) (N := nx) Tryz.results126 (by simp [hne, hm, hr, zaQ] <;> omega) ?_; simp [hne, hm, hr, zaQ])
   all_goals rfl
  | error err =>
   simp only [hk, zdj] at hck ⊢;refine RetX.runW Tryz.func126 Tryz.ntmps126 rfl (by simp) fun Γ hn hpan => ?_
   repeat' (first
  | (refine zaf rfl ?_; simp [c, hne, hZ])
  | (refine And.intro (by omega) ?_)
  | (refine CallP.zkV (hck _) (by first | (simp [c, hne, hZ, zaa, getK, zab, zac, zad, zar, del]; done) | fail) (by rfl) (by first | assumption | (simp; done) | fail) (by rfl) (by simp) ?_; refine ⟨_, Wk.refl _, ?_⟩; (try simp [c, hne, hZ, zcZ, del]))
  | fail)
   (refine hpan _ _ (PanG.k ([(m, mOb lets r g)]) (nx) (by simp [hn, hm, hr, hne, zaQ, zab, zac, zaa, getK] <;> omega) ?_); try simp)
   all_goals rfl
 by_cases c : e.op = 4
 ·have hs1 := zjA (lets.take n) x;have hs2 := zjA (lets.take n) y;rw [c];simp only [zaQ, List.map_take, zdo] at hs1 hs2;rw [Exp.row_eq x, Exp.row_eq y];cases hx : zdI (lets.take n) x
  ·rw [hx] at hs1;cases hy : zdI (lets.take n) y
   ·rw [hy] at hs2;have hck := fun nx' => zgt a b 1 nx' hab hbb (by omega);rw [show zjo 4 (false || false) a b = zhn a b 1 from rfl];cases hk : zhn a b 1 with
    | ok v =>
     simp only [hk, zdj] at hck ⊢;refine RetX.runW Tryz.func126 Tryz.ntmps126 rfl (by simp) fun Γ hn hpan => ?_
     repeat' (first
  | (refine zaf rfl ?_; simp [c, hne, del])
  | (refine And.intro (by omega) ?_)
  | (refine ⟨hC _ (zb1 [m] nx (by simp <;> omega) (by simp <;> omega) (by apply Exists.intro; apply And.intro; (focus (repeat' (first | exact KF.nil | exact KL.nil | apply KF.cons | apply KL.cons 0 rfl | apply KL.cons 1 rfl | apply KL.cons 2 rfl | apply KL.cons 3 rfl | apply KL.cons 4 rfl | apply KL.cons 5 rfl | apply KL.cons 6 rfl | apply KL.cons 7 rfl | apply KL.cons 8 rfl | apply KL.cons 9 rfl))); kernel_rfl)), hk _ (zdH 8 _ _ _ ?_)⟩; clear hC hk C k; simp [c, hne, del])
  | (refine zdx rfl (by kernel_rfl) (by first | (simp [hn] <;> omega) | fail) fun C k hC hk => ?_; simp [c, hne, del])
  | (refine zcA rfl ?_; simp [c, hne, del])
  | (refine zbQ rfl ?_; simp [c, hne, del])
  | (refine zdf rfl ?_; simp [c, hne, del])
  | ((first | refine CallV.f2 rfl (hs1) (by first | simp [c, hne, del] <;> rfl | fail) ?_ | refine CallV.f2 rfl (hs2) (by first | simp [c, hne, del] <;> rfl | fail) ?_ | fail); simp [c, hne, del])
  | (refine CallP.okL (hck _) (by first | (simp [c, hne, del, zaa, getK, zab, zac, zad, zar, del]; done) | fail) (by rfl) (by first | assumption | (simp; done) | fail) (by rfl) (by simp) ?_; (try simp [c, hne, del, zcZ, del]))
  | fail)
     (refine EndW.z ([(m, mOb lets r g)]) (N := nx) Tryz.results126 (by simp [hne, hm, hr, zaQ] <;> omega) ?_; simp [hne, hm, hr, zaQ])
     all_goals rfl
    | error err =>
     simp only [hk, zdj] at hck ⊢;refine RetX.runW Tryz.func126 Tryz.ntmps126 rfl (by simp) fun Γ hn hpan => ?_
     repeat' (first
  | (refine zaf rfl ?_; simp [c, hne, del])
  | (refine And.intro (by omega) ?_)
  | (refine ⟨hC _ (zb1 [m] nx (by simp <;> omega) (by simp <;> omega) (by apply Exists.intro; apply And.intro; (focus (repeat' (first | exact KF.nil | exact KL.nil | apply KF.cons | apply KL.cons 0 rfl | apply KL.cons 1 rfl | apply KL.cons 2 rfl | apply KL.cons 3 rfl | apply KL.cons 4 rfl | apply KL.cons 5 rfl | apply KL.cons 6 rfl | apply KL.cons 7 rfl | apply KL.cons 8 rfl | apply KL.cons 9 rfl))); kernel_rfl)), hk _ (zdH 8 _ _ _ ?_)⟩; clear hC hk C k; simp [c, hne, del])
  | (refine zdx rfl (by kernel_rfl) (by first | (simp [hn] <;> omega) | fail) fun C k hC hk => ?_; simp [c, hne, del])
  | (refine zcA rfl ?_; simp [c, hne, del])
  | (refine zbQ rfl ?_; simp [c, hne, del])
  | (refine zdf rfl ?_; simp [c, hne, del])
  | ((first | refine CallV.f2 rfl (hs1) (by first | simp [c, hne, del] <;> rfl | fail) ?_ | refine CallV.f2 rfl (hs2) (by first | simp [c, hne, del] <;> rfl | fail) ?_ | fail); simp [c, hne, del])
  | (refine CallP.zkV (hck _) (by first | (simp [c, hne, del, zaa, getK, zab, zac, zad, zar, del]; done) | fail) (by rfl) (by first | assumption | (simp; done) | fail) (by rfl) (by simp) ?_; refine ⟨_, Wk.refl _, ?_⟩; (try simp [c, hne, del, zcZ, del]))
  | fail)
     (refine hpan _ _ (PanG.k ([(m, mOb lets r g)]) (nx) (by simp [hn, hm, hr, hne, zaQ, zab, zac, zaa, getK] <;> omega) ?_); try simp)
     all_goals rfl
   ·rw [hy] at hs2;have hck := fun nx' => zgt a b 1000 nx' hab hbb (by omega);rw [show zjo 4 (false || true) a b = zhn a b 1000 from rfl];cases hk : zhn a b 1000 with
    | ok v =>
     simp only [hk, zdj] at hck ⊢;refine RetX.runW Tryz.func126 Tryz.ntmps126 rfl (by simp) fun Γ hn hpan => ?_
     repeat' (first
  | (refine zaf rfl ?_; simp [c, hne, del])
  | (refine And.intro (by omega) ?_)
  | (refine ⟨hC _ (zb1 [m] nx (by simp <;> omega) (by simp <;> omega) (by apply Exists.intro; apply And.intro; (focus (repeat' (first | exact KF.nil | exact KL.nil | apply KF.cons | apply KL.cons 0 rfl | apply KL.cons 1 rfl | apply KL.cons 2 rfl | apply KL.cons 3 rfl | apply KL.cons 4 rfl | apply KL.cons 5 rfl | apply KL.cons 6 rfl | apply KL.cons 7 rfl | apply KL.cons 8 rfl | apply KL.cons 9 rfl))); kernel_rfl)), hk _ (zdH 8 _ _ _ ?_)⟩; clear hC hk C k; simp [c, hne, del])
  | (refine zdx rfl (by kernel_rfl) (by first | (simp [hn] <;> omega) | fail) fun C k hC hk => ?_; simp [c, hne, del])
  | (refine zcA rfl ?_; simp [c, hne, del])
  | (refine zbQ rfl ?_; simp [c, hne, del])
  | (refine zdf rfl ?_; simp [c, hne, del])
  | ((first | refine CallV.f2 rfl (hs1) (by first | simp [c, hne, del] <;> rfl | fail) ?_ | refine CallV.f2 rfl (hs2) (by first | simp [c, hne, del] <;> rfl | fail) ?_ | fail); simp [c, hne, del])
  | (refine CallP.okL (hck _) (by first | (simp [c, hne, del, zaa, getK, zab, zac, zad, zar, del]; done) | fail) (by rfl) (by first | assumption | (simp; done) | fail) (by rfl) (by simp) ?_; (try simp [c, hne, del, zcZ, del]))
  | fail)
     (refine EndW.z ([(m, mOb lets r g)]) (N := nx) Tryz.results126 (by simp [hne, hm, hr, zaQ] <;> omega) ?_; simp [hne, hm, hr, zaQ])
     all_goals rfl
    | error err =>
     simp only [hk, zdj] at hck ⊢;refine RetX.runW Tryz.func126 Tryz.ntmps126 rfl (by simp) fun Γ hn hpan => ?_
     repeat' (first
  | (refine zaf rfl ?_; simp [c, hne, del])
  | (refine And.intro (by omega) ?_)
  | (refine ⟨hC _ (zb1 [m] nx (by simp <;> omega) (by simp <;> omega) (by apply Exists.intro; apply And.intro; (focus (repeat' (first | exact KF.nil | exact KL.nil | apply KF.cons | apply KL.cons 0 rfl | apply KL.cons 1 rfl | apply KL.cons 2 rfl | apply KL.cons 3 rfl | apply KL.cons 4 rfl | apply KL.cons 5 rfl | apply KL.cons 6 rfl | apply KL.cons 7 rfl | apply KL.cons 8 rfl | apply KL.cons 9 rfl))); kernel_rfl)), hk _ (zdH 8 _ _ _ ?_)⟩; clear hC hk C k; simp [c, hne, del])
  | (refine zdx rfl (by kernel_rfl) (by first | (simp [hn] <;> omega) | fail) fun C k hC hk => ?_; simp [c, hne, del])
  | (refine zcA rfl ?_; simp [c, hne, del])
  | (refine zbQ rfl ?_; simp [c, hne, del])
  | (refine zdf rfl ?_; simp [c, hne, del])
  | ((first | refine CallV.f2 rfl (hs1) (by first | simp [c, hne, del] <;> rfl | fail) ?_ | refine CallV.f2 rfl (hs2) (by first | simp [c, hne, del] <;> rfl | fail) ?_ | fail); simp [c, hne, del])
  | (refine CallP.zkV (hck _) (by first | (simp [c, hne, del, zaa, getK, zab, zac, zad, zar, del]; done) | fail) (by rfl) (by first | assumption | (simp; done) | fail) (by rfl) (by simp) ?_; refine ⟨_, Wk.refl _, ?_⟩; (try simp [c, hne, del, zcZ, del]))
  | fail)
     (refine hpan _ _ (PanG.k ([(m, mOb lets r g)]) (nx) (by simp [hn, hm, hr, hne, zaQ, zab, zac, zaa, getK] <;> omega) ?_); try simp)
     all_goals rfl
  ·rw [hx] at hs1;have hck := fun nx' => zgt a b 1000 nx' hab hbb (by omega);rw [show ∀ z, zjo 4 (true || z) a b = zhn a b 1000 from fun z => rfl];cases hk : zhn a b 1000 with
   | ok v =>
    simp only [hk, zdj] at hck ⊢;refine RetX.runW Tryz.func126 Tryz.ntmps126 rfl (by simp) fun Γ hn hpan => ?_
    repeat' (first
  | (refine zaf rfl ?_; simp [c, hne, del])
  | (refine And.intro (by omega) ?_)
  | (refine ⟨hC _ (zb1 [m] nx (by simp <;> omega) (by simp <;> omega) (by apply Exists.intro; apply And.intro; (focus (repeat' (first | exact KF.nil | exact KL.nil | apply KF.cons | apply KL.cons 0 rfl | apply KL.cons 1 rfl | apply KL.cons 2 rfl | apply KL.cons 3 rfl | apply KL.cons 4 rfl | apply KL.cons 5 rfl | apply KL.cons 6 rfl | apply KL.cons 7 rfl | apply KL.cons 8 rfl | apply KL.cons 9 rfl))); kernel_rfl)), hk _ (zdH 8 _ _ _ ?_)⟩; clear hC hk C k; simp [c, hne, del])
  | (refine zdx rfl (by kernel_rfl) (by first | (simp [hn] <;> omega) | fail) fun C k hC hk => ?_; simp [c, hne, del])
  | (refine zcA rfl ?_; simp [c, hne, del])
  | (refine zbQ rfl ?_; simp [c, hne, del])
  | ((first | refine CallV.f2 rfl (hs1) (by first | simp [c, hne, del] <;> rfl | fail) ?_ | refine CallV.f2 rfl (hs2) (by first | simp [c, hne, del] <;> rfl | fail) ?_ | fail); simp [c, hne, del])
  | (refine CallP.okL (hck _) (by first | (simp [c, hne, del, zaa, getK, zab, zac, zad, zar, del]; done) | fail) (by rfl) (by first | assumption | (simp; done) | fail) (by rfl) (by simp) ?_; (try simp [c, hne, del, zcZ, del]))
  | fail)
    (refine EndW.z ([(m, mOb lets r g)]) (N := nx) Tryz.results126 (by simp [hne, hm, hr, zaQ] <;> omega) ?_; simp [hne, hm, hr, zaQ])
    all_goals rfl
   | error err =>
    simp only [hk, zdj] at hck ⊢;refine RetX.runW Tryz.func126 Tryz.ntmps126 rfl (by simp) fun Γ hn hpan => ?_
    repeat' (first
  | (refine zaf rfl ?_; simp [c, hne, del])
  | (refine And.intro (by omega) ?_)
  | (refine ⟨hC _ (zb1 [m] nx (by simp <;> omega) (by simp <;> omega) (by apply Exists.intro; apply And.intro; (focus (repeat' (first | exact KF.nil | exact KL.nil | apply KF.cons | apply KL.cons 0 rfl | apply KL.cons 1 rfl | apply KL.cons 2 rfl | apply KL.cons 3 rfl | apply KL.cons 4 rfl | apply KL.cons 5 rfl | apply KL.cons 6 rfl | apply KL.cons 7 rfl | apply KL.cons 8 rfl | apply KL.cons 9 rfl))); kernel_rfl)), hk _ (zdH 8 _ _ _ ?_)⟩; clear hC hk C k; simp [c, hne, del])
  | (refine zdx rfl (by kernel_rfl) (by first | (simp [hn] <;> omega) | fail) fun C k hC hk => ?_; simp [c, hne, del])
  | (refine zcA rfl ?_; simp [c, hne, del])
  | (refine zbQ rfl ?_; simp [c, hne, del])
  | ((first | refine CallV.f2 rfl (hs1) (by first | simp [c, hne, del] <;> rfl | fail) ?_ | refine CallV.f2 rfl (hs2) (by first | simp [c, hne, del] <;> rfl | fail) ?_ | fail); simp [c, hne, del])
  | (refine CallP.zkV (hck _) (by first | (simp [c, hne, del, zaa, getK, zab, zac, zad, zar, del]; done) | fail) (by rfl) (by first | assumption | (simp; done) | fail) (by rfl) (by simp) ?_; refine ⟨_, Wk.refl _, ?_⟩; (try simp [c, hne, del, zcZ, del]))
  | fail)
    (refine hpan _ _ (PanG.k ([(m, mOb lets r g)]) (nx) (by simp [hn, hm, hr, hne, zaQ, zab, zac, zaa, getK] <;> omega) ?_); try simp)
    all_goals rfl
 by_cases c : e.op = 5
 ·rw [c];by_cases hb0 : b = 0
  ·rw [show ∀ sh, zjo 5 sh a b = .error 15 from fun sh => by rw [hb0]; rfl];simp only [zdj, chF];refine RetX.runW Tryz.func126 Tryz.ntmps126 rfl (by simp) fun Γ hn hpan => ?_
   repeat' (first
  | (refine zaf rfl ?_; simp [c, hne, hb0])
  | fail)
   (refine hpan _ _ (PanG.k ([(m, mOb lets r g)]) (nx) (by simp [hn, hm, hr, hne, zaQ, zab, zac, zaa, getK] <;> omega) ?_); try simp)
   all_goals rfl
  ·obtain ⟨Z, hZ⟩ : ∃ Z, zgX a b = Z := ⟨_, rfl⟩;have hck := fun nx' => ze4 Z nx';have hf := ziR a b (by omega) hb0 (by omega);rw [hZ] at hf;rw [show ∀ sh, zjo 5 sh a b = zeE Z from fun sh => by rw [<- hZ]; simp [zjo, hb0]];cases hk : zeE Z with
   | ok v =>
    simp only [hk, zdj] at hck ⊢;refine RetX.runW Tryz.func126 Tryz.ntmps126 rfl (by simp) fun Γ hn hpan => ?_
    repeat' (first
  | (refine zaf rfl ?_; simp [c, hne, hb0])
  | (refine CallP.f2 rfl (hf) (by first | simp [c, hne, hb0] <;> rfl | fail) ?_; simp [c, hne, hb0])
  | (refine CallP.okL (hck _) (by first | (simp [c, hne, hb0, zaa, getK, zab, zac, zad, zar, del]; done) | fail) (by rfl) (by first | assumption | (simp; done) | fail) (by rfl) (by simp) ?_; (try simp [c, hne, hb0, zcZ, del]))
  | fail)
    (refine EndW.z ([(m, mOb lets r g)]) (N := nx) Tryz.results126 (by simp [hne, hm, hr, zaQ] <;> omega) ?_; simp [hne, hm, hr, zaQ])
    all_goals rfl
   | error err =>
    simp only [hk, zdj] at hck ⊢;refine RetX.runW Tryz.func126 Tryz.ntmps126 rfl (by simp) fun Γ hn hpan => ?_
    repeat' (first
  | (refine zaf rfl ?_; simp [c, hne, hb0])
  | (refine CallP.f2 rfl (hf) (by first | simp [c, hne, hb0] <;> rfl | fail) ?_; simp [c, hne, hb0])
  | (refine CallP.zkV (hck _) (by first | (simp [c, hne, hb0, zaa, getK, zab, zac, zad, zar, del]; done) | fail) (by rfl) (by first | assumption | (simp; done) | fail) (by rfl) (by simp) ?_; refine ⟨_, Wk.refl _, ?_⟩; (try simp [c, hne, hb0, zcZ, del]))
  | fail)
    (refine hpan _ _ (PanG.k ([(m, mOb lets r g)]) (nx) (by simp [hn, hm, hr, hne, zaQ, zab, zac, zaa, getK] <;> omega) ?_); try simp)
    all_goals rfl
 have ht := zd3 (decide (a < b));by_cases c : e.op = 6
 ·rw [c, show ∀ sh, zjo 6 sh a b = .ok (min a b) from fun sh => rfl];simp only [zdj];refine RetX.runW Tryz.func126 Tryz.ntmps126 rfl (by simp) fun Γ hn hpan => ?_
  repeat' (first
  | (refine zaf rfl ?_; simp [c, hne])
  | fail)
  (refine EndW.z ([(m, mOb lets r g)]) (N := nx) Tryz.results126 (by simp [hne, hm, hr, zaQ] <;> omega) ?_; simp [hne, hm, hr, zaQ])
  all_goals rfl
 by_cases c : e.op = 7
 ·rw [c, show ∀ sh, zjo 7 sh a b = .ok (max a b) from fun sh => rfl];simp only [zdj];refine RetX.runW Tryz.func126 Tryz.ntmps126 rfl (by simp) fun Γ hn hpan => ?_
  repeat' (first
  | (refine zaf rfl ?_; simp [c, hne])
  | fail)
  (refine EndW.z ([(m, mOb lets r g)]) (N := nx) Tryz.results126 (by simp [hne, hm, hr, zaQ] <;> omega) ?_; simp [hne, hm, hr, zaQ])
  all_goals rfl
 by_cases c : e.op = 8
 ·rw [c, show ∀ sh, zjo 8 sh a b = .ok (zdP (decide (a < b))) from fun sh => rfl];simp only [zdj];refine RetX.runW Tryz.func126 Tryz.ntmps126 rfl (by simp) fun Γ hn hpan => ?_
  repeat' (first
  | (refine zaf rfl ?_; simp [c, hne])
  | (refine CallP.f2 rfl (ht) (by first | simp [c, hne] <;> rfl | fail) ?_; simp [c, hne])
  | fail)
  (refine EndW.z ([(m, mOb lets r g)]) (N := nx) Tryz.results126 (by simp [hne, hm, hr, zaQ] <;> omega) ?_; simp [hne, hm, hr, zaQ])
  all_goals rfl
 have c : e.op = 9 := by omega
 have ht := zd3 (decide (a = b));rw [c, show ∀ sh, zjo 9 sh a b = .ok (zdP (decide (a = b))) from fun sh => rfl];simp only [zdj];refine RetX.runW Tryz.func126 Tryz.ntmps126 rfl (by simp) fun Γ hn hpan => ?_
 repeat' (first
  | (refine zaf rfl ?_; simp [c, hne])
  | (refine CallP.f2 rfl (ht) (by first | simp [c, hne] <;> rfl | fail) ?_; simp [c, hne])
  | fail)
 (refine EndW.z ([(m, mOb lets r g)]) (N := nx) Tryz.results126 (by simp [hne, hm, hr, zaQ] <;> omega) ?_; simp [hne, hm, hr, zaQ])
 all_goals rfl
end Go.Proofs.YtmlpcgkaonifcaaGreatDoor
namespace Go.Proofs.YtmlpcgkaonifcaaGreatDoor
open Go Go.VL
section
variable {lets : List Let} {G : List UInt8 -> Option Int} {n : Nat} {e x y z : Exp} {t t1 t2 : Tab}
theorem zsI (h : e.op = 0) : zcJ lets G n e t = (zeE e.n, t) := by unfold zcJ; rw [zdC, if_pos h]; rfl
theorem zp6 (h : e.op = 1) : zcJ lets G n e t = nmT lets G n e.s t := by unfold zcJ; rw [zdC, if_neg (by omega), if_pos h]
theorem zgG {l : List Exp} {er : Int} (h0 : e.op ≠ 0) (h1 : e.op ≠ 1) (ha : e.args = x :: l) (hx : zcJ lets G n x t = (.error er, t1)) : zcJ lets G n e t = (.error er, t1) := by
 unfold zcJ at *;rw [zdC, if_neg h0, if_neg h1, ha, zd0]
 repeat' split
 all_goals exact TM.zia hx
theorem zp9 {l : List Exp} (h : e.op = 10) (ha : e.args = x :: l) (hx : zcJ lets G n x t = (.ok 0, t1)) : zcJ lets G n e t = (.ok 0, t1) := by
 unfold zcJ at *;rw [zdC, if_neg (by omega), if_neg (by omega), if_pos h, ha, zd0, TM.bind_ok hx, if_pos rfl]; rfl
theorem zp8 {a er : Int} (h : e.op = 10) (ha : e.args = [x, y]) (hx : zcJ lets G n x t = (.ok a, t1)) (h0 : a ≠ 0) (hy : zcJ lets G n y t1 = (.error er, t2)) : zcJ lets G n e t = (.error er, t2) := by
 unfold zcJ at *;rw [zdC, if_neg (by omega), if_neg (by omega), if_pos h, ha, zd0, TM.bind_ok hx, if_neg h0, zd0, zd0, TM.zia hy]
theorem zsN {a b : Int} (h : e.op = 10) (ha : e.args = [x, y]) (hx : zcJ lets G n x t = (.ok a, t1)) (h0 : a ≠ 0) (hy : zcJ lets G n y t1 = (.ok b, t2)) : zcJ lets G n e t = (.ok (zdP (decide (b ≠ 0))), t2) := by
 unfold zcJ at *;rw [zdC, if_neg (by omega), if_neg (by omega), if_pos h, ha, zd0, TM.bind_ok hx, if_neg h0, zd0, zd0, TM.bind_ok hy]; rfl
theorem zsH {l : List Exp} {a : Int} (h : e.op = 11) (ha : e.args = x :: l) (hx : zcJ lets G n x t = (.ok a, t1)) (h0 : a ≠ 0) : zcJ lets G n e t = (.ok 1, t1) := by
 unfold zcJ at *;rw [zdC, if_neg (by omega), if_neg (by omega), if_neg (by omega), if_pos h, ha, zd0, TM.bind_ok hx, if_pos h0]; rfl
theorem zsG {er : Int} (h : e.op = 11) (ha : e.args = [x, y]) (hx : zcJ lets G n x t = (.ok 0, t1)) (hy : zcJ lets G n y t1 = (.error er, t2)) : zcJ lets G n e t = (.error er, t2) := by
 unfold zcJ at *;rw [zdC, if_neg (by omega), if_neg (by omega), if_neg (by omega), if_pos h, ha, zd0, TM.bind_ok hx, if_neg (by simp), zd0, zd0, TM.zia hy]
theorem zuV {b : Int} (h : e.op = 11) (ha : e.args = [x, y]) (hx : zcJ lets G n x t = (.ok 0, t1)) (hy : zcJ lets G n y t1 = (.ok b, t2)) : zcJ lets G n e t = (.ok (zdP (decide (b ≠ 0))), t2) := by
 unfold zcJ at *;rw [zdC, if_neg (by omega), if_neg (by omega), if_neg (by omega), if_pos h, ha, zd0, TM.bind_ok hx, if_neg (by simp), zd0, zd0, TM.bind_ok hy]; rfl
theorem zsJ {a : Int} (h : e.op = 12) (ha : e.args = [x]) (hx : zcJ lets G n x t = (.ok a, t1)) : zcJ lets G n e t = (.ok (zdP (decide (a = 0))), t1) := by
 unfold zcJ at *;rw [zdC, if_neg (by omega), if_neg (by omega), if_neg (by omega), if_neg (by omega), if_pos h, ha, zd0, TM.bind_ok hx]; rfl
theorem zsK {a : Int} (h : e.op = 13) (ha : e.args = [x, y, z]) (hx : zcJ lets G n x t = (.ok a, t1)) (h0 : a ≠ 0) : zcJ lets G n e t = zcJ lets G n y t1 := by
 unfold zcJ at *;rw [zdC, if_neg (by omega), if_neg (by omega), if_neg (by omega), if_neg (by omega), if_neg (by omega), if_pos h, ha, zd0, TM.bind_ok hx, if_pos h0, zd0, zd0]
theorem zsL (h : e.op = 13) (ha : e.args = [x, y, z]) (hx : zcJ lets G n x t = (.ok 0, t1)) : zcJ lets G n e t = zcJ lets G n z t1 := by
 unfold zcJ at *;rw [zdC, if_neg (by omega), if_neg (by omega), if_neg (by omega), if_neg (by omega), if_neg (by omega), if_pos h, ha, zd0, TM.bind_ok hx, if_neg (by simp), zd0, zd0, zd0]
theorem zp7 {a er : Int} (h : 2 <= e.op /\ e.op <= 9) (ha : e.args = [x, y]) (hx : zcJ lets G n x t = (.ok a, t1)) (hy : zcJ lets G n y t1 = (.error er, t2)) : zcJ lets G n e t = (.error er, t2) := by
 unfold zcJ at *;rw [zdC, if_neg (by omega), if_neg (by omega), if_neg (by omega), if_neg (by omega), if_neg (by omega), if_neg (by omega), ha, zd0, TM.bind_ok hx, zd0, zd0, TM.zia hy]
theorem zsM {a b : Int} (h : 2 <= e.op /\ e.op <= 9) (ha : e.args = [x, y]) (hx : zcJ lets G n x t = (.ok a, t1)) (hy : zcJ lets G n y t1 = (.ok b, t2)) :
  zcJ lets G n e t = (zjo e.op (zdI (lets.take n) x || zdI (lets.take n) y) a b, t2) := by
 unfold zcJ at *;rw [zdC, if_neg (by omega), if_neg (by omega), if_neg (by omega), if_neg (by omega), if_neg (by omega), if_neg (by omega), ha, zd0, TM.bind_ok hx, zd0, zd0, TM.bind_ok hy];simp [TM.ret]
end
abbrev tOb (t : Tab) : Ob := .vec 209 3 (t.map fun x => [.u (.int .i64 x.1), .u (.int .i64 x.2.1), .u (.bool x.2.2)])
abbrev eOb (e : Exp) : Ob := .box [.u (.int .i64 e.op), .u (.int .i64 e.n), .u (.int .i64 e.unit), .u (.str e.s), .u (.sl (e.args.map Exp.row))]
def zeA (lets : List Let) (r : Nat) (g : GM) (m n : Nat) (e : Exp) : Prop := ∀ (t : Tab) (nx : Nat), m < nx -> r < nx -> TabOK lets.length t ->
 RetX Tryz.prog 98 [.ptr m 0, zdo e, .u (.int .i64 n)] [(m, mOb lets r g), (r, tOb t)] nx
  (fun o obs n' => o = zdj (zcJ lets (gF g) n e t).1 /\ obs = [(m, mOb lets r g), (r, tOb (zcJ lets (gF g) n e t).2)] /\ n' = nx)
attribute [local simp] HS zbw zc2 zcq evPure opd uOf zay St.put St.at getK binD binI binS binB nilD aggD zfJ zge lookD lookR zcn rangeS Go.VL.nextD Go.VL.nextS zcr zgk zgh zfs zcv mkV zbi zaT zaS zaR zc0 zaP zba zbs mapEff zdE zfp Key.kk shiftI arith unD convD zdu loadD cellsAt fieldAddrD fieldD indexAddrD indexSlD arrAddr indexD sliceD cutD lenD minmaxD nilCheckD buildD fillD zb0 zc7 zeD setAll zcW zef zck zfv zcj St.add zaw zbB rowsOf zdg zcw zad zac zaa zbz zda za3 entry zbO zbT valD zcm zcB zfw zdb zdc zb4 zbP zam zaW zbj delAll effD St.effS zcF zaU zaH zcG zaV zaJ zbY zaI zaA zbZ zcD zbv zbX za9 zbV zbW zar mkD zcl zbG zbK zam zcu D.ids Op.operands Call.operands zbH makeIfD makeFuncD typeAssertD zgd zdm zdn zf8 zco IntKind.bits zct zaz List.take_of_length_le List.range_succ zcO zcf zcP zcK zbD zb6 zb8 zcL zca zbe zb9 zb7 zhc zce zcM zaZ zaL zcN za0 zaN zcd zaM zaF zcS zcT zha zab frzN frz1 zav zau St.frz St.frzS frzS fv za1 zbm zbn frzObS zat zan frz zbL zbq zbr zbN zb5 zcc za7 St.norm St.lp St.only zax wkE wkO wkU Ob.under D.under zaj zak zcQ zcg zcR h4s zea zaC zbC List.zipIdx_cons List.zipIdx_nil zzC zzD Nat.zero_add
attribute [local irreducible] V G H HD HD2 HD4 zhd RetX zbf Eff CallP CallV EndOK Fun Ret FinOK LoopI LoopW EndW HR vs2 RN Cnd H4
def zaq (N : Nat) (t : Tab) : (∀ x ∈ t, ∀ y ∈ [D.u (.int .i64 x.1), D.u (.int .i64 x.2.1), D.u (.bool x.2.2)], D.under N y = true) := by
 intro x _ y hy;simp at hy;rcases hy with rfl | rfl | rfl <;> simp [D.under]
theorem zez {lets : List Let} {r : Nat} {g : GM} {m n : Nat} {x : Exp} (hV : zeA lets r g m n x) (e : Exp) (ia : Nat) (hia : e.args[ia]? = some x) (hmr : m ≠ r) (N : Nat) (hm : m < N) (hr : r < N) (t : Tab) (nx : Nat) (hN : N + 3 <= nx) (ht : TabOK lets.length t) :
  RetX Tryz.prog 122 [.u (.int .i64 ia), .ptr N 0, .ptr (N + 1) 0, .ptr (N + 2) 0]
   [(N, .box [.ptr m 0]), (N + 1, eOb e), (N + 2, .box [.u (.int .i64 n)]), (m, mOb lets r g), (r, tOb t)] nx
   (fun o obs n' => o = zdj (zcJ lets (gF g) n x t).1 /\ obs = [(N, .box [.ptr m 0]), (N + 1, eOb e), (N + 2, .box [.u (.int .i64 n)]), (m, mOb lets r g), (r, tOb (zcJ lets (gF g) n x t).2)] /\ n' = nx) := by
 have hne := nef hm;have hne2 := nef hr;have hv := fun nx' (h : N + 3 <= nx') => hV t nx' (by omega) (by omega) ht;have hil := (List.getElem?_eq_some_iff.1 hia).1;unfold zdo at hv;rcases hvl : zcJ lets (gF g) n x t with ⟨er | v, t1⟩
 ·simp only [hvl, zdj] at hv ⊢;refine RetX.runW Tryz.func122 Tryz.ntmps122 rfl (by simp) fun Γ hn hpan => ?_
  repeat' (first
  | (refine zib (fun nx' h' => hv nx' (by simp at h'; omega)) (by first | (simp [hne, hne2, hmr, Ne.symm hmr, hia, Exp.row_eq, zaq, zaa, getK, zab, zac, zad, zar, del]; done) | fail) (by rfl) (by first | assumption | (simp; done) | fail) (by rfl) (by simp) ?_ ?_; intro env' n' hn'; refine ⟨_, Wk.refl _, ?_⟩; (try simp [hne, hne2, hmr, Ne.symm hmr, hia, Exp.row_eq, zaq, zcZ, del]))
  | (refine zbQ rfl ?_; simp [hne, hne2, hmr, Ne.symm hmr, hia, Exp.row_eq, zaq]; (fail_if_success (guard_target =ₛ False)))
  | (refine zaf rfl ?_; simp [hne, hne2, hmr, Ne.symm hmr, hia, Exp.row_eq, zaq])
  | (refine zeg (hC _ (zb1 [N, N + 1, N + 2, m, r] nx (by simp <;> omega) (by simp <;> omega) (by apply Exists.intro; apply And.intro; (focus (repeat' (first | exact KF.nil | exact KL.nil | apply KF.cons | apply KL.cons 0 rfl | apply KL.cons 1 rfl | apply KL.cons 2 rfl | apply KL.cons 3 rfl | apply KL.cons 4 rfl | apply KL.cons 5 rfl | apply KL.cons 6 rfl | apply KL.cons 7 rfl | apply KL.cons 8 rfl | apply KL.cons 9 rfl))); kernel_rfl))) rfl; done)
  | (refine zdx rfl (by kernel_rfl) (by first | (simp [hn] <;> omega) | fail) fun C k hC hk => ?_; simp [hne, hne2, hmr, Ne.symm hmr, hia, Exp.row_eq, zaq])
  | fail)
  (refine hpan _ _ (PanG.k ([(N, .box [.ptr m 0]), (N + 1, eOb e), (N + 2, .box [.u (.int .i64 n)]), (m, mOb lets r g), (r, tOb t1)]) (nx) (by simp [hn, hm, hr, hne, hne2, hmr, Ne.symm hmr, zaq, zab, zac, zaa, getK] <;> omega) ?_); try simp)
 ·simp only [hvl, zdj] at hv ⊢;refine RetX.runW Tryz.func122 Tryz.ntmps122 rfl (by simp) fun Γ hn hpan => ?_
  repeat' (first
  | (refine zsu (fun nx' h' => hv nx' (by simp at h'; omega)) (by first | (simp [hne, hne2, hmr, Ne.symm hmr, hia, Exp.row_eq, zaq, zaa, getK, zab, zac, zad, zar, del]; done) | fail) rfl (by first | (simp [hne, hne2, hmr, Ne.symm hmr, hia, Exp.row_eq, zaq]; done) | fail) (by rfl) (by first | assumption | (simp; done) | fail) (by rfl) (by first | (simp [hne, hne2, hmr, Ne.symm hmr, hia, Exp.row_eq, zaq, D.under, Ob.under, zaj, zak]; done) | (simp [hne, hne2, hmr, Ne.symm hmr, hia, Exp.row_eq, zaq, D.under, Ob.under, zaj, zak]; omega) | fail) (by simp) ?_; (try simp [hne, hne2, hmr, Ne.symm hmr, hia, Exp.row_eq, zaq]))
  | (refine zaf rfl ?_; simp [hne, hne2, hmr, Ne.symm hmr, hia, Exp.row_eq, zaq])
  | (refine ⟨hC _ (zb1 [N, N + 1, N + 2, m, r] nx (by simp <;> omega) (by simp <;> omega) (by apply Exists.intro; apply And.intro; (focus (repeat' (first | exact KF.nil | exact KL.nil | apply KF.cons | apply KL.cons 0 rfl | apply KL.cons 1 rfl | apply KL.cons 2 rfl | apply KL.cons 3 rfl | apply KL.cons 4 rfl | apply KL.cons 5 rfl | apply KL.cons 6 rfl | apply KL.cons 7 rfl | apply KL.cons 8 rfl | apply KL.cons 9 rfl))); kernel_rfl)), hk _ (zdH 8 _ _ _ ?_)⟩; clear hC hk C k; simp [hne, hne2, hmr, Ne.symm hmr, hia, Exp.row_eq, zaq])
  | (refine zdx rfl (by kernel_rfl) (by first | (simp [hn] <;> omega) | fail) fun C k hC hk => ?_; simp [hne, hne2, hmr, Ne.symm hmr, hia, Exp.row_eq, zaq])
  | (refine zcA rfl ?_; simp [hne, hne2, hmr, Ne.symm hmr, hia, Exp.row_eq, zaq])
  | fail)
  (refine EndW.z ([(N, .box [.ptr m 0]), (N + 1, eOb e), (N + 2, .box [.u (.int .i64 n)]), (m, mOb lets r g), (r, tOb t1)]) (N := nx) Tryz.results122 (by simp [hm, hr, hne, hne2, hmr, Ne.symm hmr, zaq] <;> omega) ?_; simp [hm, hr, hne, hne2, hmr, Ne.symm hmr, zaq])
theorem zol {lets : List Let} {r : Nat} {g : GM} {m n : Nat} {x : Exp} {v : Int} {t1 : Tab} (hV : zeA lets r g m n x) (e : Exp) (ia : Nat) (hia : e.args[ia]? = some x) (hmr : m ≠ r) (N : Nat) (hm : m < N) (hr : r < N) (t : Tab) (nx : Nat) (hN : N + 3 <= nx) (ht : TabOK lets.length t)
  (hv : zcJ lets (gF g) n x t = (.ok v, t1)) :
  RetX Tryz.prog 122 [.u (.int .i64 ia), .ptr N 0, .ptr (N + 1) 0, .ptr (N + 2) 0]
   [(r, tOb t), (N, .box [.ptr m 0]), (N + 1, eOb e), (N + 2, .box [.u (.int .i64 n)]), (m, mOb lets r g)] nx
   (fun o obs n' => o = .val (.u (.int .i64 v)) /\ (∀ y, getK obs y = getK [(r, tOb t1), (N, .box [.ptr m 0]), (N + 1, eOb e), (N + 2, .box [.u (.int .i64 n)]), (m, mOb lets r g)] y) /\ n' = nx) := by
 have hne2 := nef hr;have hperm : ∀ (T : Tab) (y : Nat), getK [(N, .box [.ptr m 0]), (N + 1, eOb e), (N + 2, .box [.u (.int .i64 n)]), (m, mOb lets r g), (r, tOb T)] y = getK [(r, tOb T), (N, .box [.ptr m 0]), (N + 1, eOb e), (N + 2, .box [.u (.int .i64 n)]), (m, mOb lets r g)] y := fun T y => by
  simp only [zaa];by_cases h : y = r
  ·subst h;rw [if_neg (by omega), if_neg (by omega), if_neg (by omega), if_neg (Ne.symm hmr)];simp
  ·simp [h]
 have h := zez hV e ia hia hmr N hm hr t nx hN ht;rw [hv] at h;exact (h.congr fun y => (hperm t y).symm).mono fun o obs n' ⟨h1, h2, h3⟩ => ⟨h1, fun y => by rw [h2]; exact hperm t1 y, h3⟩
end Go.Proofs.YtmlpcgkaonifcaaGreatDoor
namespace Go.Proofs.YtmlpcgkaonifcaaGreatDoor
open Go Go.VL
attribute [local simp] HS zbw zc2 zcq evPure opd uOf zay St.put St.at getK binD binI binS binB nilD aggD zfJ zge lookD lookR zcn rangeS Go.VL.nextD Go.VL.nextS zcr zgk zgh zfs zcv mkV zbi zaT zaS zaR zc0 zaP zba zbs mapEff zdE zfp Key.kk shiftI arith unD convD zdu loadD cellsAt fieldAddrD fieldD indexAddrD indexSlD arrAddr indexD sliceD cutD lenD minmaxD nilCheckD buildD fillD zb0 zc7 zeD setAll zcW zef zck zfv zcj St.add zaw zbB rowsOf zdg zcw zad zac zaa zbz zda za3 entry zbO zbT valD zcm zcB zfw zdb zdc zb4 zbP zam zaW zbj delAll effD St.effS zcF zaU zaH zcG zaV zaJ zbY zaI zaA zbZ zcD zbv zbX za9 zbV zbW zar mkD zcl zbG zbK zam zcu D.ids Op.operands Call.operands zbH makeIfD makeFuncD typeAssertD zgd zdm zdn zf8 zco IntKind.bits zct zaz List.take_of_length_le List.range_succ zcO zcf zcP zcK zbD zb6 zb8 zcL zca zbe zb9 zb7 zhc zce zcM zaZ zaL zcN za0 zaN zcd zaM zaF zcS zcT zha zab frzN frz1 zav zau St.frz St.frzS frzS fv za1 zbm zbn frzObS zat zan frz zbL zbq zbr zbN zb5 zcc za7 St.norm St.lp St.only zax wkE wkO wkU Ob.under D.under zaj zak zcQ zcg zcR h4s zea zaC zbC List.zipIdx_cons List.zipIdx_nil zzC zzD Nat.zero_add
attribute [local irreducible] V G H HD HD2 HD4 zhd RetX zbf Eff CallP CallV EndOK Fun Ret FinOK LoopI LoopW EndW HR vs2 RN Cnd H4
def zuQ (lets : List Let) (r : Nat) (g : GM) (m n : Nat) : Prop := ∀ (s : List UInt8) (t : Tab) (nx : Nat), m < nx -> r < nx -> TabOK lets.length t ->
 RetX Tryz.prog 124 [.ptr m 0, .u (.str s), .u (.int .i64 n)] [(m, mOb lets r g), (r, tOb t)] nx
  (fun o obs n' => o = zdj (nmT lets (gF g) n s t).1 /\ obs = [(m, mOb lets r g), (r, tOb (nmT lets (gF g) n s t).2)] /\ n' = nx)
theorem zpZ {lets : List Let} {r : Nat} {g : GM} {m n : Nat} {e : Exp} (hmr : m ≠ r) (h0 : e.op = 0) : zeA lets r g m n e := by
 intro t nx hm hr ht;have hne := nef hm;have hne2 := nef hr;unfold zdo;obtain ⟨T, rfl⟩ : ∃ T, T = t := ⟨_, rfl⟩;rw [zsI h0];have hck := fun nx' => ze4 e.n nx';cases hk0 : zeE e.n with
 | ok v =>
  simp only [hk0, zdj] at hck ⊢;refine RetX.runW Tryz.func98 Tryz.ntmps98 rfl (by simp) fun Γ hn hpan => ?_
  repeat' (first
  | (refine zaf rfl ?_; simp [hne, hne2, hmr, Ne.symm hmr, h0, zzA, del])
  | (refine CallP.okL (hck _) (by first | (simp [hne, hne2, hmr, Ne.symm hmr, h0, zzA, del, zaa, getK, zab, zac, zad, zar, del]; done) | fail) (by rfl) (by first | assumption | (simp; done) | fail) (by rfl) (by simp) ?_; (try simp [hne, hne2, hmr, Ne.symm hmr, h0, zzA, del, zcZ, del]))
  | fail)
  (refine EndW.z ([(m, mOb lets r g), (r, tOb T)]) (N := nx) Tryz.results98 (by simp [hm, hr, hne, hne2, hmr, Ne.symm hmr, zaq, zaQ] <;> omega) ?_; simp [hm, hr, hne, hne2, hmr, Ne.symm hmr, zaq, zaQ])
 | error er =>
  simp only [hk0, zdj] at hck ⊢;refine RetX.runW Tryz.func98 Tryz.ntmps98 rfl (by simp) fun Γ hn hpan => ?_
  repeat' (first
  | (refine zaf rfl ?_; simp [hne, hne2, hmr, Ne.symm hmr, h0, zzA, del])
  | (refine CallP.zkV (hck _) (by first | (simp [hne, hne2, hmr, Ne.symm hmr, h0, zzA, del, zaa, getK, zab, zac, zad, zar, del]; done) | fail) (by rfl) (by first | assumption | (simp; done) | fail) (by rfl) (by simp) ?_; refine ⟨_, Wk.refl _, ?_⟩; (try simp [hne, hne2, hmr, Ne.symm hmr, h0, zzA, del, zcZ, del]))
  | fail)
  (refine hpan _ _ (PanG.k ([(m, mOb lets r g), (r, tOb T)]) (nx) (by simp [hn, hm, hr, hne, hne2, hmr, Ne.symm hmr, zaq, zaQ, zab, zac, zaa, getK] <;> omega) ?_); try simp)
theorem zow {lets : List Let} {r : Nat} {g : GM} {m n : Nat} {e : Exp} (hmr : m ≠ r) (h0 : e.op = 1) (hN : zuQ lets r g m n) : zeA lets r g m n e := by
 intro t nx hm hr ht;have hne := nef hm;have hne2 := nef hr;unfold zdo;rw [zp6 h0];have hck := fun nx' (h : nx <= nx') => hN e.s t nx' (by omega) (by omega) ht;rcases hk0 : nmT lets (gF g) n e.s t with ⟨er | v, T⟩
 ·simp only [hk0, zdj] at hck ⊢;refine RetX.runW Tryz.func98 Tryz.ntmps98 rfl (by simp) fun Γ hn hpan => ?_
  repeat' (first
  | (refine zaf rfl ?_; simp [hne, hne2, hmr, Ne.symm hmr, h0, zzA, del])
  | (refine CallP.zkV (hck _ (by first | omega | (simp <;> omega) | fail)) (by first | (simp [hne, hne2, hmr, Ne.symm hmr, h0, zzA, del, zaa, getK, zab, zac, zad, zar, del]; done) | fail) (by rfl) (by first | assumption | (simp; done) | fail) (by rfl) (by simp) ?_; refine ⟨_, Wk.refl _, ?_⟩; (try simp [hne, hne2, hmr, Ne.symm hmr, h0, zzA, del, zcZ, del]))
  | fail)
  (refine hpan _ _ (PanG.k ([(m, mOb lets r g), (r, tOb T)]) (nx) (by simp [hn, hm, hr, hne, hne2, hmr, Ne.symm hmr, zaq, zaQ, zab, zac, zaa, getK] <;> omega) ?_); try simp)
 ·simp only [hk0, zdj] at hck ⊢;refine RetX.runW Tryz.func98 Tryz.ntmps98 rfl (by simp) fun Γ hn hpan => ?_
  repeat' (first
  | (refine zaf rfl ?_; simp [hne, hne2, hmr, Ne.symm hmr, h0, zzA, del])
  | (refine CallP.okL (hck _ (by first | omega | (simp <;> omega) | fail)) (by first | (simp [hne, hne2, hmr, Ne.symm hmr, h0, zzA, del, zaa, getK, zab, zac, zad, zar, del]; done) | fail) (by rfl) (by first | assumption | (simp; done) | fail) (by rfl) (by simp) ?_; (try simp [hne, hne2, hmr, Ne.symm hmr, h0, zzA, del, zcZ, del]))
  | fail)
  (refine EndW.z ([(m, mOb lets r g), (r, tOb T)]) (N := nx) Tryz.results98 (by simp [hm, hr, hne, hne2, hmr, Ne.symm hmr, zaq, zaQ] <;> omega) ?_; simp [hm, hr, hne, hne2, hmr, Ne.symm hmr, zaq, zaQ])
theorem zp3 {lets : List Let} {r : Nat} {g : GM} {m n : Nat} {e x y : Exp} (hmr : m ≠ r) (h0 : e.op = 10) (he : e.args = [x, y]) (hVx : zeA lets r g m n x) (hTx : TMok lets.length (zcJ lets (gF g) n x)) (hVy : zeA lets r g m n y) (hTy : TMok lets.length (zcJ lets (gF g) n y)) : zeA lets r g m n e := by
 intro t nx hm hr ht;have hne := nef hm;have hne2 := nef hr;unfold zdo;have hx := zez hVx e 0 (by rw [he]; rfl) hmr nx hm hr t;have hxok := hTx t ht;rcases hvx : zcJ lets (gF g) n x t with ⟨er | a, t1⟩
 ·obtain ⟨T, rfl⟩ : ∃ T, T = t1 := ⟨_, rfl⟩;rw [zgG (by omega) (by omega) he hvx];simp only [hvx, zdj] at hx ⊢;refine RetX.runW Tryz.func98 Tryz.ntmps98 rfl (by simp) fun Γ hn hpan => ?_
  repeat' (first
  | (refine zaf rfl ?_; simp [hne, hne2, hmr, Ne.symm hmr, h0, zzA, del])
  | (refine CallP.zkV (hx _ (by first | omega | (simp <;> omega) | fail) ht) (by first | (simp [hne, hne2, hmr, Ne.symm hmr, h0, zzA, del, zaa, getK, zab, zac, zad, zar, del]; done) | fail) (by rfl) (by first | assumption | (simp; done) | fail) (by rfl) (by simp) ?_; refine ⟨_, Wk.refl _, ?_⟩; (try simp [hne, hne2, hmr, Ne.symm hmr, h0, zzA, del, zcZ, del]))
  | fail)
  (refine hpan _ _ (PanG.k ([(m, mOb lets r g), (r, tOb T)]) (nx) (by simp [hn, hm, hr, hne, hne2, hmr, Ne.symm hmr, zaq, zaQ, zab, zac, zaa, getK] <;> omega) ?_); try simp)
 ·rw [hvx] at hxok;simp only [hvx, zdj] at hx;have hxok1 := hxok.1;simp only at hxok1;have hy := zez hVy e 1 (by rw [he]; rfl) hmr nx hm hr t1;have hyok := hTy t1 hxok1;by_cases ha : a = 0
  ·subst ha;rw [zp9 h0 he hvx];simp only [zdj];obtain ⟨T, rfl⟩ : ∃ T, T = t1 := ⟨_, rfl⟩;have htr := zd3 false;simp only [zdP, Bool.false_eq_true, if_false] at htr;refine RetX.runW Tryz.func98 Tryz.ntmps98 rfl (by simp) fun Γ hn hpan => ?_
   repeat' (first
  | (refine zaf rfl ?_; simp [hne, hne2, hmr, Ne.symm hmr, h0, zzA, del])
  | (refine CallP.f2 rfl (htr) (by first | simp [hne, hne2, hmr, Ne.symm hmr, h0, zzA, del] <;> rfl | fail) ?_; simp [hne, hne2, hmr, Ne.symm hmr, h0, zzA, del])
  | (refine CallP.okL (hx _ (by first | omega | (simp <;> omega) | fail) ht) (by first | (simp [hne, hne2, hmr, Ne.symm hmr, h0, zzA, del, zaa, getK, zab, zac, zad, zar, del]; done) | fail) (by rfl) (by first | assumption | (simp; done) | fail) (by rfl) (by simp) ?_; (try simp [hne, hne2, hmr, Ne.symm hmr, h0, zzA, del, zcZ, del]))
  | fail)
   (refine EndW.z ([(m, mOb lets r g), (r, tOb T)]) (N := nx) Tryz.results98 (by simp [hm, hr, hne, hne2, hmr, Ne.symm hmr, zaq, zaQ] <;> omega) ?_; simp [hm, hr, hne, hne2, hmr, Ne.symm hmr, zaq, zaQ])
  ·skip
   rcases hvy : zcJ lets (gF g) n y t1 with ⟨er | b, T⟩
   ·rw [zp8 h0 he hvx ha hvy];simp only [hvy, zdj] at hy ⊢;refine RetX.runW Tryz.func98 Tryz.ntmps98 rfl (by simp) fun Γ hn hpan => ?_
    repeat' (first
  | (refine zaf rfl ?_; simp [hne, hne2, hmr, Ne.symm hmr, h0, zzA, del, ha])
  | (refine CallP.okL (hx _ (by first | omega | (simp <;> omega) | fail) ht) (by first | (simp [hne, hne2, hmr, Ne.symm hmr, h0, zzA, del, ha, zaa, getK, zab, zac, zad, zar, del]; done) | fail) (by rfl) (by first | assumption | (simp; done) | fail) (by rfl) (by simp) ?_; (try simp [hne, hne2, hmr, Ne.symm hmr, h0, zzA, del, ha, zcZ, del]))
  | (refine CallP.zkV (hy _ (by first | omega | (simp <;> omega) | fail) hxok1) (by first | (simp [hne, hne2, hmr, Ne.symm hmr, h0, zzA, del, ha, zaa, getK, zab, zac, zad, zar, del]; done) | fail) (by rfl) (by first | assumption | (simp; done) | fail) (by rfl) (by simp) ?_; refine ⟨_, Wk.refl _, ?_⟩; (try simp [hne, hne2, hmr, Ne.symm hmr, h0, zzA, del, ha, zcZ, del]))
  | fail)
    (refine hpan _ _ (PanG.k ([(m, mOb lets r g), (r, tOb T)]) (nx) (by simp [hn, hm, hr, hne, hne2, hmr, Ne.symm hmr, zaq, zaQ, zab, zac, zaa, getK] <;> omega) ?_); try simp)
   ·rw [zsN h0 he hvx ha hvy];simp only [hvy, zdj] at hy ⊢;have htr := zd3 (decide (b ≠ 0));by_cases hb : b = 0
    ·simp only [hb, ne_eq, not_true_eq_false, decide_false] at htr hy ⊢;refine RetX.runW Tryz.func98 Tryz.ntmps98 rfl (by simp) fun Γ hn hpan => ?_
     repeat' (first
  | (refine zaf rfl ?_; simp [hne, hne2, hmr, Ne.symm hmr, h0, zzA, del, ha, hb])
  | (refine CallP.f2 rfl (htr) (by first | simp [hne, hne2, hmr, Ne.symm hmr, h0, zzA, del, ha, hb] <;> rfl | fail) ?_; simp [hne, hne2, hmr, Ne.symm hmr, h0, zzA, del, ha, hb])
  | (refine CallP.okL (hx _ (by first | omega | (simp <;> omega) | fail) ht) (by first | (simp [hne, hne2, hmr, Ne.symm hmr, h0, zzA, del, ha, hb, zaa, getK, zab, zac, zad, zar, del]; done) | fail) (by rfl) (by first | assumption | (simp; done) | fail) (by rfl) (by simp) ?_; (try simp [hne, hne2, hmr, Ne.symm hmr, h0, zzA, del, ha, hb, zcZ, del]))
  | (refine CallP.okL (hy _ (by first | omega | (simp <;> omega) | fail) hxok1) (by first | (simp [hne, hne2, hmr, Ne.symm hmr, h0, zzA, del, ha, hb, zaa, getK, zab, zac, zad, zar, del]; done) | fail) (by rfl) (by first | assumption | (simp; done) | fail) (by rfl) (by simp) ?_; (try simp [hne, hne2, hmr, Ne.symm hmr, h0, zzA, del, ha, hb, zcZ, del]))
  | fail)
     (refine EndW.z ([(m, mOb lets r g), (r, tOb T)]) (N := nx) Tryz.results98 (by simp [hm, hr, hne, hne2, hmr, Ne.symm hmr, zaq, zaQ] <;> omega) ?_; simp [hm, hr, hne, hne2, hmr, Ne.symm hmr, zaq, zaQ])
    ·simp only [hb, ne_eq, not_false_eq_true, decide_true] at htr ⊢;refine RetX.runW Tryz.func98 Tryz.ntmps98 rfl (by simp) fun Γ hn hpan => ?_
     repeat' (first
  | (refine zaf rfl ?_; simp [hne, hne2, hmr, Ne.symm hmr, h0, zzA, del, ha, hb])
  | (refine CallP.f2 rfl (htr) (by first | simp [hne, hne2, hmr, Ne.symm hmr, h0, zzA, del, ha, hb] <;> rfl | fail) ?_; simp [hne, hne2, hmr, Ne.symm hmr, h0, zzA, del, ha, hb])
  | (refine CallP.okL (hx _ (by first | omega | (simp <;> omega) | fail) ht) (by first | (simp [hne, hne2, hmr, Ne.symm hmr, h0, zzA, del, ha, hb, zaa, getK, zab, zac, zad, zar, del]; done) | fail) (by rfl) (by first | assumption | (simp; done) | fail) (by rfl) (by simp) ?_; (try simp [hne, hne2, hmr, Ne.symm hmr, h0, zzA, del, ha, hb, zcZ, del]))
  | (refine CallP.okL (hy _ (by first | omega | (simp <;> omega) | fail) hxok1) (by first | (simp [hne, hne2, hmr, Ne.symm hmr, h0, zzA, del, ha, hb, zaa, getK, zab, zac, zad, zar, del]; done) | fail) (by rfl) (by first | assumption | (simp; done) | fail) (by rfl) (by simp) ?_; (try simp [hne, hne2, hmr, Ne.symm hmr, h0, zzA, del, ha, hb, zcZ, del]))
  | fail)
     (refine EndW.z ([(m, mOb lets r g), (r, tOb T)]) (N := nx) Tryz.results98 (by simp [hm, hr, hne, hne2, hmr, Ne.symm hmr, zaq, zaQ] <;> omega) ?_; simp [hm, hr, hne, hne2, hmr, Ne.symm hmr, zaq, zaQ])
theorem zsD {lets : List Let} {r : Nat} {g : GM} {m n : Nat} {e x y : Exp} (hmr : m ≠ r) (h0 : e.op = 11) (he : e.args = [x, y]) (hVx : zeA lets r g m n x) (hTx : TMok lets.length (zcJ lets (gF g) n x)) (hVy : zeA lets r g m n y) (hTy : TMok lets.length (zcJ lets (gF g) n y)) : zeA lets r g m n e := by
 intro t nx hm hr ht;have hne := nef hm;have hne2 := nef hr;unfold zdo;have hx := zez hVx e 0 (by rw [he]; rfl) hmr nx hm hr t;have hxok := hTx t ht;rcases hvx : zcJ lets (gF g) n x t with ⟨er | a, t1⟩
 ·obtain ⟨T, rfl⟩ : ∃ T, T = t1 := ⟨_, rfl⟩;rw [zgG (by omega) (by omega) he hvx];simp only [hvx, zdj] at hx ⊢;refine RetX.runW Tryz.func98 Tryz.ntmps98 rfl (by simp) fun Γ hn hpan => ?_
  repeat' (first
  | (refine zaf rfl ?_; simp [hne, hne2, hmr, Ne.symm hmr, h0, zzA, del])
  | (refine CallP.zkV (hx _ (by first | omega | (simp <;> omega) | fail) ht) (by first | (simp [hne, hne2, hmr, Ne.symm hmr, h0, zzA, del, zaa, getK, zab, zac, zad, zar, del]; done) | fail) (by rfl) (by first | assumption | (simp; done) | fail) (by rfl) (by simp) ?_; refine ⟨_, Wk.refl _, ?_⟩; (try simp [hne, hne2, hmr, Ne.symm hmr, h0, zzA, del, zcZ, del]))
  | fail)
  (refine hpan _ _ (PanG.k ([(m, mOb lets r g), (r, tOb T)]) (nx) (by simp [hn, hm, hr, hne, hne2, hmr, Ne.symm hmr, zaq, zaQ, zab, zac, zaa, getK] <;> omega) ?_); try simp)
 ·rw [hvx] at hxok;simp only [hvx, zdj] at hx;have hxok1 := hxok.1;simp only at hxok1;have hy := zez hVy e 1 (by rw [he]; rfl) hmr nx hm hr t1;have hyok := hTy t1 hxok1;by_cases ha : a = 0
  ·subst ha;rcases hvy : zcJ lets (gF g) n y t1 with ⟨er | b, T⟩
   ·rw [zsG h0 he hvx hvy];simp only [hvy, zdj] at hy ⊢;refine RetX.runW Tryz.func98 Tryz.ntmps98 rfl (by simp) fun Γ hn hpan => ?_
    repeat' (first
  | (refine zaf rfl ?_; simp [hne, hne2, hmr, Ne.symm hmr, h0, zzA, del])
  | (refine CallP.okL (hx _ (by first | omega | (simp <;> omega) | fail) ht) (by first | (simp [hne, hne2, hmr, Ne.symm hmr, h0, zzA, del, zaa, getK, zab, zac, zad, zar, del]; done) | fail) (by rfl) (by first | assumption | (simp; done) | fail) (by rfl) (by simp) ?_; (try simp [hne, hne2, hmr, Ne.symm hmr, h0, zzA, del, zcZ, del]))
  | (refine CallP.zkV (hy _ (by first | omega | (simp <;> omega) | fail) hxok1) (by first | (simp [hne, hne2, hmr, Ne.symm hmr, h0, zzA, del, zaa, getK, zab, zac, zad, zar, del]; done) | fail) (by rfl) (by first | assumption | (simp; done) | fail) (by rfl) (by simp) ?_; refine ⟨_, Wk.refl _, ?_⟩; (try simp [hne, hne2, hmr, Ne.symm hmr, h0, zzA, del, zcZ, del]))
  | fail)
    (refine hpan _ _ (PanG.k ([(m, mOb lets r g), (r, tOb T)]) (nx) (by simp [hn, hm, hr, hne, hne2, hmr, Ne.symm hmr, zaq, zaQ, zab, zac, zaa, getK] <;> omega) ?_); try simp)
   ·rw [zuV h0 he hvx hvy];simp only [hvy, zdj] at hy ⊢;have htr := zd3 (decide (b ≠ 0));by_cases hb : b = 0
    ·simp only [hb, ne_eq, not_true_eq_false, decide_false] at htr hy ⊢;refine RetX.runW Tryz.func98 Tryz.ntmps98 rfl (by simp) fun Γ hn hpan => ?_
     repeat' (first
  | (refine zaf rfl ?_; simp [hne, hne2, hmr, Ne.symm hmr, h0, zzA, del, hb])
  | (refine CallP.f2 rfl (htr) (by first | simp [hne, hne2, hmr, Ne.symm hmr, h0, zzA, del, hb] <;> rfl | fail) ?_; simp [hne, hne2, hmr, Ne.symm hmr, h0, zzA, del, hb])
  | (refine CallP.okL (hx _ (by first | omega | (simp <;> omega) | fail) ht) (by first | (simp [hne, hne2, hmr, Ne.symm hmr, h0, zzA, del, hb, zaa, getK, zab, zac, zad, zar, del]; done) | fail) (by rfl) (by first | assumption | (simp; done) | fail) (by rfl) (by simp) ?_; (try simp [hne, hne2, hmr, Ne.symm hmr, h0, zzA, del, hb, zcZ, del]))
  | (refine CallP.okL (hy _ (by first | omega | (simp <;> omega) | fail) hxok1) (by first | (simp [hne, hne2, hmr, Ne.symm hmr, h0, zzA, del, hb, zaa, getK, zab, zac, zad, zar, del]; done) | fail) (by rfl) (by first | assumption | (simp; done) | fail) (by rfl) (by simp) ?_; (try simp [hne, hne2, hmr, Ne.symm hmr, h0, zzA, del, hb, zcZ, del]))
  | fail)
     (refine EndW.z ([(m, mOb lets r g), (r, tOb T)]) (N := nx) Tryz.results98 (by simp [hm, hr, hne, hne2, hmr, Ne.symm hmr, zaq, zaQ] <;> omega) ?_; simp [hm, hr, hne, hne2, hmr, Ne.symm hmr, zaq, zaQ])
    ·simp only [hb, ne_eq, not_false_eq_true, decide_true] at htr ⊢;refine RetX.runW Tryz.func98 Tryz.ntmps98 rfl (by simp) fun Γ hn hpan => ?_
     repeat' (first
  | (refine zaf rfl ?_; simp [hne, hne2, hmr, Ne.symm hmr, h0, zzA, del, hb])
  | (refine CallP.f2 rfl (htr) (by first | simp [hne, hne2, hmr, Ne.symm hmr, h0, zzA, del, hb] <;> rfl | fail) ?_; simp [hne, hne2, hmr, Ne.symm hmr, h0, zzA, del, hb])
  | (refine CallP.okL (hx _ (by first | omega | (simp <;> omega) | fail) ht) (by first | (simp [hne, hne2, hmr, Ne.symm hmr, h0, zzA, del, hb, zaa, getK, zab, zac, zad, zar, del]; done) | fail) (by rfl) (by first | assumption | (simp; done) | fail) (by rfl) (by simp) ?_; (try simp [hne, hne2, hmr, Ne.symm hmr, h0, zzA, del, hb, zcZ, del]))
  | (refine CallP.okL (hy _ (by first | omega | (simp <;> omega) | fail) hxok1) (by first | (simp [hne, hne2, hmr, Ne.symm hmr, h0, zzA, del, hb, zaa, getK, zab, zac, zad, zar, del]; done) | fail) (by rfl) (by first | assumption | (simp; done) | fail) (by rfl) (by simp) ?_; (try simp [hne, hne2, hmr, Ne.symm hmr, h0, zzA, del, hb, zcZ, del]))
  | fail)
     (refine EndW.z ([(m, mOb lets r g), (r, tOb T)]) (N := nx) Tryz.results98 (by simp [hm, hr, hne, hne2, hmr, Ne.symm hmr, zaq, zaQ] <;> omega) ?_; simp [hm, hr, hne, hne2, hmr, Ne.symm hmr, zaq, zaQ])
  ·skip
   rw [zsH h0 he hvx ha];simp only [zdj];obtain ⟨T, rfl⟩ : ∃ T, T = t1 := ⟨_, rfl⟩;have htr := zd3 true;simp only [zdP, if_true] at htr;refine RetX.runW Tryz.func98 Tryz.ntmps98 rfl (by simp) fun Γ hn hpan => ?_
   repeat' (first
  | (refine zaf rfl ?_; simp [hne, hne2, hmr, Ne.symm hmr, h0, zzA, del, ha])
  | (refine CallP.f2 rfl (htr) (by first | simp [hne, hne2, hmr, Ne.symm hmr, h0, zzA, del, ha] <;> rfl | fail) ?_; simp [hne, hne2, hmr, Ne.symm hmr, h0, zzA, del, ha])
  | (refine CallP.okL (hx _ (by first | omega | (simp <;> omega) | fail) ht) (by first | (simp [hne, hne2, hmr, Ne.symm hmr, h0, zzA, del, ha, zaa, getK, zab, zac, zad, zar, del]; done) | fail) (by rfl) (by first | assumption | (simp; done) | fail) (by rfl) (by simp) ?_; (try simp [hne, hne2, hmr, Ne.symm hmr, h0, zzA, del, ha, zcZ, del]))
  | fail)
   (refine EndW.z ([(m, mOb lets r g), (r, tOb T)]) (N := nx) Tryz.results98 (by simp [hm, hr, hne, hne2, hmr, Ne.symm hmr, zaq, zaQ] <;> omega) ?_; simp [hm, hr, hne, hne2, hmr, Ne.symm hmr, zaq, zaQ])
theorem zp0 {lets : List Let} {r : Nat} {g : GM} {m n : Nat} {e x : Exp} (hmr : m ≠ r) (h0 : e.op = 12) (he : e.args = [x]) (hVx : zeA lets r g m n x) (hTx : TMok lets.length (zcJ lets (gF g) n x)) : zeA lets r g m n e := by
 intro t nx hm hr ht;have hne := nef hm;have hne2 := nef hr;unfold zdo;have hx := zez hVx e 0 (by rw [he]; rfl) hmr nx hm hr t;have hxok := hTx t ht;rcases hvx : zcJ lets (gF g) n x t with ⟨er | a, t1⟩
 ·obtain ⟨T, rfl⟩ : ∃ T, T = t1 := ⟨_, rfl⟩;rw [zgG (by omega) (by omega) he hvx];simp only [hvx, zdj] at hx ⊢;refine RetX.runW Tryz.func98 Tryz.ntmps98 rfl (by simp) fun Γ hn hpan => ?_
  repeat' (first
  | (refine zaf rfl ?_; simp [hne, hne2, hmr, Ne.symm hmr, h0, zzA, del])
  | (refine CallP.zkV (hx _ (by first | omega | (simp <;> omega) | fail) ht) (by first | (simp [hne, hne2, hmr, Ne.symm hmr, h0, zzA, del, zaa, getK, zab, zac, zad, zar, del]; done) | fail) (by rfl) (by first | assumption | (simp; done) | fail) (by rfl) (by simp) ?_; refine ⟨_, Wk.refl _, ?_⟩; (try simp [hne, hne2, hmr, Ne.symm hmr, h0, zzA, del, zcZ, del]))
  | fail)
  (refine hpan _ _ (PanG.k ([(m, mOb lets r g), (r, tOb T)]) (nx) (by simp [hn, hm, hr, hne, hne2, hmr, Ne.symm hmr, zaq, zaQ, zab, zac, zaa, getK] <;> omega) ?_); try simp)
 ·obtain ⟨T, rfl⟩ : ∃ T, T = t1 := ⟨_, rfl⟩;rw [zsJ h0 he hvx];simp only [hvx, zdj] at hx ⊢;have htr := zd3 (decide (a = 0));by_cases ha : a = 0
  ·simp only [ha, decide_true] at htr hx ⊢;refine RetX.runW Tryz.func98 Tryz.ntmps98 rfl (by simp) fun Γ hn hpan => ?_
   repeat' (first
  | (refine zaf rfl ?_; simp [hne, hne2, hmr, Ne.symm hmr, h0, zzA, del])
  | (refine CallP.f2 rfl (htr) (by first | simp [hne, hne2, hmr, Ne.symm hmr, h0, zzA, del] <;> rfl | fail) ?_; simp [hne, hne2, hmr, Ne.symm hmr, h0, zzA, del])
  | (refine CallP.okL (hx _ (by first | omega | (simp <;> omega) | fail) ht) (by first | (simp [hne, hne2, hmr, Ne.symm hmr, h0, zzA, del, zaa, getK, zab, zac, zad, zar, del]; done) | fail) (by rfl) (by first | assumption | (simp; done) | fail) (by rfl) (by simp) ?_; (try simp [hne, hne2, hmr, Ne.symm hmr, h0, zzA, del, zcZ, del]))
  | fail)
   (refine EndW.z ([(m, mOb lets r g), (r, tOb T)]) (N := nx) Tryz.results98 (by simp [hm, hr, hne, hne2, hmr, Ne.symm hmr, zaq, zaQ] <;> omega) ?_; simp [hm, hr, hne, hne2, hmr, Ne.symm hmr, zaq, zaQ])
  ·simp only [ha, decide_false] at htr ⊢;refine RetX.runW Tryz.func98 Tryz.ntmps98 rfl (by simp) fun Γ hn hpan => ?_
   repeat' (first
  | (refine zaf rfl ?_; simp [hne, hne2, hmr, Ne.symm hmr, h0, zzA, del, ha])
  | (refine CallP.f2 rfl (htr) (by first | simp [hne, hne2, hmr, Ne.symm hmr, h0, zzA, del, ha] <;> rfl | fail) ?_; simp [hne, hne2, hmr, Ne.symm hmr, h0, zzA, del, ha])
  | (refine CallP.okL (hx _ (by first | omega | (simp <;> omega) | fail) ht) (by first | (simp [hne, hne2, hmr, Ne.symm hmr, h0, zzA, del, ha, zaa, getK, zab, zac, zad, zar, del]; done) | fail) (by rfl) (by first | assumption | (simp; done) | fail) (by rfl) (by simp) ?_; (try simp [hne, hne2, hmr, Ne.symm hmr, h0, zzA, del, ha, zcZ, del]))
  | fail)
   (refine EndW.z ([(m, mOb lets r g), (r, tOb T)]) (N := nx) Tryz.results98 (by simp [hm, hr, hne, hne2, hmr, Ne.symm hmr, zaq, zaQ] <;> omega) ?_; simp [hm, hr, hne, hne2, hmr, Ne.symm hmr, zaq, zaQ])
theorem zsE {lets : List Let} {r : Nat} {g : GM} {m n : Nat} {e x y z : Exp} (hmr : m ≠ r) (h0 : e.op = 13) (he : e.args = [x, y, z]) (hVx : zeA lets r g m n x) (hTx : TMok lets.length (zcJ lets (gF g) n x)) (hVy : zeA lets r g m n y) (hTy : TMok lets.length (zcJ lets (gF g) n y)) (hVz : zeA lets r g m n z) (hTz : TMok lets.length (zcJ lets (gF g) n z)) : zeA lets r g m n e := by
 intro t nx hm hr ht;have hne := nef hm;have hne2 := nef hr;unfold zdo;have hx := zez hVx e 0 (by rw [he]; rfl) hmr nx hm hr t;have hxok := hTx t ht;rcases hvx : zcJ lets (gF g) n x t with ⟨er | a, t1⟩
 ·obtain ⟨T, rfl⟩ : ∃ T, T = t1 := ⟨_, rfl⟩;rw [zgG (by omega) (by omega) he hvx];simp only [hvx, zdj] at hx ⊢;refine RetX.runW Tryz.func98 Tryz.ntmps98 rfl (by simp) fun Γ hn hpan => ?_
  repeat' (first
  | (refine zaf rfl ?_; simp [hne, hne2, hmr, Ne.symm hmr, h0, zzA, del])
  | (refine CallP.zkV (hx _ (by first | omega | (simp <;> omega) | fail) ht) (by first | (simp [hne, hne2, hmr, Ne.symm hmr, h0, zzA, del, zaa, getK, zab, zac, zad, zar, del]; done) | fail) (by rfl) (by first | assumption | (simp; done) | fail) (by rfl) (by simp) ?_; refine ⟨_, Wk.refl _, ?_⟩; (try simp [hne, hne2, hmr, Ne.symm hmr, h0, zzA, del, zcZ, del]))
  | fail)
  (refine hpan _ _ (PanG.k ([(m, mOb lets r g), (r, tOb T)]) (nx) (by simp [hn, hm, hr, hne, hne2, hmr, Ne.symm hmr, zaq, zaQ, zab, zac, zaa, getK] <;> omega) ?_); try simp)
 ·rw [hvx] at hxok;simp only [hvx, zdj] at hx;have hxok1 := hxok.1;simp only at hxok1;have hy := zez hVy e 1 (by rw [he]; rfl) hmr nx hm hr t1;have hyok := hTy t1 hxok1;have hz := zez hVz e 2 (by rw [he]; rfl) hmr nx hm hr t1;by_cases ha : a = 0
  ·subst ha;rw [zsL h0 he hvx];rcases hvz : zcJ lets (gF g) n z t1 with ⟨er | b, T⟩
   ·simp only [hvz, zdj] at hz ⊢;refine RetX.runW Tryz.func98 Tryz.ntmps98 rfl (by simp) fun Γ hn hpan => ?_
    repeat' (first
  | (refine zaf rfl ?_; simp [hne, hne2, hmr, Ne.symm hmr, h0, zzA, del])
  | (refine CallP.okL (hx _ (by first | omega | (simp <;> omega) | fail) ht) (by first | (simp [hne, hne2, hmr, Ne.symm hmr, h0, zzA, del, zaa, getK, zab, zac, zad, zar, del]; done) | fail) (by rfl) (by first | assumption | (simp; done) | fail) (by rfl) (by simp) ?_; (try simp [hne, hne2, hmr, Ne.symm hmr, h0, zzA, del, zcZ, del]))
  | (refine CallP.zkV (hz _ (by first | omega | (simp <;> omega) | fail) hxok1) (by first | (simp [hne, hne2, hmr, Ne.symm hmr, h0, zzA, del, zaa, getK, zab, zac, zad, zar, del]; done) | fail) (by rfl) (by first | assumption | (simp; done) | fail) (by rfl) (by simp) ?_; refine ⟨_, Wk.refl _, ?_⟩; (try simp [hne, hne2, hmr, Ne.symm hmr, h0, zzA, del, zcZ, del]))
  | fail)
    (refine hpan _ _ (PanG.k ([(m, mOb lets r g), (r, tOb T)]) (nx) (by simp [hn, hm, hr, hne, hne2, hmr, Ne.symm hmr, zaq, zaQ, zab, zac, zaa, getK] <;> omega) ?_); try simp)
   ·simp only [hvz, zdj] at hz ⊢;refine RetX.runW Tryz.func98 Tryz.ntmps98 rfl (by simp) fun Γ hn hpan => ?_
    repeat' (first
  | (refine zaf rfl ?_; simp [hne, hne2, hmr, Ne.symm hmr, h0, zzA, del])
  | (refine CallP.okL (hx _ (by first | omega | (simp <;> omega) | fail) ht) (by first | (simp [hne, hne2, hmr, Ne.symm hmr, h0, zzA, del, zaa, getK, zab, zac, zad, zar, del]; done) | fail) (by rfl) (by first | assumption | (simp; done) | fail) (by rfl) (by simp) ?_; (try simp [hne, hne2, hmr, Ne.symm hmr, h0, zzA, del, zcZ, del]))
  | (refine CallP.okL (hz _ (by first | omega | (simp <;> omega) | fail) hxok1) (by first | (simp [hne, hne2, hmr, Ne.symm hmr, h0, zzA, del, zaa, getK, zab, zac, zad, zar, del]; done) | fail) (by rfl) (by first | assumption | (simp; done) | fail) (by rfl) (by simp) ?_; (try simp [hne, hne2, hmr, Ne.symm hmr, h0, zzA, del, zcZ, del]))
  | fail)
    (refine EndW.z ([(m, mOb lets r g), (r, tOb T)]) (N := nx) Tryz.results98 (by simp [hm, hr, hne, hne2, hmr, Ne.symm hmr, zaq, zaQ] <;> omega) ?_; simp [hm, hr, hne, hne2, hmr, Ne.symm hmr, zaq, zaQ])
  ·rw [zsK h0 he hvx ha];rcases hvy : zcJ lets (gF g) n y t1 with ⟨er | b, T⟩
   ·simp only [hvy, zdj] at hy ⊢;refine RetX.runW Tryz.func98 Tryz.ntmps98 rfl (by simp) fun Γ hn hpan => ?_
    repeat' (first
  | (refine zaf rfl ?_; simp [hne, hne2, hmr, Ne.symm hmr, h0, zzA, del, ha])
  | (refine CallP.okL (hx _ (by first | omega | (simp <;> omega) | fail) ht) (by first | (simp [hne, hne2, hmr, Ne.symm hmr, h0, zzA, del, ha, zaa, getK, zab, zac, zad, zar, del]; done) | fail) (by rfl) (by first | assumption | (simp; done) | fail) (by rfl) (by simp) ?_; (try simp [hne, hne2, hmr, Ne.symm hmr, h0, zzA, del, ha, zcZ, del]))
  | (refine CallP.zkV (hy _ (by first | omega | (simp <;> omega) | fail) hxok1) (by first | (simp [hne, hne2, hmr, Ne.symm hmr, h0, zzA, del, ha, zaa, getK, zab, zac, zad, zar, del]; done) | fail) (by rfl) (by first | assumption | (simp; done) | fail) (by rfl) (by simp) ?_; refine ⟨_, Wk.refl _, ?_⟩; (try simp [hne, hne2, hmr, Ne.symm hmr, h0, zzA, del, ha, zcZ, del]))
  | fail)
    (refine hpan _ _ (PanG.k ([(m, mOb lets r g), (r, tOb T)]) (nx) (by simp [hn, hm, hr, hne, hne2, hmr, Ne.symm hmr, zaq, zaQ, zab, zac, zaa, getK] <;> omega) ?_); try simp)
   ·simp only [hvy, zdj] at hy ⊢;refine RetX.runW Tryz.func98 Tryz.ntmps98 rfl (by simp) fun Γ hn hpan => ?_
    repeat' (first
  | (refine zaf rfl ?_; simp [hne, hne2, hmr, Ne.symm hmr, h0, zzA, del, ha])
  | (refine CallP.okL (hx _ (by first | omega | (simp <;> omega) | fail) ht) (by first | (simp [hne, hne2, hmr, Ne.symm hmr, h0, zzA, del, ha, zaa, getK, zab, zac, zad, zar, del]; done) | fail) (by rfl) (by first | assumption | (simp; done) | fail) (by rfl) (by simp) ?_; (try simp [hne, hne2, hmr, Ne.symm hmr, h0, zzA, del, ha, zcZ, del]))
  | (refine CallP.okL (hy _ (by first | omega | (simp <;> omega) | fail) hxok1) (by first | (simp [hne, hne2, hmr, Ne.symm hmr, h0, zzA, del, ha, zaa, getK, zab, zac, zad, zar, del]; done) | fail) (by rfl) (by first | assumption | (simp; done) | fail) (by rfl) (by simp) ?_; (try simp [hne, hne2, hmr, Ne.symm hmr, h0, zzA, del, ha, zcZ, del]))
  | fail)
    (refine EndW.z ([(m, mOb lets r g), (r, tOb T)]) (N := nx) Tryz.results98 (by simp [hm, hr, hne, hne2, hmr, Ne.symm hmr, zaq, zaQ] <;> omega) ?_; simp [hm, hr, hne, hne2, hmr, Ne.symm hmr, zaq, zaQ])
theorem zp2 {lets : List Let} {r : Nat} {g : GM} {m n : Nat} {e x y : Exp} (hmr : m ≠ r) (hop : 2 <= e.op /\ e.op <= 9) (hl : lets.length <= 20) (hnl : n <= lets.length) (he : e.args = [x, y]) (hVx : zeA lets r g m n x) (hTx : TMok lets.length (zcJ lets (gF g) n x)) (hVy : zeA lets r g m n y) (hTy : TMok lets.length (zcJ lets (gF g) n y)) : zeA lets r g m n e := by
 intro t nx hm hr ht;have hne := nef hm;have hne2 := nef hr;unfold zdo;have c0 : ¬ e.op = 0 := by omega
 have c1 : ¬ e.op = 1 := by omega
 have c2 : ¬ e.op = 10 := by omega
 have c3 : ¬ e.op = 11 := by omega
 have c4 : ¬ e.op = 12 := by omega
 have c5 : ¬ e.op = 13 := by omega
 have hx := zez hVx e 0 (by rw [he]; rfl) hmr nx hm hr t;have hxok := hTx t ht;rcases hvx : zcJ lets (gF g) n x t with ⟨er | a, t1⟩
 ·obtain ⟨T, rfl⟩ : ∃ T, T = t1 := ⟨_, rfl⟩;rw [zgG (by omega) (by omega) he hvx];simp only [hvx, zdj] at hx ⊢;refine RetX.runW Tryz.func98 Tryz.ntmps98 rfl (by simp) fun Γ hn hpan => ?_
  repeat' (first
  | (refine zib (fun nx' h' => hx nx' (by simp at h'; omega) ht) (by first | (simp [hne, hne2, hmr, Ne.symm hmr, c0, c1, c2, c3, c4, c5, zzA, del, zaa, getK, zab, zac, zad, zar, del]; done) | fail) (by rfl) (by first | assumption | (simp; done) | fail) (by rfl) (by simp) ?_ ?_; intro env' n' hn'; refine ⟨_, Wk.refl _, ?_⟩; (try simp [hne, hne2, hmr, Ne.symm hmr, c0, c1, c2, c3, c4, c5, zzA, del, zcZ, del]))
  | (refine zms rfl (by simp) ?_; simp)
  | (refine zbQ rfl ?_; simp [hne, hne2, hmr, Ne.symm hmr, c0, c1, c2, c3, c4, c5, zzA, del]; (fail_if_success (guard_target =ₛ False)))
  | (refine zaf rfl ?_; simp [hne, hne2, hmr, Ne.symm hmr, c0, c1, c2, c3, c4, c5, zzA, del])
  | (refine zeg (hC _ (zb1 [m, r] nx (by simp <;> omega) (by simp <;> omega) (by apply Exists.intro; apply And.intro; (focus (repeat' (first | exact KF.nil | exact KL.nil | apply KF.cons | apply KL.cons 0 rfl | apply KL.cons 1 rfl | apply KL.cons 2 rfl | apply KL.cons 3 rfl | apply KL.cons 4 rfl | apply KL.cons 5 rfl | apply KL.cons 6 rfl | apply KL.cons 7 rfl | apply KL.cons 8 rfl | apply KL.cons 9 rfl))); kernel_rfl))) rfl; done)
  | (refine zdx rfl (by kernel_rfl) (by first | (simp [hn] <;> omega) | fail) fun C k hC hk => ?_; simp [hne, hne2, hmr, Ne.symm hmr, c0, c1, c2, c3, c4, c5, zzA, del])
  | fail)
  (refine hpan _ _ (PanG.k ([(m, mOb lets r g), (r, tOb T)]) (nx) (by simp [hn, hm, hr, hne, hne2, hmr, Ne.symm hmr, zaq, zaQ, zab, zac, zaa, getK] <;> omega) ?_); try simp)
 ·rw [hvx] at hxok;simp only [hvx, zdj] at hx;have hxok1 := hxok.1;simp only at hxok1;have hy := zez hVy e 1 (by rw [he]; rfl) hmr nx hm hr t1;have hyok := hTy t1 hxok1;have hx1 := fun nx' h1 h2 h3 => zol (v := a) (t1 := t1) hVx e 0 (by rw [he]; rfl) hmr nx hm hr t nx' h1 h2 h3;have hy1 := fun v T nx' h1 h2 h3 => zol (v := v) (t1 := T) hVy e 1 (by rw [he]; rfl) hmr nx hm hr t1 nx' h1 h2 h3;rcases hvy : zcJ lets (gF g) n y t1 with ⟨er | b, T⟩
  ·rw [zp7 hop he hvx hvy];simp only [hvy, zdj] at hy ⊢;refine RetX.runW Tryz.func98 Tryz.ntmps98 rfl (by simp) fun Γ hn hpan => ?_
   repeat' (first
  | (refine zi8 (fun nx' h' => hx1 nx' (by simp at h'; omega) ht hvx) (by first | (simp [hne, hne2, hmr, Ne.symm hmr, c0, c1, c2, c3, c4, c5, zzA, del, zaa, getK, zab, zac, zad, zar, del]; done) | fail) (by first | (simp [hne, hne2, hmr, Ne.symm hmr, c0, c1, c2, c3, c4, c5, zzA, del]; done) | fail) (by rfl) (by first | assumption | (simp; done) | fail) (by rfl) (by first | (simp [hne, hne2, hmr, Ne.symm hmr, c0, c1, c2, c3, c4, c5, zzA, del, D.under, Ob.under, zaj, zak]; done) | (simp [hne, hne2, hmr, Ne.symm hmr, c0, c1, c2, c3, c4, c5, zzA, del, D.under, Ob.under, zaj, zak]; omega) | fail) (by simp) ?_; (try simp [hne, hne2, hmr, Ne.symm hmr, c0, c1, c2, c3, c4, c5, zzA, del]))
  | (refine zib (fun nx' h' => hy nx' (by simp at h'; omega) hxok1) (by first | (simp [hne, hne2, hmr, Ne.symm hmr, c0, c1, c2, c3, c4, c5, zzA, del, zaa, getK, zab, zac, zad, zar, del]; done) | fail) (by rfl) (by first | assumption | (simp; done) | fail) (by rfl) (by simp) ?_ ?_; intro env' n' hn'; refine ⟨_, Wk.refl _, ?_⟩; (try simp [hne, hne2, hmr, Ne.symm hmr, c0, c1, c2, c3, c4, c5, zzA, del, zcZ, del]))
  | (refine zms rfl (by simp) ?_; simp)
  | (refine zbQ rfl ?_; simp [hne, hne2, hmr, Ne.symm hmr, c0, c1, c2, c3, c4, c5, zzA, del]; (fail_if_success (guard_target =ₛ False)))
  | (refine zaf rfl ?_; simp [hne, hne2, hmr, Ne.symm hmr, c0, c1, c2, c3, c4, c5, zzA, del])
  | (refine zeg (hC _ (zb1 [m, r] nx (by simp <;> omega) (by simp <;> omega) (by apply Exists.intro; apply And.intro; (focus (repeat' (first | exact KF.nil | exact KL.nil | apply KF.cons | apply KL.cons 0 rfl | apply KL.cons 1 rfl | apply KL.cons 2 rfl | apply KL.cons 3 rfl | apply KL.cons 4 rfl | apply KL.cons 5 rfl | apply KL.cons 6 rfl | apply KL.cons 7 rfl | apply KL.cons 8 rfl | apply KL.cons 9 rfl))); kernel_rfl))) rfl; done)
  | (refine zdx rfl (by kernel_rfl) (by first | (simp [hn] <;> omega) | fail) fun C k hC hk => ?_; simp [hne, hne2, hmr, Ne.symm hmr, c0, c1, c2, c3, c4, c5, zzA, del])
  | fail)
   (refine hpan _ _ (PanG.k ([(m, mOb lets r g), (r, tOb T)]) (nx) (by simp [hn, hm, hr, hne, hne2, hmr, Ne.symm hmr, zaq, zaQ, zab, zac, zaa, getK] <;> omega) ?_); try simp)
  ·rw [zsM hop he hvx hvy];rw [hvy] at hyok;have hb := fun nx' (h : nx <= nx') => zpM lets r g m nx' (by omega) (by omega) e x y a b n hnl hl he (hxok.2.1 a rfl) (hyok.2.1 b rfl) hop;simp only [hvy, zdj] at hy ⊢;unfold zdo at hb;cases hbx : zjo e.op (zdI (lets.take n) x || zdI (lets.take n) y) a b with
   | error er =>
    simp only [hbx, zdj] at hb ⊢;refine RetX.runW Tryz.func98 Tryz.ntmps98 rfl (by simp) fun Γ hn hpan => ?_
    repeat' (first
  | (refine zi8 (fun nx' h' => hx1 nx' (by simp at h'; omega) ht hvx) (by first | (simp [hne, hne2, hmr, Ne.symm hmr, c0, c1, c2, c3, c4, c5, zzA, del, zaa, getK, zab, zac, zad, zar, del]; done) | fail) (by first | (simp [hne, hne2, hmr, Ne.symm hmr, c0, c1, c2, c3, c4, c5, zzA, del]; done) | fail) (by rfl) (by first | assumption | (simp; done) | fail) (by rfl) (by first | (simp [hne, hne2, hmr, Ne.symm hmr, c0, c1, c2, c3, c4, c5, zzA, del, D.under, Ob.under, zaj, zak]; done) | (simp [hne, hne2, hmr, Ne.symm hmr, c0, c1, c2, c3, c4, c5, zzA, del, D.under, Ob.under, zaj, zak]; omega) | fail) (by simp) ?_; (try simp [hne, hne2, hmr, Ne.symm hmr, c0, c1, c2, c3, c4, c5, zzA, del]))
  | (refine zi8 (fun nx' h' => hy1 _ _ nx' (by simp at h'; omega) hxok1 hvy) (by first | (simp [hne, hne2, hmr, Ne.symm hmr, c0, c1, c2, c3, c4, c5, zzA, del, zaa, getK, zab, zac, zad, zar, del]; done) | fail) (by first | (simp [hne, hne2, hmr, Ne.symm hmr, c0, c1, c2, c3, c4, c5, zzA, del]; done) | fail) (by rfl) (by first | assumption | (simp; done) | fail) (by rfl) (by first | (simp [hne, hne2, hmr, Ne.symm hmr, c0, c1, c2, c3, c4, c5, zzA, del, D.under, Ob.under, zaj, zak]; done) | (simp [hne, hne2, hmr, Ne.symm hmr, c0, c1, c2, c3, c4, c5, zzA, del, D.under, Ob.under, zaj, zak]; omega) | fail) (by simp) ?_; (try simp [hne, hne2, hmr, Ne.symm hmr, c0, c1, c2, c3, c4, c5, zzA, del]))
  | (refine zib (fun nx' h' => hb nx' (by simp at h'; omega)) (by first | (simp [hne, hne2, hmr, Ne.symm hmr, c0, c1, c2, c3, c4, c5, zzA, del, zaa, getK, zab, zac, zad, zar, del]; done) | fail) (by rfl) (by first | assumption | (simp; done) | fail) (by rfl) (by simp) ?_ ?_; intro env' n' hn'; refine ⟨_, Wk.refl _, ?_⟩; (try simp [hne, hne2, hmr, Ne.symm hmr, c0, c1, c2, c3, c4, c5, zzA, del, zcZ, del]))
  | (refine zbQ rfl ?_; simp [hne, hne2, hmr, Ne.symm hmr, c0, c1, c2, c3, c4, c5, zzA, del]; (fail_if_success (guard_target =ₛ False)))
  | (refine zaf rfl ?_; simp [hne, hne2, hmr, Ne.symm hmr, c0, c1, c2, c3, c4, c5, zzA, del])
  | (refine zeg (hC _ (zb1 [m, r] nx (by simp <;> omega) (by simp <;> omega) (by apply Exists.intro; apply And.intro; (focus (repeat' (first | exact KF.nil | exact KL.nil | apply KF.cons | apply KL.cons 0 rfl | apply KL.cons 1 rfl | apply KL.cons 2 rfl | apply KL.cons 3 rfl | apply KL.cons 4 rfl | apply KL.cons 5 rfl | apply KL.cons 6 rfl | apply KL.cons 7 rfl | apply KL.cons 8 rfl | apply KL.cons 9 rfl))); kernel_rfl))) rfl; done)
  | (refine zdx rfl (by kernel_rfl) (by first | (simp [hn] <;> omega) | fail) fun C k hC hk => ?_; simp [hne, hne2, hmr, Ne.symm hmr, c0, c1, c2, c3, c4, c5, zzA, del])
  | fail)
    (refine hpan _ _ (PanG.k ([(m, mOb lets r g), (r, tOb T)]) (nx) (by simp [hn, hm, hr, hne, hne2, hmr, Ne.symm hmr, zaq, zaQ, zab, zac, zaa, getK] <;> omega) ?_); try simp)
   | ok v =>
    simp only [hbx, zdj] at hb ⊢;refine RetX.runW Tryz.func98 Tryz.ntmps98 rfl (by simp) fun Γ hn hpan => ?_
    repeat' (first
  | (refine zi8 (fun nx' h' => hx1 nx' (by simp at h'; omega) ht hvx) (by first | (simp [hne, hne2, hmr, Ne.symm hmr, c0, c1, c2, c3, c4, c5, zzA, del, zaa, getK, zab, zac, zad, zar, del]; done) | fail) (by first | (simp [hne, hne2, hmr, Ne.symm hmr, c0, c1, c2, c3, c4, c5, zzA, del]; done) | fail) (by rfl) (by first | assumption | (simp; done) | fail) (by rfl) (by first | (simp [hne, hne2, hmr, Ne.symm hmr, c0, c1, c2, c3, c4, c5, zzA, del, D.under, Ob.under, zaj, zak]; done) | (simp [hne, hne2, hmr, Ne.symm hmr, c0, c1, c2, c3, c4, c5, zzA, del, D.under, Ob.under, zaj, zak]; omega) | fail) (by simp) ?_; (try simp [hne, hne2, hmr, Ne.symm hmr, c0, c1, c2, c3, c4, c5, zzA, del]))
  | (refine zi8 (fun nx' h' => hy1 _ _ nx' (by simp at h'; omega) hxok1 hvy) (by first | (simp [hne, hne2, hmr, Ne.symm hmr, c0, c1, c2, c3, c4, c5, zzA, del, zaa, getK, zab, zac, zad, zar, del]; done) | fail) (by first | (simp [hne, hne2, hmr, Ne.symm hmr, c0, c1, c2, c3, c4, c5, zzA, del]; done) | fail) (by rfl) (by first | assumption | (simp; done) | fail) (by rfl) (by first | (simp [hne, hne2, hmr, Ne.symm hmr, c0, c1, c2, c3, c4, c5, zzA, del, D.under, Ob.under, zaj, zak]; done) | (simp [hne, hne2, hmr, Ne.symm hmr, c0, c1, c2, c3, c4, c5, zzA, del, D.under, Ob.under, zaj, zak]; omega) | fail) (by simp) ?_; (try simp [hne, hne2, hmr, Ne.symm hmr, c0, c1, c2, c3, c4, c5, zzA, del]))
  | (refine zsu (fun nx' h' => hb nx' (by simp at h'; omega)) (by first | (simp [hne, hne2, hmr, Ne.symm hmr, c0, c1, c2, c3, c4, c5, zzA, del, zaa, getK, zab, zac, zad, zar, del]; done) | fail) rfl (by first | (simp [hne, hne2, hmr, Ne.symm hmr, c0, c1, c2, c3, c4, c5, zzA, del]; done) | fail) (by rfl) (by first | assumption | (simp; done) | fail) (by rfl) (by first | (simp [hne, hne2, hmr, Ne.symm hmr, c0, c1, c2, c3, c4, c5, zzA, del, D.under, Ob.under, zaj, zak]; done) | (simp [hne, hne2, hmr, Ne.symm hmr, c0, c1, c2, c3, c4, c5, zzA, del, D.under, Ob.under, zaj, zak]; omega) | fail) (by simp) ?_; (try simp [hne, hne2, hmr, Ne.symm hmr, c0, c1, c2, c3, c4, c5, zzA, del]))
  | (refine zaf rfl ?_; simp [hne, hne2, hmr, Ne.symm hmr, c0, c1, c2, c3, c4, c5, zzA, del])
  | (refine ⟨hC _ (zb1 [m, r] nx (by simp <;> omega) (by simp <;> omega) (by apply Exists.intro; apply And.intro; (focus (repeat' (first | exact KF.nil | exact KL.nil | apply KF.cons | apply KL.cons 0 rfl | apply KL.cons 1 rfl | apply KL.cons 2 rfl | apply KL.cons 3 rfl | apply KL.cons 4 rfl | apply KL.cons 5 rfl | apply KL.cons 6 rfl | apply KL.cons 7 rfl | apply KL.cons 8 rfl | apply KL.cons 9 rfl))); kernel_rfl)), hk _ (zdH 8 _ _ _ ?_)⟩; clear hC hk C k; simp [hne, hne2, hmr, Ne.symm hmr, c0, c1, c2, c3, c4, c5, zzA, del])
  | (refine zdx rfl (by kernel_rfl) (by first | (simp [hn] <;> omega) | fail) fun C k hC hk => ?_; simp [hne, hne2, hmr, Ne.symm hmr, c0, c1, c2, c3, c4, c5, zzA, del])
  | (refine zcA rfl ?_; simp [hne, hne2, hmr, Ne.symm hmr, c0, c1, c2, c3, c4, c5, zzA, del])
  | fail)
    (refine EndW.z ([(m, mOb lets r g), (r, tOb T)]) (N := nx) Tryz.results98 (by simp [hm, hr, hne, hne2, hmr, Ne.symm hmr, zaq, zaQ] <;> omega) ?_; simp [hm, hr, hne, hne2, hmr, Ne.symm hmr, zaq, zaQ])
theorem zdi (l : List Tok) (p : Nat) (t : Tok) (hp : l[p]? = some t) (hl : l.length <= 1000000) : Fun Tryz.prog 89 [.u (zuw l p)] (· = .u (.agg [.int .i64 t.kind, .str t.text, .int .i64 t.n, .int .i64 t.pos])) := by
 have hlt := (List.getElem?_eq_some_iff.1 hp).1;unfold zuw zqg;refine Fun.run Tryz.func89 Tryz.ntmps89 Tryz.results89 rfl (by simp) fun Γ hn => ?_
 repeat' (first
  | (refine zaf rfl ?_; simp [hp])
  | (refine ⟨hC _ (by kernel_rfl), hk _ (zdH 8 _ _ _ ?_)⟩; clear hC hk C k; simp [hp])
  | (refine zdx rfl (by kernel_rfl) (by first | (simp [hn] <;> omega) | fail) fun C k hC hk => ?_; simp [hp])
  | fail)
 (refine Pst.of ?_; simp)
theorem zfr (l : List Tok) (p : Nat) (w : List UInt8) (hp : p < l.length) (hl : l.length <= 1000000) : Fun Tryz.prog 86 [.u (zuw l p), .u (.str w)] (· = .u (.bool (isB l p w))) := by
 obtain ⟨t, ht⟩ : ∃ t, l[p]? = some t := ⟨_, List.getElem?_eq_getElem hp⟩;have hnx := zdi l p t ht hl;unfold isB;rw [ht];unfold zuw zqg at *;by_cases h1 : t.kind = 0
 ·refine Fun.run Tryz.func86 Tryz.ntmps86 Tryz.results86 rfl (by simp) fun Γ hn => ?_
  repeat' (first
  | (refine zaf rfl ?_; simp [h1])
  | (refine CallP.f2 rfl (hnx) (by first | simp [h1] <;> rfl | fail) ?_; simp [h1])
  | fail)
  all_goals
   (refine Pst.of ?_; simp)
  all_goals simp [h1]
 ·refine Fun.run Tryz.func86 Tryz.ntmps86 Tryz.results86 rfl (by simp) fun Γ hn => ?_
  repeat' (first
  | (refine zaf rfl ?_; simp [h1])
  | (refine CallP.f2 rfl (hnx) (by first | simp [h1] <;> rfl | fail) ?_; simp [h1])
  | fail)
  all_goals
   (refine Pst.of ?_; simp)
  all_goals simp [h1]
theorem zb3 (l : List Tok) (p : Nat) (w : List UInt8) (i nx : Nat) (hi : i < nx) (hp : p < l.length) (hl : l.length <= 1000000) :
  RetX Tryz.prog 115 [.ptr i 0, .u (.str w)] [(i, pOb l p)] nx (fun r o n => r = .val (.u (.bool (isB l p w))) /\ o = [(i, pOb l (if isB l p w = true then p + 1 else p))] /\ n = nx) := by
 have h1 := zfr l p w hp hl;unfold pOb zuw zqg at *;cases hb : isB l p w with
 | false =>
  rw [hb] at h1;refine RetX.runW Tryz.func115 Tryz.ntmps115 rfl (by simp) fun Γ hn hpan => ?_
  repeat' (first
  | (refine zaf rfl ?_; simp)
  | (refine CallP.f2 rfl (h1) (by first | simp <;> rfl | fail) ?_; simp)
  | fail)
  (refine EndW.h Tryz.results115 ?_; simp)
 | true =>
  rw [hb] at h1;refine RetX.runW Tryz.func115 Tryz.ntmps115 rfl (by simp) fun Γ hn hpan => ?_
  repeat' (first
  | (refine zaf rfl ?_; simp)
  | (refine And.intro (by omega) ?_)
  | (refine CallP.f2 rfl (h1) (by first | simp <;> rfl | fail) ?_; simp)
  | fail)
  (refine EndW.h Tryz.results115 ?_; simp)
def chP (pos e : Int) : List PanicEntry := [{ v := .iface 149 (.agg #[.int .i64 pos, .int .i64 e]), recovered := false }]
def isP (l : List Tok) (ob : Ob) : Prop := ∃ q : Nat, ob = pOb l q
theorem zf5 (l : List Tok) (p : Nat) (e : Int) (i nx : Nat) (hi : i < nx) :
  RetX Tryz.prog 85 [.ptr i 0, .u (.bool true), .u (.int .i64 e)] [(i, pOb l p)] nx (fun r o n => r = .val (.tup []) /\ o = [(i, pOb l p)] /\ n = nx) := by
 refine RetX.runW Tryz.func85 Tryz.ntmps85 rfl (by simp) fun Γ hn hpan => ?_
 repeat' (first
  | (refine zaf rfl ?_; simp)
  | fail)
 (refine EndW.h Tryz.results85 ?_; simp)
theorem zex (l : List Tok) (p : Nat) (t : Tok) (e : Int) (i nx : Nat) (hi : i < nx) (hp : l[p]? = some t) (hl : l.length <= 1000000) :
  RetX Tryz.prog 85 [.ptr i 0, .u (.bool false), .u (.int .i64 e)] [(i, pOb l p)] nx (fun r o n => r = .pan (chP t.pos e) /\ (∃ ob', isP l ob' /\ o = [(i, ob')]) /\ n = nx) := by
 have h1 := zdi l p t hp hl;refine RetX.runW Tryz.func85 Tryz.ntmps85 rfl (by simp) fun Γ hn hpan => ?_
 repeat' (first
  | (refine zaf rfl ?_; simp)
  | (refine CallP.f2 rfl (h1) (by first | simp <;> rfl | fail) ?_; simp)
  | fail)
 all_goals
  (refine hpan _ _ (PanG.k ([(i, pOb l p)]) (nx) (by simp [hn, hi] <;> omega) ?_); try simp)
  all_goals exact ⟨rfl, p, rfl⟩
inductive PR (α : Type) where
 | ok (a : α) (p : Nat)
 | stop (pos e : Int)
def zeo (l : List Tok) (p : Nat) : Int := match l[p]? with | some t => t.pos | none => 0
def zcV (l : List Tok) : Nat -> List (List UInt8) -> PR Unit
 | p, [] => .ok () p
 | p, w :: ws => if isB l p w = true then zcV l (p + 1) ws else .stop (zeo l p) 12
def PPost {α : Type} (l : List Tok) (i nx : Nat) (val : α -> D) : PR α -> Out -> List (Nat × Ob) -> Nat -> Prop
 | .ok a q, o, obs, n => o = .val (val a) /\ obs = [(i, pOb l q)] /\ n = nx
 | .stop pos e, o, obs, n => o = .pan (chP pos e) /\ (∃ ob', isP l ob' /\ obs = [(i, ob')]) /\ n = nx
theorem zkf (l : List Tok) (p : Nat) (ws : List (List UInt8)) (i nx : Nat) (hi : i < nx) (hp : p < l.length) (hl : TokOK l) (hw : ws.length <= 100) :
  RetX Tryz.prog 91 [.ptr i 0, .u (.sl (ws.map fun w => [.str w]))] [(i, pOb l p)] nx (PPost l i nx (fun _ => .tup []) (zcV l p ws)) := by
 refine RetX.runW Tryz.func91 Tryz.ntmps91 rfl (by simp) fun Γ hn hpan => ?_
 repeat' (first
  | (refine zaf rfl ?_; simp)
  | fail)
 refine zbS (α := { x : Nat × Nat // x.1 <= ws.length /\ x.2 < l.length /\ zcV l p ws = zcV l x.2 (ws.drop x.1) }) [0, 6, 7] (fun x => [(8, .u (.int .i64 x.1.1))]) (fun x => [(i, pOb l x.1.2)]) nx (fun x => ws.length - x.1.1) ⟨(0, p), by simp, hp, by simp⟩ ?_ ?_
 ·exact (Wk.zdw (by simp [hn, hi] <;> grind))
 rintro ⟨⟨k, q⟩, h1, h2, h3⟩;simp only at h1 h2 h3;simp;rcases hx : ws[k]? with _ | w
 ·have hge : ws.length <= k := by simpa using hx
  obtain rfl : k = ws.length := by omega
  rw [List.drop_length, zcV] at h3
  repeat' (first
  | (refine zaf rfl ?_; simp [hx])
  | fail)
  rw [h3]
  (refine EndW.h Tryz.results91 ?_; simp)
  simp [PPost]
 ·have hlt : k < ws.length := (List.getElem?_eq_some_iff.1 hx).1;have hd : ws.drop k = w :: ws.drop (k + 1) := by
   obtain ⟨h5, h6⟩ := List.getElem?_eq_some_iff.1 hx;rw [<- h6, List.getElem_cons_drop]
  rw [hd, zcV] at h3;have hh := zb3 l q w i nx hi h2 hl.len;by_cases hb : isB l q w = true
  ·rw [if_pos hb] at h3;rw [hb, if_pos rfl] at hh;have hq := zbR hl hb;have hck := zf5 l (q + 1) 12 i nx hi
   repeat' (first
  | (refine Cnd.of (fun hc => ?_) (fun hc => ?_) <;> (try (exfalso; omega)) <;> (try simp [hx]))
  | (refine zaf rfl ?_; simp [hx])
  | (refine And.intro (by omega) ?_)
  | (refine CallP.ok1 (hh) (by first | (simp [hx, zaa, getK, zab, zac]; done) | fail) (by rfl) (by first | assumption | (simp; done) | fail) (by rfl) (by simp) ?_; (try simp [hx]))
  | (refine CallP.ok1 (hck) (by first | (simp [hx, zaa, getK, zab, zac]; done) | fail) (by rfl) (by first | assumption | (simp; done) | fail) (by rfl) (by simp) ?_; (try simp [hx]))
  | fail)
   refine LoopW.next ⟨(k + 1, q + 1), by omega, hq, h3⟩ (by simp; omega) ?_
   exact (Wk.zdw (by simp [hn, hi, zab, zac, zaa, getK] <;> grind))
  ·have hb2 : isB l q w = false := by simpa using hb
   rw [if_neg hb] at h3;rw [hb2, if_neg (by simp)] at hh;obtain ⟨t, ht⟩ : ∃ t, l[q]? = some t := ⟨_, List.getElem?_eq_getElem h2⟩;have hck := zex l q t 12 i nx hi ht hl.len
   repeat' (first
  | (refine Cnd.of (fun hc => ?_) (fun hc => ?_) <;> (try (exfalso; omega)) <;> (try simp [hx]))
  | (refine zaf rfl ?_; simp [hx])
  | (refine CallP.ok1 (hh) (by first | (simp [hx, zaa, getK, zab, zac]; done) | fail) (by rfl) (by first | assumption | (simp; done) | fail) (by rfl) (by simp) ?_; (try simp [hx]))
  | (refine CallP.zgg (hck) (by first | (simp [hx, zaa, getK, zab, zac]; done) | fail) (by rfl) (by first | assumption | (simp; done) | fail) (by rfl) (by simp) ?_; rintro ob' ⟨q', rfl⟩; refine ⟨_, Wk.refl _, ?_⟩)
  | fail)
   rw [h3] at hpan
   (refine hpan _ _ (PanG.k ([(i, pOb l q')]) (nx) (by simp [hn, hi, zab, zac, zaa, getK] <;> omega) ?_); try simp)
   all_goals exact ⟨by simp [zeo, ht], ⟨_, ⟨q', rfl⟩, rfl⟩, rfl⟩
theorem zqT {c : UInt8} {r : List UInt8} {e : Int} (h : zjf (c :: r) = .error e) : e ≠ 0 := by
 unfold zjf at h;simp only at h;split at h
 ·split at h <;> cases h;omega
 ·split at h
  ·split at h <;> cases h;omega
  ·split at h <;> cases h;omega
theorem zn0 {s : List UInt8} : ∀ (f p : Nat) (q : Nat) (e : Int), zq9 f s p = .error (q, e) -> p <= s.length -> e ≠ 0 /\ q <= s.length
 | 0, p, q, e, h, _ => by simp [zq9] at h
 | f + 1, p, q, e, h, h3 => by
  rw [zq9] at h;have hle := zeG zc1 (s.drop p);rw [List.length_drop] at hle;split at h
  ·cases h
  ·rename_i c r hd;have hdl : (s.drop (p + zdt zc1 (s.drop p))).length = r.length + 1 := by rw [hd]; rfl
   rw [List.length_drop] at hdl;split at h
   ·rename_i ht;cases h;exact ⟨zqT ht, by omega⟩
   ·rename_i t ht;obtain ⟨ht1, ht2⟩ := zhr ht;simp only [List.length_cons] at ht2;split at h
    ·rename_i x hx;cases h;exact zn0 f _ q e hx (by omega)
    ·cases h
theorem zth {s : List UInt8} {q : Nat} {e : Int} (h : zpP s = .error (q, e)) : e ≠ 0 /\ q <= s.length := by
 unfold zpP at h;split at h
 ·cases h; exact ⟨by decide, by omega⟩
 ·exact zn0 _ _ _ _ h (by omega)
end Go.Proofs.YtmlpcgkaonifcaaGreatDoor
namespace Go.Proofs.YtmlpcgkaonifcaaGreatDoor
open Go Go.VL
def zw1 (lets : List Let) (r : Nat) (g : GM) (m n : Nat) (e : Exp) : Prop := ∀ (t : Tab) (nx : Nat), m < nx -> r < nx -> TabOK lets.length t ->
 RetX Tryz.prog 71 [.ptr m 0, zdo e, .u (.int .i64 n)] [(m, mOb lets r g), (r, tOb t)] nx
  (fun o obs n' => o = .val (.tup [.u (.int .i64 (zj2 (zcJ lets (gF g) n e t).1).1), .u (.int .i64 (zj2 (zcJ lets (gF g) n e t).1).2.1)]) /\ obs = [(m, mOb lets r g), (r, tOb (zcJ lets (gF g) n e t).2)] /\ n' = nx)
end Go.Proofs.YtmlpcgkaonifcaaGreatDoor
namespace Go.Proofs.YtmlpcgkaonifcaaGreatDoor
open Go Go.VL
def PR.bind {α β : Type} : PR α -> (α -> Nat -> PR β) -> PR β
 | .ok a p, f => f a p
 | .stop pos e, _ => .stop pos e
theorem PR.bind_ok {α β : Type} {a : α} {p : Nat} {f : α -> Nat -> PR β} : (PR.ok a p).bind f = f a p := rfl
theorem PR.zdM {α β : Type} {pos e : Int} {f : α -> Nat -> PR β} : (PR.stop pos e : PR α).bind f = .stop pos e := rfl
theorem PR.zaO {α β : Type} {r : PR α} {f : α -> Nat -> PR β} {b : β} {q : Nat} (h : r.bind f = .ok b q) : ∃ a p, r = .ok a p /\ f a p = .ok b q := by
 cases r with
 | ok a p => exact ⟨a, p, rfl, h⟩
 | stop => cases h
theorem PPost.zdv {α : Type} {l i nx} {val : α -> D} {r : PR α} {a : α} {q : Nat} (h : r = .ok a q) {d : D} (hd : d = val a) {o : List (Nat × Ob)} (ho : o = [(i, pOb l q)]) : PPost l i nx val r (.val d) o nx := by
 subst h; subst hd; subst ho; exact ⟨rfl, rfl, rfl⟩
theorem PPost.zbd {α : Type} {l i nx} {val : α -> D} {r : PR α} {pos e : Int} {q : Nat} (h : r = .stop pos e) : PPost l i nx val r (.pan (chP pos e)) [(i, pOb l q)] nx := by
 subst h; exact ⟨rfl, ⟨_, ⟨q, rfl⟩, rfl⟩, rfl⟩
structure Opr where
 text : List UInt8
 op : Int
 form : Int
def oprs : List Opr := [⟨[111, 114], 11, 1⟩, ⟨[97, 110, 100], 10, 2⟩, ⟨[61, 61], 9, 4⟩, ⟨[60], 8, 4⟩, ⟨[43], 2, 5⟩, ⟨[45], 3, 5⟩, ⟨[42], 4, 6⟩, ⟨[47], 5, 6⟩]
def zwv (l : List Tok) (p : Nat) : Option Opr := oprs.find? fun o => isB l p o.text
def zoz (l : List Tok) (p : Nat) : PR Int :=
 if isB l p [99, 111, 105, 110, 115] = true then .ok 3 (p + 1)
 else if isB l p [100, 97, 121, 115] = true then .ok 2 (p + 1)
 else if isB l p [112, 101, 114] = true then (zcV l (p + 1) [[109, 105, 108, 108, 101]]).bind fun _ q => .ok 4 q
 else .ok 1 p
mutual
def zfu (l : List Tok) : Nat -> Nat -> Int -> PR Exp
 | 0, _, _ => .stop 0 0
 | f + 1, p, form => (zcx l f p form).bind fun e q => zgb l f form e.1 e.2 q
def zgb (l : List Tok) : Nat -> Int -> Exp -> Int -> Nat -> PR Exp
 | 0, _, _, _, _ => .stop 0 0
 | f + 1, form, e, own, q => match zwv l q with
  | none => .ok e q
  | some x => if x.form < form \/ own < x.form \/ (own = 4 /\ x.form = 4) then .ok e q
   else (zfu l f (q + 1) (x.form + 1)).bind fun e2 r => zgb l f form (.mk x.op 0 0 [] [e, e2]) x.form r
def zcx (l : List Tok) : Nat -> Nat -> Int -> PR (Exp × Int)
 | 0, _, _ => .stop 0 0
 | f + 1, p, form =>
  if form = 0 /\ isB l p [105, 102] = true then
   (zfu l f (p + 1) 0).bind fun a q1 => (zcV l q1 [[116, 104, 101, 110]]).bind fun _ q2 => (zfu l f q2 0).bind fun b q3 =>
   (zcV l q3 [[101, 108, 115, 101]]).bind fun _ q4 => (zfu l f q4 0).bind fun c q5 => .ok (.mk 13 0 0 [] [a, b, c], 0) q5
  else if form <= 3 /\ isB l p [110, 111, 116] = true then (zfu l f (p + 1) 3).bind fun a q => .ok (.mk 12 0 0 [] [a], 3) q
  else (zbE l f p).bind fun e q => .ok (e, 7) q
def zbE (l : List Tok) : Nat -> Nat -> PR Exp
 | 0, _ => .stop 0 0
 | f + 1, p => match l[p]? with
  | none => .stop 0 0
  | some t =>
   if t.kind = 2 then (zoz l (p + 1)).bind fun u q => .ok (.mk 0 t.n u [] []) q
   else if isB l p [116, 114, 117, 101] = true then .ok (.mk 0 1 0 [] []) (p + 1)
   else if isB l p [102, 97, 108, 115, 101] = true then .ok (.mk 0 0 0 [] []) (p + 1)
   else if isB l p [109, 105, 110] = true \/ isB l p [109, 97, 120] = true then
    (zcV l (p + 1) [[40]]).bind fun _ q1 => (zfu l f q1 0).bind fun a q2 => (zcV l q2 [[44]]).bind fun _ q3 => (zfu l f q3 0).bind fun b q4 =>
    (zcV l q4 [[41]]).bind fun _ q5 => .ok (.mk (if isB l p [109, 97, 120] = true then 7 else 6) 0 0 [] [a, b]) q5
   else if isB l p [40] = true then (zfu l f (p + 1) 0).bind fun e q1 => (zcV l q1 [[41]]).bind fun _ q2 => .ok e q2
   else if t.kind = 1 /\ zfe t.text = true then .ok (.mk 1 0 0 t.text []) (p + 1)
   else .stop t.pos 12
end
theorem zby {l : List Tok} (hl : TokOK l) : ∀ (ws : List (List UInt8)) {p q : Nat}, zcV l p ws = .ok () q -> p < l.length -> p <= q /\ q < l.length
 | [], p, q, h, hp => by rw [zcV] at h; cases h; exact ⟨Nat.le_refl _, hp⟩
 | w :: ws, p, q, h, hp => by
  rw [zcV] at h;split at h
  ·rename_i hb;have := zby hl ws h (zbR hl hb);exact ⟨by omega, this.2⟩
  ·cases h
theorem zsT {l : List Tok} (hl : TokOK l) {p q : Nat} {u : Int} (h : zoz l p = .ok u q) (hp : p < l.length) : p <= q /\ q < l.length := by
 unfold zoz at h;split at h
 ·rename_i hb; cases h; exact ⟨by omega, zbR hl hb⟩
 ·split at h
  ·rename_i hb; cases h; exact ⟨by omega, zbR hl hb⟩
  ·split at h
   ·rename_i hb;obtain ⟨a, r, h1, h2⟩ := PR.zaO h;cases h2;have := zby hl _ h1 (zbR hl hb);exact ⟨by omega, this.2⟩
   ·cases h; exact ⟨by omega, hp⟩
theorem zdB {l : List Tok} (hl : TokOK l) : ∀ (f : Nat),
  (∀ p form e q, zfu l f p form = .ok e q -> p < l.length -> p <= q /\ q < l.length) /\
  (∀ form e own p e' q, zgb l f form e own p = .ok e' q -> p < l.length -> p <= q /\ q < l.length) /\
  (∀ p form e q, zcx l f p form = .ok e q -> p < l.length -> p <= q /\ q < l.length) /\
  (∀ p e q, zbE l f p = .ok e q -> p < l.length -> p <= q /\ q < l.length)
 | 0 => ⟨fun _ _ _ _ h => by simp [zfu] at h, fun _ _ _ _ _ _ h => by simp [zgb] at h, fun _ _ _ _ h => by simp [zcx] at h, fun _ _ _ h => by simp [zbE] at h⟩
 | f + 1 => by
  obtain ⟨he, hlo, hpr, hpm⟩ := zdB hl f;refine ⟨fun p form e q h hp => ?_, fun form e own p e' q h hp => ?_, fun p form e q h hp => ?_, fun p e q h hp => ?_⟩
  ·rw [zfu] at h;obtain ⟨a, r, h1, h2⟩ := PR.zaO h;have g1 := hpr _ _ _ _ h1 hp;have g2 := hlo _ _ _ _ _ _ h2 g1.2;exact ⟨by omega, g2.2⟩
  ·rw [zgb] at h;split at h
   ·cases h; exact ⟨by omega, hp⟩
   ·rename_i x hx;have hb := List.find?_some hx;have hp2 := zbR hl hb;split at h
    ·cases h; exact ⟨by omega, hp⟩
    ·obtain ⟨a, r, h1, h2⟩ := PR.zaO h;have g1 := he _ _ _ _ h1 hp2;have g2 := hlo _ _ _ _ _ _ h2 g1.2;exact ⟨by omega, g2.2⟩
  ·rw [zcx] at h;split at h
   ·rename_i hb;have hp2 := zbR hl hb.2;obtain ⟨a, r, h1, h⟩ := PR.zaO h;have g1 := he _ _ _ _ h1 hp2;obtain ⟨_, r2, h2, h⟩ := PR.zaO h;have g2 := zby hl _ h2 g1.2;obtain ⟨a, r3, h3, h⟩ := PR.zaO h;have g3 := he _ _ _ _ h3 g2.2;obtain ⟨_, r4, h4, h⟩ := PR.zaO h;have g4 := zby hl _ h4 g3.2;obtain ⟨a, r5, h5, h⟩ := PR.zaO h;have g5 := he _ _ _ _ h5 g4.2;cases h;exact ⟨by omega, g5.2⟩
   ·split at h
    ·rename_i hb;have hp2 := zbR hl hb.2;obtain ⟨a, r, h1, h⟩ := PR.zaO h;have g1 := he _ _ _ _ h1 hp2;cases h;exact ⟨by omega, g1.2⟩
    ·obtain ⟨a, r, h1, h⟩ := PR.zaO h;have g1 := hpm _ _ _ h1 hp;cases h;exact g1
  ·rw [zbE] at h;split at h
   ·cases h
   ·rename_i t ht;split at h
    ·rename_i hk;have hp2 := hl.fin p t ht (by omega);obtain ⟨a, r, h1, h⟩ := PR.zaO h;have g1 := zsT hl h1 hp2;cases h;exact ⟨by omega, g1.2⟩
    split at h
    ·rename_i hb; cases h; exact ⟨by omega, zbR hl hb⟩
    split at h
    ·rename_i hb; cases h; exact ⟨by omega, zbR hl hb⟩
    split at h
    ·rename_i hb;have hp2 : p + 1 < l.length := hb.elim (zbR hl) (zbR hl);obtain ⟨_, r2, h2, h⟩ := PR.zaO h;have g2 := zby hl _ h2 hp2;obtain ⟨a, r3, h3, h⟩ := PR.zaO h;have g3 := he _ _ _ _ h3 g2.2;obtain ⟨_, r4, h4, h⟩ := PR.zaO h;have g4 := zby hl _ h4 g3.2;obtain ⟨a, r5, h5, h⟩ := PR.zaO h;have g5 := he _ _ _ _ h5 g4.2;obtain ⟨_, r6, h6, h⟩ := PR.zaO h;have g6 := zby hl _ h6 g5.2;cases h;exact ⟨by omega, g6.2⟩
    split at h
    ·rename_i hb;have hp2 := zbR hl hb;obtain ⟨a, r3, h3, h⟩ := PR.zaO h;have g3 := he _ _ _ _ h3 hp2;obtain ⟨_, r4, h4, h⟩ := PR.zaO h;have g4 := zby hl _ h4 g3.2;cases h;exact ⟨by omega, g4.2⟩
    split at h
    ·rename_i hk;cases h;exact ⟨by omega, hl.fin p t ht (by omega)⟩
    ·cases h
end Go.Proofs.YtmlpcgkaonifcaaGreatDoor
namespace Go.Proofs.YtmlpcgkaonifcaaGreatDoor
open Go Go.VL
abbrev W8 := List UInt8
def zo8 : W8 -> Int
 | [] => 0
 | c :: _ => if zd1 c = true then 1 else if zb2 c = true then 2 else 3
theorem zts {w : W8} (h : w ≠ []) : zo8 w ≠ 0 := by
 cases w with
 | nil => exact absurd rfl h
 | cons c w => rw [zo8]; split <;> (try split) <;> decide
def zxk (w : W8) : Int := if zo8 w = 2 then (zho w).getD 0 else 0
def Reads (l : List Tok) (p : Nat) (ws : List W8) : Prop := ∀ i w, ws[i]? = some w -> w ≠ [] /\ ∃ t, l[p + i]? = some t /\ t.text = w /\ t.kind = zo8 w /\ t.n = zxk w
theorem Reads.left {l p} {a b : List W8} (h : Reads l p (a ++ b)) : Reads l p a := fun i w hi => h i w (by rw [List.getElem?_append_left (List.getElem?_eq_some_iff.1 hi).1]; exact hi)
theorem Reads.right {l p} {a b : List W8} (h : Reads l p (a ++ b)) : Reads l (p + a.length) b := fun i w hi => by
 have := h (a.length + i) w (by rw [List.getElem?_append_right (by omega), Nat.add_sub_cancel_left]; exact hi)
 rwa [<- zzA] at this
theorem Reads.head {l p} {w : W8} {b : List W8} (h : Reads l p (w :: b)) : w ≠ [] /\ ∃ t, l[p]? = some t /\ t.text = w /\ t.kind = zo8 w /\ t.n = zxk w := h 0 w rfl
theorem Reads.tail {l p} {w : W8} {b : List W8} (h : Reads l p (w :: b)) : Reads l (p + 1) b := Reads.right (a := [w]) h
theorem Reads.isB {l p} {w : W8} {b : List W8} (h : Reads l p (w :: b)) (v : W8) : isB l p v = decide (w = v) := by
 obtain ⟨hw, t, ht, h1, h2, h3⟩ := h.head;have := zts hw;simp [Go.Proofs.YtmlpcgkaonifcaaGreatDoor.isB, ht, h1, h2, this]
theorem Reads.want {l p} {w : W8} {b : List W8} (h : Reads l p (w :: b)) : zcV l p [w] = .ok () (p + 1) := by
 rw [zcV, if_pos (by rw [h.isB]; simp), zcV]
def Ev {α : Type} (g : Nat -> PR α) (r : PR α) : Prop := ∃ f0, ∀ f, f0 <= f -> g f = r
theorem Ev.succ {α : Type} {g : Nat -> PR α} {r : PR α} (h : Ev (fun f => g (f + 1)) r) : Ev g r := by
 obtain ⟨f0, h⟩ := h;refine ⟨f0 + 1, fun f hf => ?_⟩;obtain ⟨f, rfl⟩ : ∃ k, f = k + 1 := ⟨f - 1, by omega⟩;exact h f (by omega)
theorem Ev.const {α : Type} {r : PR α} : Ev (fun _ => r) r := ⟨0, fun _ _ => rfl⟩
theorem Ev.of {α : Type} {g : Nat -> PR α} {r : PR α} (h : ∀ f, g f = r) : Ev g r := ⟨0, fun f _ => h f⟩
theorem Ev.bind {α β : Type} {g : Nat -> PR α} {a : α} {q : Nat} {F : Nat -> α -> Nat -> PR β} {r : PR β} (h : Ev g (.ok a q)) (h2 : Ev (fun f => F f a q) r) : Ev (fun f => (g f).bind (F f)) r := by
 obtain ⟨f0, h⟩ := h;obtain ⟨f1, h2⟩ := h2;refine ⟨max f0 f1, fun f hf => ?_⟩;show (g f).bind (F f) = r;rw [h f (by omega), PR.bind_ok];exact h2 f (by omega)
end Go.Proofs.YtmlpcgkaonifcaaGreatDoor
namespace Go.Proofs.YtmlpcgkaonifcaaGreatDoor
open Go Go.VL
end Go.Proofs.YtmlpcgkaonifcaaGreatDoor
namespace Go.Proofs.YtmlpcgkaonifcaaGreatDoor
open Go Go.VL
end Go.Proofs.YtmlpcgkaonifcaaGreatDoor
namespace Go.Proofs.YtmlpcgkaonifcaaGreatDoor
open Go Go.VL
end Go.Proofs.YtmlpcgkaonifcaaGreatDoor
namespace Go.Proofs.YtmlpcgkaonifcaaGreatDoor
open Go Go.VL
end Go.Proofs.YtmlpcgkaonifcaaGreatDoor
namespace Go.Proofs.YtmlpcgkaonifcaaGreatDoor
open Go Go.VL
end Go.Proofs.YtmlpcgkaonifcaaGreatDoor
namespace Go.Proofs.YtmlpcgkaonifcaaGreatDoor
open Go Go.VL
def zye (r : W8) : Prop := ∀ c t, r = c :: t -> zc1 c = true
structure GoodW (w : W8) : Prop where
 next : ∀ r, zye r -> zjf (w ++ r) = .ok ⟨zo8 w, w, zxk w, 0⟩
 ne : w ≠ []
 head : ∀ c t, w = c :: t -> zc1 c = false
def Spaced : List (W8 × W8) -> Prop
 | [] => True
 | [x] => GoodW x.1 /\ ∀ c ∈ x.2, zc1 c = true
 | x :: y :: l => GoodW x.1 /\ (∀ c ∈ x.2, zc1 c = true) /\ x.2 ≠ [] /\ Spaced (y :: l)
theorem Spaced.good {x : W8 × W8} {l : List (W8 × W8)} (h : Spaced (x :: l)) : GoodW x.1 /\ (∀ c ∈ x.2, zc1 c = true) /\ (l ≠ [] -> x.2 ≠ []) /\ Spaced l := by
 cases l with
 | nil => exact ⟨h.1, h.2, fun h => absurd rfl h, trivial⟩
 | cons y l => exact ⟨h.1, h.2.1, fun _ => h.2.2.1, h.2.2.2⟩
end Go.Proofs.YtmlpcgkaonifcaaGreatDoor
namespace Go.Proofs.YtmlpcgkaonifcaaGreatDoor
open Go Go.VL
theorem PR.zds {α β : Type} {r : PR α} {F G : α -> Nat -> PR β} (h : ∀ a q, r = .ok a q -> F a q = G a q) : r.bind F = r.bind G := by
 cases r with
 | ok a q => exact h a q rfl
 | stop => rfl
theorem zn8 {l : List Tok} (hl : TokOK l) : ∀ (f : Nat),
  (∀ p form, p < l.length -> 4 * (l.length - p) + 3 <= f -> zfu l (f + 1) p form = zfu l f p form) /\
  (∀ p form e own, p < l.length -> 4 * (l.length - p) + 2 <= f -> zgb l (f + 1) form e own p = zgb l f form e own p) /\
  (∀ p form, p < l.length -> 4 * (l.length - p) + 2 <= f -> zcx l (f + 1) p form = zcx l f p form) /\
  (∀ p, p < l.length -> 4 * (l.length - p) + 1 <= f -> zbE l (f + 1) p = zbE l f p)
 | 0 => ⟨fun _ _ _ h => by omega, fun _ _ _ _ _ h => by omega, fun _ _ _ h => by omega, fun _ _ h => by omega⟩
 | f + 1 => by
  obtain ⟨he, hlo, hpr, hpm⟩ := zn8 hl f;obtain ⟨le, llo, lpr, lpm⟩ := zdB hl f;refine ⟨fun p form hp hf => ?_, fun p form e own hp hf => ?_, fun p form hp hf => ?_, fun p hp hf => ?_⟩
  ·simp only [zfu];rw [hpr p form hp (by omega)];refine PR.zds fun a q hq => ?_;have g := lpr _ _ _ _ hq hp;exact hlo _ _ _ _ g.2 (by omega)
  ·rw [zgb, zgb];split
   ·rfl
   ·rename_i x hx;have hb := List.find?_some hx;have hp2 := zbR hl hb;split
    ·rfl
    ·rw [he (p + 1) _ hp2 (by omega)];refine PR.zds fun a q hq => ?_;have g := le _ _ _ _ hq hp2;exact hlo _ _ _ _ g.2 (by omega)
  ·simp only [zcx];split
   ·rename_i hb;have hp2 := zbR hl hb.2;rw [he (p + 1) _ hp2 (by omega)];refine PR.zds fun a q1 hq1 => ?_;have g1 := le _ _ _ _ hq1 hp2;refine PR.zds fun _ q2 hq2 => ?_;have g2 := zby hl _ hq2 g1.2;rw [he q2 _ g2.2 (by omega)];refine PR.zds fun b q3 hq3 => ?_;have g3 := le _ _ _ _ hq3 g2.2;refine PR.zds fun _ q4 hq4 => ?_;have g4 := zby hl _ hq4 g3.2;rw [he q4 _ g4.2 (by omega)]
   ·split
    ·rename_i hb;rw [he (p + 1) _ (zbR hl hb.2) (by omega)]
    ·rw [hpm p hp (by omega)]
  ·simp only [zbE];split
   ·rfl
   ·split
    ·rfl
    ·split
     ·rfl
     ·split
      ·rfl
      ·split
       ·rename_i hb;have hp2 : p + 1 < l.length := hb.elim (zbR hl) (zbR hl);refine PR.zds fun _ q1 hq1 => ?_;have g1 := zby hl _ hq1 hp2;rw [he q1 _ g1.2 (by omega)];refine PR.zds fun a q2 hq2 => ?_;have g2 := le _ _ _ _ hq2 g1.2;refine PR.zds fun _ q3 hq3 => ?_;have g3 := zby hl _ hq3 g2.2;rw [he q3 _ g3.2 (by omega)]
       ·split
        ·rename_i hb;rw [he (p + 1) _ (zbR hl hb) (by omega)]
        ·rfl
theorem zlY {l : List Tok} (hl : TokOK l) {p f : Nat} {form : Int} (hp : p < l.length) (hf : 4 * (l.length - p) + 3 <= f) : ∀ g, zfu l (f + g) p form = zfu l f p form
 | 0 => rfl
 | g + 1 => by rw [<- zzA, (zn8 hl (f + g)).1 p form hp (by omega), zlY hl hp hf g]
theorem Ev.fuel {l : List Tok} (hl : TokOK l) {p f : Nat} {form : Int} {r : PR Exp} (h : Ev (fun f => zfu l f p form) r) (hp : p < l.length) (hf : 4 * (l.length - p) + 3 <= f) : zfu l f p form = r := by
 obtain ⟨f0, h⟩ := h;rw [<- zlY hl hp hf f0];exact h (f + f0) (by omega)
end Go.Proofs.YtmlpcgkaonifcaaGreatDoor
namespace Go.Proofs.YtmlpcgkaonifcaaGreatDoor
open Go Go.VL
def AllGood (ws : List W8) : Prop := ∀ w ∈ ws, GoodW w
theorem AllGood.nil : AllGood [] := fun _ h => by cases h
theorem AllGood.cons {w : W8} {ws : List W8} (h : GoodW w) (h2 : AllGood ws) : AllGood (w :: ws) := fun x hx => by
 rcases List.mem_cons.1 hx with rfl | hx
 ·exact h
 ·exact h2 x hx
theorem AllGood.app {a b : List W8} (h : AllGood a) (h2 : AllGood b) : AllGood (a ++ b) := fun x hx => by
 rcases List.mem_append.1 hx with hx | hx
 ·exact h x hx
 ·exact h2 x hx
end Go.Proofs.YtmlpcgkaonifcaaGreatDoor
namespace Go.Proofs.YtmlpcgkaonifcaaGreatDoor
open Go Go.VL
end Go.Proofs.YtmlpcgkaonifcaaGreatDoor
namespace Go.Proofs.YtmlpcgkaonifcaaGreatDoor
open Go Go.VL
attribute [local simp] HS zbw zc2 zcq evPure opd uOf zay St.put St.at getK binD binI binS binB nilD aggD zfJ zge lookD lookR zcn rangeS Go.VL.nextD Go.VL.nextS zcr zgk zgh zfs zcv mkV zbi zaT zaS zaR zc0 zaP zba zbs mapEff zdE zfp Key.kk shiftI arith unD convD zdu loadD cellsAt fieldAddrD fieldD indexAddrD indexSlD arrAddr indexD sliceD cutD lenD minmaxD nilCheckD buildD fillD zb0 zc7 zeD setAll zcW zef zck zfv zcj St.add zaw zbB rowsOf zdg zcw zad zac zaa zbz zda za3 entry zbO zbT valD zcm zcB zfw zdb zdc zb4 zbP zam zaW zbj delAll effD St.effS zcF zaU zaH zcG zaV zaJ zbY zaI zaA zbZ zcD zbv zbX za9 zbV zbW zar mkD zcl zbG zbK zam zcu D.ids Op.operands Call.operands zbH makeIfD makeFuncD typeAssertD zgd zdm zdn zf8 zco IntKind.bits zct zaz List.take_of_length_le List.range_succ zcO zcf zcP zcK zbD zb6 zb8 zcL zca zbe zb9 zb7 zhc zce zcM zaZ zaL zcN za0 zaN zcd zaM zaF zcS zcT zha zab frzN frz1 zav zau St.frz St.frzS frzS fv za1 zbm zbn frzObS zat zan frz zbL zbq zbr zbN zb5 zcc za7 St.norm St.lp St.only zax wkE wkO wkU Ob.under D.under zaj zak zcQ zcg zcR h4s zea zaC zbC List.zipIdx_cons List.zipIdx_nil zzC zzD Nat.zero_add
attribute [local irreducible] V G H HD HD2 HD4 zhd RetX zbf Eff CallP CallV EndOK Fun Ret FinOK LoopI LoopW EndW HR vs2 RN Cnd H4
theorem zhf (N : Nat) (t : Tab) (c : Nat) (a b : Int) (d : Bool) : (∀ x ∈ (t.map fun x => [D.u (.int .i64 x.1), D.u (.int .i64 x.2.1), D.u (.bool x.2.2)]).set c [D.u (.int .i64 a), D.u (.int .i64 b), D.u (.bool d)], ∀ y ∈ x, D.under N y = true) ↔ True := by
 refine ⟨fun _ => trivial, fun _ => ?_⟩;have h : ((t.map fun x => [D.u (.int .i64 x.1), D.u (.int .i64 x.2.1), D.u (.bool x.2.2)]).set c [D.u (.int .i64 a), D.u (.int .i64 b), D.u (.bool d)]) = (t.set c (a, b, d)).map fun x => [D.u (.int .i64 x.1), D.u (.int .i64 x.2.1), D.u (.bool x.2.2)] := by rw [List.map_set]
 rw [h];intro x hx;obtain ⟨q, _, rfl⟩ := List.mem_map.1 hx;intro y hy;simp at hy;rcases hy with rfl | rfl | rfl <;> simp [D.under]
theorem zqR {lets : List Let} {g : List UInt8 -> Option Int} {s : List UInt8} {v : Int} (h : g s = some v) : ∀ n, nmT lets g n s = TM.ret (.ok v)
 | 0 => by rw [nmT, h]
 | n + 1 => by rw [nmT, h]
theorem zxl {lets : List Let} {g : List UInt8 -> Option Int} {s : List UInt8} (h : g s = none) : nmT lets g 0 s = TM.ret (.error 13) := by rw [nmT, h]
theorem zqP {lets : List Let} {g : List UInt8 -> Option Int} {s : List UInt8} {c : Nat} {l : Let} (h : g s = none) (hl : lets[c]? = some l) (hs : ¬ l.name = s) : nmT lets g (c + 1) s = nmT lets g c s := by
 rw [nmT, h, hl];simp only;rw [if_neg hs]
theorem zs8 {lets : List Let} {g : List UInt8 -> Option Int} {s : List UInt8} {c : Nat} {l : Let} {t : Tab} {v e : Int} (h : g s = none) (hl : lets[c]? = some l) (hs : l.name = s) (ht : t[c]? = some (v, e, true)) :
  nmT lets g (c + 1) s t = (zmy v e, t) := by
 rw [nmT, h, hl];simp only;rw [if_pos hs];simp only [ht]
theorem zvc {lets : List Let} {g : List UInt8 -> Option Int} {s : List UInt8} {c : Nat} {l : Let} {t : Tab} {v e : Int} (h : g s = none) (hl : lets[c]? = some l) (hs : l.name = s) (ht : t[c]? = some (v, e, false)) :
  nmT lets g (c + 1) s t = (zmy (zj2 (zcJ lets g c l.body t).1).1 (zj2 (zcJ lets g c l.body t).1).2.1, (zcJ lets g c l.body t).2.set c (zj2 (zcJ lets g c l.body t).1)) := by
 rw [nmT, h, hl];simp only;rw [if_pos hs];simp only [ht];rfl
theorem ztc {lets : List Let} {r : Nat} {g : GM} {m n : Nat} (hgs : ∀ s v, gF g s = some v -> inC v) (hrb : ∀ l ∈ lets, zbg 12 l.body = true) (hT : ∀ i l, i < n -> lets[i]? = some l -> zw1 lets r g m i l.body) (s : List UInt8) (hnl : n <= lets.length) (hl : lets.length <= 20) (hmr : m ≠ r) (t : Tab) (nx : Nat) (hm : m < nx) (hr : r < nx) (htab : TabOK lets.length t) :
  RetX Tryz.prog 124 [.ptr m 0, .u (.str s), .u (.int .i64 n)] [(m, mOb lets r g), (r, tOb t)] nx
   (fun o obs n' => o = zdj (nmT lets (gF g) n s t).1 /\ obs = [(m, mOb lets r g), (r, tOb (nmT lets (gF g) n s t).2)] /\ n' = nx) := by
 have hne := nef hm;have hne2 := nef hr;have hlen := htab.len;have hg := znZ g s;rcases hga : asc g s with _ | v
 ·have hgz : gF g s = none := hga;rw [hga] at hg;simp only [Option.map_none] at hg;generalize hR : nmT lets (gF g) n s = R;refine RetX.runW Tryz.func124 Tryz.ntmps124 rfl (by simp) fun Γ hn hpan => ?_
  repeat' (first
  | (refine zaf rfl ?_; simp [hne, hne2, hmr, Ne.symm hmr, hg])
  | (refine And.intro (by omega) ?_)
  | fail)
  refine zbS (α := { c : Nat // c <= n /\ R = nmT lets (gF g) c s }) [0, 1] (fun c => [(9, .u (.int .i64 ((c.1 : Int) - 1)))]) (fun c => [(m, mOb lets r g), (r, tOb t)]) nx (fun c => c.1) ⟨n, by omega, hR.symm⟩ ?_ ?_
  ·exact (Wk.zdw (by simp [hn, hm, hr, hne, hne2, hmr, Ne.symm hmr, zaq] <;> grind))
  rintro ⟨c, hc1, hc2⟩;simp;rcases c with _ | c
  ·rw [zxl hgz] at hc2;rw [hc2] at hpan
   repeat' (first
  | (refine zaf rfl ?_; simp [hne, hne2, hmr, Ne.symm hmr])
  | fail)
   (refine hpan _ _ (PanG.k ([(m, mOb lets r g), (r, tOb t)]) (nx) (by simp [hn, hm, hr, hne, hne2, hmr, Ne.symm hmr, zaq] <;> omega) ?_); try simp)
   all_goals simp [TM.ret, zdj, chF]
  ·obtain ⟨l, hx⟩ : ∃ l, lets[c]? = some l := ⟨_, List.getElem?_eq_getElem (by omega)⟩;obtain ⟨⟨v0, e0, d0⟩, hy⟩ : ∃ q, t[c]? = some q := ⟨_, List.getElem?_eq_getElem (by omega)⟩;by_cases hs : l.name = s
   ·cases d0
    ·have hc3 := congrFun hc2 t;rw [zvc hgz hx hs hy] at hc3;have hTT := fun nx' (h : nx <= nx') => hT c l (by omega) hx t nx' (by omega) (by omega) htab;obtain ⟨k1, k2, k3⟩ := zmF hrb hgs c 12 l.body (hrb l (List.mem_of_getElem? hx)) t htab;generalize zcJ lets (gF g) c l.body t = w at *;obtain ⟨res, t1⟩ := w;have hlen1 := k1.len;simp only at hlen1 k2 k3 hc3 hTT;unfold zdo at hTT;obtain ⟨⟨v1, e1, d1⟩, hz⟩ : ∃ q, t1[c]? = some q := ⟨_, List.getElem?_eq_getElem (by omega)⟩;have hst : ∀ x : List D, ((t1.map fun x => [D.u (.int .i64 x.1), D.u (.int .i64 x.2.1), D.u (.bool x.2.2)]).set c x)[c]? = some x := fun x => List.getElem?_set_self (by simp; omega);have hcl : t1.length = lets.length := hlen1;rcases res with er | v
     ·have her := k3 er rfl;simp only [zj2, zmy, if_neg her] at hc3 hTT;rw [hc3] at hpan
      repeat' (first
  | (refine zaf rfl ?_; simp [hne, hne2, hmr, Ne.symm hmr, hx, hy, hz, hs, her, zaQ, hst, List.set_set])
  | (refine And.intro (by omega) ?_)
  | (refine And.intro ?_ (by omega))
  | (refine CallP.okL (hTT _ (by first | omega | (simp <;> omega) | fail)) (by first | (simp [hne, hne2, hmr, Ne.symm hmr, hx, hy, hz, hs, her, zaQ, hst, List.set_set, zaa, getK, zab, zac, zad, zar, del]; done) | fail) (by rfl) (by first | assumption | (simp; done) | fail) (by rfl) (by simp) ?_; (try simp [hne, hne2, hmr, Ne.symm hmr, hx, hy, hz, hs, her, zaQ, hst, List.set_set, zcZ, del]))
  | fail)
      (refine hpan _ _ (PanG.k ([(m, mOb lets r g), (r, tOb (t1.set c (0, er, true)))]) (nx) (by simp [hn, hm, hr, hne, hne2, hmr, Ne.symm hmr, zaq, zhf, zaQ, List.map_set] <;> omega) ?_); try simp)
      all_goals first | rfl | simp [zmy, zdj, her, chF]
     ·simp only [zj2, zmy, if_true] at hc3 hTT;rw [hc3]
      repeat' (first
  | (refine zaf rfl ?_; simp [hne, hne2, hmr, Ne.symm hmr, hx, hy, hz, hs, zaQ, hst, List.set_set])
  | (refine And.intro (by omega) ?_)
  | (refine And.intro ?_ (by omega))
  | (refine CallP.okL (hTT _ (by first | omega | (simp <;> omega) | fail)) (by first | (simp [hne, hne2, hmr, Ne.symm hmr, hx, hy, hz, hs, zaQ, hst, List.set_set, zaa, getK, zab, zac, zad, zar, del]; done) | fail) (by rfl) (by first | assumption | (simp; done) | fail) (by rfl) (by simp) ?_; (try simp [hne, hne2, hmr, Ne.symm hmr, hx, hy, hz, hs, zaQ, hst, List.set_set, zcZ, del]))
  | fail)
      (refine EndW.z ([(m, mOb lets r g), (r, tOb (t1.set c (v, 0, true)))]) (N := nx) Tryz.results124 (by simp [hm, hr, hne, hne2, hmr, Ne.symm hmr, zaq, zhf, zaQ, List.map_set] <;> omega) ?_; simp [hm, hr, hne, hne2, hmr, Ne.symm hmr, zaq, zhf, zaQ, List.map_set])
      all_goals first | rfl | simp [zmy, zdj]
    ·have hc3 := congrFun hc2 t;rw [zs8 hgz hx hs hy] at hc3;rw [hc3] at hpan ⊢;by_cases he : e0 = 0
     ·repeat' (first
  | (refine zaf rfl ?_; simp [hne, hne2, hmr, Ne.symm hmr, hx, hy, hs, he, zaQ])
  | (refine And.intro (by omega) ?_)
  | (refine And.intro ?_ (by omega))
  | fail)
      (refine EndW.z ([(m, mOb lets r g), (r, tOb t)]) (N := nx) Tryz.results124 (by simp [hm, hr, hne, hne2, hmr, Ne.symm hmr, zaq, zaQ] <;> omega) ?_; simp [hm, hr, hne, hne2, hmr, Ne.symm hmr, zaq, zaQ])
      all_goals first | rfl | simp [zmy, zdj, he]
     ·repeat' (first
  | (refine zaf rfl ?_; simp [hne, hne2, hmr, Ne.symm hmr, hx, hy, hs, he, zaQ])
  | (refine And.intro (by omega) ?_)
  | (refine And.intro ?_ (by omega))
  | fail)
      (refine hpan _ _ (PanG.k ([(m, mOb lets r g), (r, tOb t)]) (nx) (by simp [hn, hm, hr, hne, hne2, hmr, Ne.symm hmr, zaq, zaQ] <;> omega) ?_); try simp)
      all_goals first | rfl | simp [zmy, zdj, he, chF]
   ·rw [zqP hgz hx hs] at hc2
    repeat' (first
  | (refine zaf rfl ?_; simp [hne, hne2, hmr, Ne.symm hmr, hx, hs, zaQ])
  | (refine And.intro (by omega) ?_)
  | fail)
    refine LoopW.next ⟨c, by omega, hc2⟩ (by simp) ?_
    exact (Wk.zdw (by simp [hn, hm, hr, hne, hne2, hmr, Ne.symm hmr, zaq, zaQ] <;> grind))
 ·rw [hga] at hg;simp only [Option.map_some] at hg;rw [zqR (by exact hga) n];simp only [TM.ret, zdj];refine RetX.runW Tryz.func124 Tryz.ntmps124 rfl (by simp) fun Γ hn hpan => ?_
  repeat' (first
  | (refine zaf rfl ?_; simp [hne, hne2, hmr, Ne.symm hmr, hg])
  | fail)
  (refine EndW.z ([(m, mOb lets r g), (r, tOb t)]) (N := nx) Tryz.results124 (by simp [hm, hr, hne, hne2, hmr, Ne.symm hmr, zaq] <;> omega) ?_; simp [hm, hr, hne, hne2, hmr, Ne.symm hmr, zaq])
theorem zsV (i j nx : Nat) (hi : i < nx) (hj : j < nx) (hij : i ≠ j) (v e : Int) :
  RetDf Tryz.prog 97 [.ptr i 0, .ptr j 0] [(i, .box [.u (.int .i64 v)]), (j, .box [.u (.int .i64 e)])] nx .returning
   (fun u o n => settle u = .returning /\ n = nx /\ o = [(i, .box [.u (.int .i64 v)]), (j, .box [.u (.int .i64 e)])]) := by
 have hne := nef hi;have hne2 := nef hj;refine RetDf.of_body Tryz.func97 rfl (by simp) (by simp) rfl fun Γ hn => ?_;simp [entry, zmP, Tryz.ntmps97]
 repeat' (first
  | (refine zaf rfl ?_; simp [hne, hne2, hij, Ne.symm hij])
  | fail)
 (refine ⟨by simp, { n := _, env := [], obs := [(i, .box [.u (.int .i64 v)]), (j, .box [.u (.int .i64 e)])], next := nx }, (Wk.cut rfl (by simp [hn]) (by simp [wkO, zaa, getK, zab, zac, Ob.under, D.under, zaj, zak, hi, hj, hne, hne2, hij, Ne.symm hij]) (by simp [wkU, zax, zaa, getK, D.under, hi, hj, hne, hne2, hij, Ne.symm hij]) (by simp [wkE, zax, zaa, getK, hi, hj, hne, hne2, hij, Ne.symm hij])), by simp [hn], ?_⟩; try simp)
 all_goals rfl
theorem zsW (i j nx : Nat) (hi : i < nx) (hj : j < nx) (hij : i ≠ j) (v e err : Int) :
  RetDf Tryz.prog 97 [.ptr i 0, .ptr j 0] [(i, .box [.u (.int .i64 v)]), (j, .box [.u (.int .i64 e)])] nx (.panicking (chF err))
   (fun u o n => settle u = .returning /\ n = nx /\ o = [(i, .box [.u (.int .i64 0)]), (j, .box [.u (.int .i64 err)])]) := by
 have hne := nef hi;have hne2 := nef hj;refine RetDf.of_body Tryz.func97 rfl (by simp) (by simp) rfl fun Γ hn => ?_;simp [entry, zmP, chF, Tryz.ntmps97]
 repeat' (first
  | (refine zaf rfl ?_; simp [hne, hne2, hij, Ne.symm hij])
  | (refine ⟨hC _ (zb1 [i, j] nx (by simp <;> omega) (by simp <;> omega) (by apply Exists.intro; apply And.intro; (focus (repeat' (first | exact KF.nil | exact KL.nil | apply KF.cons | apply KL.cons 0 rfl | apply KL.cons 1 rfl | apply KL.cons 2 rfl | apply KL.cons 3 rfl | apply KL.cons 4 rfl | apply KL.cons 5 rfl | apply KL.cons 6 rfl | apply KL.cons 7 rfl | apply KL.cons 8 rfl | apply KL.cons 9 rfl))); kernel_rfl)), hk _ (zdH 8 _ _ _ ?_)⟩; clear hC hk C k; simp [hne, hne2, hij, Ne.symm hij])
  | (refine zdx rfl (by kernel_rfl) (by first | (simp [hn] <;> omega) | fail) fun C k hC hk => ?_; simp [hne, hne2, hij, Ne.symm hij])
  | fail)
 (refine ⟨by simp, { n := _, env := [], obs := [(i, .box [.u (.int .i64 0)]), (j, .box [.u (.int .i64 err)])], next := nx }, (Wk.cut rfl (by simp [hn]) (by simp [wkO, zaa, getK, zab, zac, Ob.under, D.under, zaj, zak, hi, hj, hne, hne2, hij, Ne.symm hij]) (by simp [wkU, zax, zaa, getK, D.under, hi, hj, hne, hne2, hij, Ne.symm hij]) (by simp [wkE, zax, zaa, getK, hi, hj, hne, hne2, hij, Ne.symm hij])), by simp [hn], ?_⟩; try simp)
 all_goals rfl
theorem zqf {lets : List Let} {r : Nat} {g : GM} {m n : Nat} {e : Exp} (hV : zeA lets r g m n e) (hmr : m ≠ r) : zw1 lets r g m n e := by
 intro t nx hm hr ht;have hne := nef hm;have hne2 := nef hr;have hv := fun nx' (h : nx <= nx') => hV t nx' (by omega) (by omega) ht;unfold zdo at hv ⊢;rcases hvl : zcJ lets (gF g) n e t with ⟨er | v, t1⟩
 ·simp only [hvl, zdj, zj2] at hv ⊢
  (refine RetX.zf7 Tryz.func71 rfl (by simp) fun Γ hn hdfr hpan hesc => ?_); simp only [zzE, zzC, zzD, Tryz.ntmps71]
  rw [zfX]
  repeat' (first
  | (refine zgl rfl ?_; simp [hne, hne2, hmr, Ne.symm hmr, zzA, del])
  | fail)
  refine zkT hesc hdfr rfl (by simp) ?_;have hn0 := hn;have hpan0 := hpan;intro Γ' hn hpan;simp
  repeat' (first
  | (refine zgl rfl ?_; simp [hne, hne2, hmr, Ne.symm hmr, zzA, del])
  | (refine CallP.zkV (hv _ (by first | omega | (simp <;> omega) | fail)) (by first | (simp [hne, hne2, hmr, Ne.symm hmr, zzA, del, zaa, getK, zab, zac, zad, zar, del]; done) | fail) (by rfl) (by first | assumption | (simp; done) | fail) (by rfl) (by simp) ?_; refine ⟨_, Wk.refl _, ?_⟩; (try simp [hne, hne2, hmr, Ne.symm hmr, zzA, del, zcZ, del]))
  | fail)
  refine hpan _ _ ?_;refine LeaveD.of [(nx + 1, .box [.u (.int .i64 0)]), (nx + 2, .box [.u (.int .i64 0)])] (by simp [hne, hne2, zaa, getK, zab, zac]) (zsW (nx + 1) (nx + 2) _ (by simp) (by simp) (by simp) 0 0 _) ?_;simp only [show Γ.base.n0 = nx from hn0];simp [zcZ, del, hne, hne2, hmr, Ne.symm hmr]
  (refine EndW.z ([(m, mOb lets r g), (r, tOb t1)]) (N := nx) Tryz.results71 (by simp [hm, hr, hne, hne2, hmr, Ne.symm hmr, zaq, zaQ, Ctx.base, hn0] <;> omega) ?_; simp [hm, hr, hne, hne2, hmr, Ne.symm hmr, zaq, zaQ, Ctx.base, hn0])
 ·simp only [hvl, zdj, zj2] at hv ⊢
  (refine RetX.zf7 Tryz.func71 rfl (by simp) fun Γ hn hdfr hpan hesc => ?_); simp only [zzE, zzC, zzD, Tryz.ntmps71]
  rw [zfX]
  repeat' (first
  | (refine zgl rfl ?_; simp [hne, hne2, hmr, Ne.symm hmr, zzA, del])
  | fail)
  refine zkT hesc hdfr rfl (by simp) ?_;have hn0 := hn;have hpan0 := hpan;intro Γ' hn hpan;simp
  repeat' (first
  | (refine zgl rfl ?_; simp [hne, hne2, hmr, Ne.symm hmr, zzA, del])
  | (refine CallP.okL (hv _ (by first | omega | (simp <;> omega) | fail)) (by first | (simp [hne, hne2, hmr, Ne.symm hmr, zzA, del, zaa, getK, zab, zac, zad, zar, del]; done) | fail) (by rfl) (by first | assumption | (simp; done) | fail) (by rfl) (by simp) ?_; (try simp [hne, hne2, hmr, Ne.symm hmr, zzA, del, zcZ, del]))
  | fail)
  refine ⟨rfl, ?_⟩;refine LeaveD.of [(nx + 1, .box [.u (.int .i64 v)]), (nx + 2, .box [.u (.int .i64 0)])] (by simp [hne, hne2, zaa, getK, zab, zac]) (zsV (nx + 1) (nx + 2) _ (by simp) (by simp) (by simp) v 0) ?_;simp only [show Γ.base.n0 = nx from hn0];simp [zcZ, del, hne, hne2, hmr, Ne.symm hmr]
  (refine EndW.z ([(m, mOb lets r g), (r, tOb t1)]) (N := nx) Tryz.results71 (by simp [hm, hr, hne, hne2, hmr, Ne.symm hmr, zaq, zaQ, Ctx.base, hn0] <;> omega) ?_; simp [hm, hr, hne, hne2, hmr, Ne.symm hmr, zaq, zaQ, Ctx.base, hn0])
abbrev ziU (e : Exp) : D := .u (.agg e.row)
abbrev zkD (n : Int) : D := .u (.int .i64 n)
theorem zbl {i nx : Nat} (h : i < nx) : ¬ i = nx /\ ¬ nx = i /\ (∀ k, ¬ i = nx + k) /\ ∀ k, ¬ nx + k = i := ⟨by omega, by omega, fun k => by omega, fun k => by omega⟩
theorem zsS (l : List Tok) (p : Nat) (i nx : Nat) (hi : i < nx) (hp : p < l.length) (hl : TokOK l) :
  RetX Tryz.prog 148 [.ptr i 0] [(i, pOb l p)] nx (PPost l i nx zkD (zoz l p)) := by
 have hne := zbl hi;have hh1 := fun nx' (h : nx <= nx') => zb3 l p [99, 111, 105, 110, 115] i nx' (by omega) hp hl.len;have hh2 := fun nx' (h : nx <= nx') => zb3 l p [100, 97, 121, 115] i nx' (by omega) hp hl.len;have hh3 := fun nx' (h : nx <= nx') => zb3 l p [112, 101, 114] i nx' (by omega) hp hl.len;unfold zoz;by_cases h1 : isB l p [99, 111, 105, 110, 115] = true
 ·simp only [h1, if_true] at hh1 ⊢;refine RetX.runW Tryz.func148 Tryz.ntmps148 rfl (by simp) fun Γ hn hpan => ?_
  repeat' (first
  | (refine zaf rfl ?_; simp [hne])
  | (refine CallP.ok1 (hh1 _ (by first | omega | (simp <;> omega) | fail)) (by first | (simp [hne, zaa, getK, zab, zac]; done) | fail) (by rfl) (by first | assumption | (simp; done) | fail) (by rfl) (by simp) ?_; (try simp [hne]))
  | fail)
  (refine EndW.h Tryz.results148 ?_; simp)
  exact PPost.zdv rfl rfl (by first | rfl | simp [del])
 ·simp only [h1, Bool.false_eq_true, if_false] at hh1 ⊢;by_cases h2 : isB l p [100, 97, 121, 115] = true
  ·simp only [h2, if_true] at hh2 ⊢;refine RetX.runW Tryz.func148 Tryz.ntmps148 rfl (by simp) fun Γ hn hpan => ?_
   repeat' (first
  | (refine zaf rfl ?_; simp [hne])
  | (refine CallP.ok1 (hh1 _ (by first | omega | (simp <;> omega) | fail)) (by first | (simp [hne, zaa, getK, zab, zac]; done) | fail) (by rfl) (by first | assumption | (simp; done) | fail) (by rfl) (by simp) ?_; (try simp [hne]))
  | (refine CallP.ok1 (hh2 _ (by first | omega | (simp <;> omega) | fail)) (by first | (simp [hne, zaa, getK, zab, zac]; done) | fail) (by rfl) (by first | assumption | (simp; done) | fail) (by rfl) (by simp) ?_; (try simp [hne]))
  | fail)
   (refine EndW.h Tryz.results148 ?_; simp)
   exact PPost.zdv rfl rfl (by first | rfl | simp [del])
  ·simp only [h2, Bool.false_eq_true, if_false] at hh2 ⊢;by_cases h3 : isB l p [112, 101, 114] = true
   ·simp only [h3, if_true] at hh3 ⊢;have hw := fun nx' (h : nx <= nx') => zkf l (p + 1) [[109, 105, 108, 108, 101]] i nx' (by omega) (zbR hl h3) hl (by simp);cases hr : zcV l (p + 1) [[109, 105, 108, 108, 101]] with
    | ok a q =>
     simp only [hr, zzC, zzD] at hw;refine RetX.runW Tryz.func148 Tryz.ntmps148 rfl (by simp) fun Γ hn hpan => ?_
     repeat' (first
  | (refine zaf rfl ?_; simp [hne])
  | (refine CallP.ok1 (hh1 _ (by first | omega | (simp <;> omega) | fail)) (by first | (simp [hne, zaa, getK, zab, zac]; done) | fail) (by rfl) (by first | assumption | (simp; done) | fail) (by rfl) (by simp) ?_; (try simp [hne]))
  | (refine CallP.ok1 (hh2 _ (by first | omega | (simp <;> omega) | fail)) (by first | (simp [hne, zaa, getK, zab, zac]; done) | fail) (by rfl) (by first | assumption | (simp; done) | fail) (by rfl) (by simp) ?_; (try simp [hne]))
  | (refine CallP.ok1 (hh3 _ (by first | omega | (simp <;> omega) | fail)) (by first | (simp [hne, zaa, getK, zab, zac]; done) | fail) (by rfl) (by first | assumption | (simp; done) | fail) (by rfl) (by simp) ?_; (try simp [hne]))
  | (refine CallP.ok1 (hw _ (by first | omega | (simp <;> omega) | fail)) (by first | (simp [hne, zaa, getK, zab, zac]; done) | fail) (by rfl) (by first | assumption | (simp; done) | fail) (by rfl) (by simp) ?_; (try simp [hne]))
  | (refine zbp (by first | rfl | fail) (by first | simp [hne, frzN, frz1, zav, zau, St.frz, St.frzS, frzS, fv, za1, zbm, zbn, frzObS, zat, zan, del, frz, zbL] <;> rfl | fail) ?_)
  | fail)
     (refine EndW.wk { n := _, env := [(2, zkD 4)], obs := [(i, pOb l q)], next := nx } (Wk.cut rfl (by simp [hn]) (by simp [wkO, zaa, getK, zab, zac, Ob.under, D.under, zaj, zak, hne, hi]) (by simp [wkU, zax, zaa, getK, D.under, hne, hi]) (by simp [wkE, zax, zaa, getK, hne, hi])) (EndW.here ?_); (first | (refine EndOK.fin (.inr rfl) ?_) | (refine EndOK.fin (.inl rfl) ?_)); simp [zea, zaC, Tryz.results148]; refine FinOK.here (by simp) ?_; try simp)
     exact PPost.zdv rfl rfl (by first | rfl | simp [del])
    | stop pos e =>
     simp only [hr, zzC, zzD] at hw;refine RetX.runW Tryz.func148 Tryz.ntmps148 rfl (by simp) fun Γ hn hpan => ?_
     repeat' (first
  | (refine zaf rfl ?_; simp [hne])
  | (refine CallP.ok1 (hh1 _ (by first | omega | (simp <;> omega) | fail)) (by first | (simp [hne, zaa, getK, zab, zac]; done) | fail) (by rfl) (by first | assumption | (simp; done) | fail) (by rfl) (by simp) ?_; (try simp [hne]))
  | (refine CallP.ok1 (hh2 _ (by first | omega | (simp <;> omega) | fail)) (by first | (simp [hne, zaa, getK, zab, zac]; done) | fail) (by rfl) (by first | assumption | (simp; done) | fail) (by rfl) (by simp) ?_; (try simp [hne]))
  | (refine CallP.ok1 (hh3 _ (by first | omega | (simp <;> omega) | fail)) (by first | (simp [hne, zaa, getK, zab, zac]; done) | fail) (by rfl) (by first | assumption | (simp; done) | fail) (by rfl) (by simp) ?_; (try simp [hne]))
  | (refine CallP.zgg (hw _ (by first | omega | (simp <;> omega) | fail)) (by first | (simp [hne, zaa, getK, zab, zac]; done) | fail) (by rfl) (by first | assumption | (simp; done) | fail) (by rfl) (by simp) ?_; rintro ob' ⟨q', rfl⟩; refine ⟨_, Wk.refl _, ?_⟩)
  | (refine zbp (by first | rfl | fail) (by first | simp [hne, frzN, frz1, zav, zau, St.frz, St.frzS, frzS, fv, za1, zbm, zbn, frzObS, zat, zan, del, frz, zbL] <;> rfl | fail) ?_)
  | fail)
     (refine hpan _ _ (PanG.k ([(i, pOb l q')]) (nx) (by simp [hn, hi, zab, zac, zaa, getK] <;> omega) ?_); try simp)
     exact PPost.zbd rfl
   ·simp only [h3, Bool.false_eq_true, if_false] at hh3 ⊢;refine RetX.runW Tryz.func148 Tryz.ntmps148 rfl (by simp) fun Γ hn hpan => ?_
    repeat' (first
  | (refine zaf rfl ?_; simp [hne])
  | (refine CallP.ok1 (hh1 _ (by first | omega | (simp <;> omega) | fail)) (by first | (simp [hne, zaa, getK, zab, zac]; done) | fail) (by rfl) (by first | assumption | (simp; done) | fail) (by rfl) (by simp) ?_; (try simp [hne]))
  | (refine CallP.ok1 (hh2 _ (by first | omega | (simp <;> omega) | fail)) (by first | (simp [hne, zaa, getK, zab, zac]; done) | fail) (by rfl) (by first | assumption | (simp; done) | fail) (by rfl) (by simp) ?_; (try simp [hne]))
  | (refine CallP.ok1 (hh3 _ (by first | omega | (simp <;> omega) | fail)) (by first | (simp [hne, zaa, getK, zab, zac]; done) | fail) (by rfl) (by first | assumption | (simp; done) | fail) (by rfl) (by simp) ?_; (try simp [hne]))
  | fail)
    (refine EndW.h Tryz.results148 ?_; simp)
    exact PPost.zdv rfl rfl (by first | rfl | simp [del])
abbrev zlA (e : Exp × Int) : D := .tup [.u (.agg e.1.row), .u (.int .i64 e.2)]
def zhZ (l : List Tok) (f : Nat) : Prop := ∀ (p : Nat) (form : Int) (i nx : Nat), i < nx -> p < l.length -> 4 * (l.length - p) + 3 <= f -> 0 <= form -> form <= 7 ->
 RetX Tryz.prog 119 [.ptr i 0, zkD form] [(i, pOb l p)] nx (PPost l i nx ziU (zfu l f p form))
def zv6 (l : List Tok) (f : Nat) : Prop := ∀ (p : Nat) (form : Int) (i nx : Nat), i < nx -> p < l.length -> 4 * (l.length - p) + 2 <= f -> 0 <= form -> form <= 7 ->
 RetX Tryz.prog 136 [.ptr i 0, zkD form] [(i, pOb l p)] nx (PPost l i nx zlA (zcx l f p form))
def zkc (l : List Tok) (f : Nat) : Prop := ∀ (p : Nat) (i nx : Nat), i < nx -> p < l.length -> 4 * (l.length - p) + 1 <= f ->
 RetX Tryz.prog 145 [.ptr i 0] [(i, pOb l p)] nx (PPost l i nx ziU (zbE l f p))
theorem zgn {l : List Tok} (hl : TokOK l) (w : List UInt8) {q i nx : Nat} (hi : i < nx) (hq : q < l.length) :
  RetX Tryz.prog 91 [.ptr i 0, .u (.sl [[.str w]])] [(i, pOb l q)] nx (PPost l i nx (fun _ => .tup []) (zcV l q [w])) := zkf l q [w] i nx hi hq hl (by simp)
theorem zmQ {l : List Tok} (hl : TokOK l) {f p : Nat} {t : Tok} (ht : l[p]? = some t) (hk : t.kind = 2) {i nx : Nat} (hi : i < nx) :
  RetX Tryz.prog 145 [.ptr i 0] [(i, pOb l p)] nx (PPost l i nx ziU (zbE l (f + 1) p)) := by
 have hne := zbl hi;have hp := (List.getElem?_eq_some_iff.1 ht).1;have hnx := zdi l p t ht hl.len;have hp2 := hl.fin p t ht (by omega);have hll := hl.len;rw [zbE, ht];simp only [hk, if_true] at hnx ⊢;have hu := fun nx' (h : nx <= nx') => zsS l (p + 1) i nx' (by omega) hp2 hl;cases hr : zoz l (p + 1) with
 | ok a q =>
  simp only [hr] at hu;refine RetX.runW Tryz.func145 Tryz.ntmps145 rfl (by simp) fun Γ hn hpan => ?_
  repeat' (first
  | (refine zi9 (fun nx' h' => hu nx' (by simp at h'; omega)) (by first | (simp [hne, zaa, getK, zab, zac, zad, zar]; done) | fail) (by rfl) (by first | assumption | simp) (by rfl) (by simp [D.under, Ob.under]) (by simp) ?_; (try simp [hne]))
  | (refine zaf rfl ?_; simp [hne])
  | (refine And.intro (by omega) ?_)
  | (refine ⟨hC _ (zb1 [i] nx (by simp <;> omega) (by simp <;> omega) (by apply Exists.intro; apply And.intro; (focus (repeat' (first | exact KF.nil | exact KL.nil | apply KF.cons | apply KL.cons 0 rfl | apply KL.cons 1 rfl | apply KL.cons 2 rfl | apply KL.cons 3 rfl | apply KL.cons 4 rfl | apply KL.cons 5 rfl | apply KL.cons 6 rfl | apply KL.cons 7 rfl | apply KL.cons 8 rfl | apply KL.cons 9 rfl))); kernel_rfl)), hk _ (zdH 8 _ _ _ ?_)⟩; clear hC hk C k; simp [hne])
  | (refine zdx rfl (by kernel_rfl) (by first | (simp [hn] <;> omega) | fail) fun C k hC hk => ?_; simp [hne])
  | (refine zcA rfl ?_; simp [hne])
  | (refine CallP.f2 rfl (hnx) (by first | simp [hne] <;> rfl | fail) ?_; simp [hne])
  | fail)
  refine EndW.norm ?_;simp [St.norm, za7, zbN, zb5, zcc, hne]
  (refine EndW.z ([(i, pOb l q)]) (N := nx) Tryz.results145 (by simp [hne, hi] <;> omega) ?_; simp [hne, hi])
  exact PPost.zdv rfl (by simp [Exp.row]) rfl
 | stop pos e =>
  simp only [hr] at hu;refine RetX.runW Tryz.func145 Tryz.ntmps145 rfl (by simp) fun Γ hn hpan => ?_
  repeat' (first
  | (refine zg8 (fun nx' h' => hu nx' (by simp at h'; omega)) (by first | (simp [hne, zaa, getK, zab, zac, zad, zar]; done) | fail) (by rfl) (by first | assumption | simp) (by rfl) (by simp) ?_ ?_; rintro env' ob' n' hn' ⟨q', rfl⟩; refine ⟨_, Wk.refl _, ?_⟩)
  | (refine zfQ rfl (by simp) ?_; simp)
  | (refine zaf rfl ?_; simp [hne])
  | (refine And.intro (by omega) ?_)
  | (refine zeg (hC _ (zb1 [i] nx (by simp <;> omega) (by simp <;> omega) (by apply Exists.intro; apply And.intro; (focus (repeat' (first | exact KF.nil | exact KL.nil | apply KF.cons | apply KL.cons 0 rfl | apply KL.cons 1 rfl | apply KL.cons 2 rfl | apply KL.cons 3 rfl | apply KL.cons 4 rfl | apply KL.cons 5 rfl | apply KL.cons 6 rfl | apply KL.cons 7 rfl | apply KL.cons 8 rfl | apply KL.cons 9 rfl))); kernel_rfl))) rfl; done)
  | (refine zdx rfl (by kernel_rfl) (by first | (simp [hn] <;> omega) | fail) fun C k hC hk => ?_; simp [hne])
  | (refine CallP.f2 rfl (hnx) (by first | simp [hne] <;> rfl | fail) ?_; simp [hne])
  | fail)
  (refine hpan _ _ (PanG.k ([(i, pOb l q')]) (nx) (by simp [hn, hi, hne, zab, zac, zaa, getK] <;> omega) ?_); try simp)
  exact PPost.zbd (by simp [PR.bind])
theorem zlr {l : List Tok} (hl : TokOK l) {f p : Nat} {t : Tok} (ht : l[p]? = some t) (hk : ¬ t.kind = 2) (h1 : isB l p [116, 114, 117, 101] = true) {i nx : Nat} (hi : i < nx) :
  RetX Tryz.prog 145 [.ptr i 0] [(i, pOb l p)] nx (PPost l i nx ziU (zbE l (f + 1) p)) := by
 have hne := zbl hi;have hp := (List.getElem?_eq_some_iff.1 ht).1;have hnx := zdi l p t ht hl.len;have hll := hl.len;rw [zbE, ht];have hh1 := fun nx' (h : nx <= nx') => zb3 l p [116, 114, 117, 101] i nx' (by omega) hp hl.len;simp only [hk, h1, if_false, if_true] at hh1 ⊢;refine RetX.runW Tryz.func145 Tryz.ntmps145 rfl (by simp) fun Γ hn hpan => ?_
 repeat' (first
  | (refine zaf rfl ?_; simp [hne, hk, del])
  | (refine CallP.f2 rfl (hnx) (by first | simp [hne, hk, del] <;> rfl | fail) ?_; simp [hne, hk, del])
  | (refine CallP.ok1 (hh1 _ (by first | omega | (simp <;> omega) | fail)) (by first | (simp [hne, hk, del, zaa, getK, zab, zac]; done) | fail) (by rfl) (by first | assumption | (simp; done) | fail) (by rfl) (by simp) ?_; (try simp [hne, hk, del]))
  | fail)
 refine EndW.norm ?_;simp [St.norm, za7, zbN, zb5, zcc, hne]
 (refine EndW.z ([(i, pOb l (p + 1))]) (N := nx) Tryz.results145 (by simp [hne, hi] <;> omega) ?_; simp [hne, hi])
 exact PPost.zdv rfl (by simp [Exp.row]) rfl
theorem zkr {l : List Tok} (hl : TokOK l) {f p : Nat} {t : Tok} (ht : l[p]? = some t) (hk : ¬ t.kind = 2) (h1 : isB l p [116, 114, 117, 101] = false) (h2 : isB l p [102, 97, 108, 115, 101] = true) {i nx : Nat} (hi : i < nx) :
  RetX Tryz.prog 145 [.ptr i 0] [(i, pOb l p)] nx (PPost l i nx ziU (zbE l (f + 1) p)) := by
 have hne := zbl hi;have hp := (List.getElem?_eq_some_iff.1 ht).1;have hnx := zdi l p t ht hl.len;have hll := hl.len;rw [zbE, ht];have hh1 := fun nx' (h : nx <= nx') => zb3 l p [116, 114, 117, 101] i nx' (by omega) hp hl.len;have hh2 := fun nx' (h : nx <= nx') => zb3 l p [102, 97, 108, 115, 101] i nx' (by omega) hp hl.len;simp only [hk, h1, h2, if_false, if_true, Bool.false_eq_true] at hh1 hh2 ⊢;refine RetX.runW Tryz.func145 Tryz.ntmps145 rfl (by simp) fun Γ hn hpan => ?_
 repeat' (first
  | (refine zaf rfl ?_; simp [hne, hk, del])
  | (refine CallP.f2 rfl (hnx) (by first | simp [hne, hk, del] <;> rfl | fail) ?_; simp [hne, hk, del])
  | (refine CallP.ok1 (hh1 _ (by first | omega | (simp <;> omega) | fail)) (by first | (simp [hne, hk, del, zaa, getK, zab, zac]; done) | fail) (by rfl) (by first | assumption | (simp; done) | fail) (by rfl) (by simp) ?_; (try simp [hne, hk, del]))
  | (refine CallP.ok1 (hh2 _ (by first | omega | (simp <;> omega) | fail)) (by first | (simp [hne, hk, del, zaa, getK, zab, zac]; done) | fail) (by rfl) (by first | assumption | (simp; done) | fail) (by rfl) (by simp) ?_; (try simp [hne, hk, del]))
  | fail)
 refine EndW.norm ?_;simp [St.norm, za7, zbN, zb5, zcc, hne]
 (refine EndW.z ([(i, pOb l (p + 1))]) (N := nx) Tryz.results145 (by simp [hne, hi] <;> omega) ?_; simp [hne, hi])
 exact PPost.zdv rfl (by simp [Exp.row]) rfl
theorem zeu {l : List Tok} {F : FuncId} {r : PR Exp} {e : Exp} {q i nx : Nat} {ds : List D} {obs : List (Nat × Ob)} (h : RetX Tryz.prog F ds obs nx (PPost l i nx ziU r)) (hr : r = .ok e q) :
  RetX Tryz.prog F ds obs nx fun r o n => r = .val (.u (.agg [.int .i64 e.op, .int .i64 e.n, .int .i64 e.unit, .str e.s, .sl (e.args.map Exp.row)])) /\ o = [(i, pOb l q)] /\ n = nx := by
 subst hr;rw [<- Exp.row_eq];exact h
theorem zkq {l : List Tok} (hl : TokOK l) {f p : Nat} (hE : zhZ l f) (hf : 4 * (l.length - p) <= f) {t : Tok} (ht : l[p]? = some t) (hk : ¬ t.kind = 2) (h1 : isB l p [116, 114, 117, 101] = false) (h2 : isB l p [102, 97, 108, 115, 101] = false)
  (h3 : isB l p [109, 105, 110] = false) (h4 : isB l p [109, 97, 120] = false) (h5 : isB l p [40] = true) {i nx : Nat} (hi : i < nx) :
  RetX Tryz.prog 145 [.ptr i 0] [(i, pOb l p)] nx (PPost l i nx ziU (zbE l (f + 1) p)) := by
 have hne := zbl hi;have hp := (List.getElem?_eq_some_iff.1 ht).1;have hnx := zdi l p t ht hl.len;have hll := hl.len;have hp2 := zbR hl h5;rw [zbE, ht];have hh1 := fun nx' (h : nx <= nx') => zb3 l p [116, 114, 117, 101] i nx' (by omega) hp hl.len;have hh2 := fun nx' (h : nx <= nx') => zb3 l p [102, 97, 108, 115, 101] i nx' (by omega) hp hl.len;have hm1 := zfr l p [109, 105, 110] hp hl.len;have hm2 := zfr l p [109, 97, 120] hp hl.len;have hh3 := fun nx' (h : nx <= nx') => zb3 l p [40] i nx' (by omega) hp hl.len;simp only [hk, h1, h2, h3, h4, h5, if_false, if_true, Bool.false_eq_true, or_self] at hh1 hh2 hm1 hm2 hh3 ⊢;have he := fun nx' (h : nx <= nx') => hE (p + 1) 0 i nx' (by omega) hp2 (by omega) (by omega) (by omega);cases hr : zfu l f (p + 1) 0 with
 | stop pos e =>
  simp only [hr] at he;refine RetX.runW Tryz.func145 Tryz.ntmps145 rfl (by simp) fun Γ hn hpan => ?_
  repeat' (first
  | (refine zaf rfl ?_; simp [hne, hk, del, zzA])
  | ((first | refine CallP.f2 rfl (hnx) (by first | simp [hne, hk, del, zzA] <;> rfl | fail) ?_ | refine CallP.f2 rfl (hm1) (by first | simp [hne, hk, del, zzA] <;> rfl | fail) ?_ | refine CallP.f2 rfl (hm2) (by first | simp [hne, hk, del, zzA] <;> rfl | fail) ?_ | fail); simp [hne, hk, del, zzA])
  | (refine CallP.ok1 (hh1 _ (by first | omega | (simp <;> omega) | fail)) (by first | (simp [hne, hk, del, zzA, zaa, getK, zab, zac]; done) | fail) (by rfl) (by first | assumption | (simp; done) | fail) (by rfl) (by simp) ?_; (try simp [hne, hk, del, zzA]))
  | (refine CallP.ok1 (hh2 _ (by first | omega | (simp <;> omega) | fail)) (by first | (simp [hne, hk, del, zzA, zaa, getK, zab, zac]; done) | fail) (by rfl) (by first | assumption | (simp; done) | fail) (by rfl) (by simp) ?_; (try simp [hne, hk, del, zzA]))
  | (refine CallP.ok1 (hh3 _ (by first | omega | (simp <;> omega) | fail)) (by first | (simp [hne, hk, del, zzA, zaa, getK, zab, zac]; done) | fail) (by rfl) (by first | assumption | (simp; done) | fail) (by rfl) (by simp) ?_; (try simp [hne, hk, del, zzA]))
  | (refine CallP.zgg (he _ (by first | omega | (simp <;> omega) | fail)) (by first | (simp [hne, hk, del, zzA, zaa, getK, zab, zac]; done) | fail) (by rfl) (by first | assumption | (simp; done) | fail) (by rfl) (by simp) ?_; rintro ob' ⟨q', rfl⟩; refine ⟨_, Wk.refl _, ?_⟩)
  | fail)
  (refine hpan _ _ (PanG.k ([(i, pOb l q')]) (nx) (by simp [hn, hi, hne, zab, zac, zaa, getK] <;> omega) ?_); try simp)
  exact PPost.zbd (by simp [PR.bind, *])
 | ok e1 q1 =>
  have he := fun nx' h => zeu (he nx' h) hr;obtain ⟨g1, g2⟩ := (zdB hl f).1 _ _ _ _ hr hp2;have hw := fun nx' (h : nx <= nx') => zgn hl [41] (q := q1) (i := i) (nx := nx') (by omega) g2;cases hr2 : zcV l q1 [[41]] with
  | stop pos e =>
   simp only [hr2] at hw;refine RetX.runW Tryz.func145 Tryz.ntmps145 rfl (by simp) fun Γ hn hpan => ?_
   repeat' (first
  | (refine zaf rfl ?_; simp [hne, hk, del, zzA])
  | ((first | refine CallP.f2 rfl (hnx) (by first | simp [hne, hk, del, zzA] <;> rfl | fail) ?_ | refine CallP.f2 rfl (hm1) (by first | simp [hne, hk, del, zzA] <;> rfl | fail) ?_ | refine CallP.f2 rfl (hm2) (by first | simp [hne, hk, del, zzA] <;> rfl | fail) ?_ | fail); simp [hne, hk, del, zzA])
  | (refine CallP.ok1 (hh1 _ (by first | omega | (simp <;> omega) | fail)) (by first | (simp [hne, hk, del, zzA, zaa, getK, zab, zac]; done) | fail) (by rfl) (by first | assumption | (simp; done) | fail) (by rfl) (by simp) ?_; (try simp [hne, hk, del, zzA]))
  | (refine CallP.ok1 (hh2 _ (by first | omega | (simp <;> omega) | fail)) (by first | (simp [hne, hk, del, zzA, zaa, getK, zab, zac]; done) | fail) (by rfl) (by first | assumption | (simp; done) | fail) (by rfl) (by simp) ?_; (try simp [hne, hk, del, zzA]))
  | (refine CallP.ok1 (hh3 _ (by first | omega | (simp <;> omega) | fail)) (by first | (simp [hne, hk, del, zzA, zaa, getK, zab, zac]; done) | fail) (by rfl) (by first | assumption | (simp; done) | fail) (by rfl) (by simp) ?_; (try simp [hne, hk, del, zzA]))
  | (refine CallP.ok1 (he _ (by first | omega | (simp <;> omega) | fail)) (by first | (simp [hne, hk, del, zzA, zaa, getK, zab, zac]; done) | fail) (by rfl) (by first | assumption | (simp; done) | fail) (by rfl) (by simp) ?_; (try simp [hne, hk, del, zzA]))
  | (refine CallP.zgg (hw _ (by first | omega | (simp <;> omega) | fail)) (by first | (simp [hne, hk, del, zzA, zaa, getK, zab, zac]; done) | fail) (by rfl) (by first | assumption | (simp; done) | fail) (by rfl) (by simp) ?_; rintro ob' ⟨q', rfl⟩; refine ⟨_, Wk.refl _, ?_⟩)
  | (refine zbp (by first | rfl | fail) (by first | simp [hne, hk, del, zzA, frzN, frz1, zav, zau, St.frz, St.frzS, frzS, fv, za1, zbm, zbn, frzObS, zat, zan, del, frz, zbL] <;> rfl | fail) ?_)
  | fail)
   (refine hpan _ _ (PanG.k ([(i, pOb l q')]) (nx) (by simp [hn, hi, hne, zab, zac, zaa, getK] <;> omega) ?_); try simp)
   exact PPost.zbd (by simp [PR.bind, *])
  | ok u2 q =>
   simp only [hr2] at hw;refine RetX.runW Tryz.func145 Tryz.ntmps145 rfl (by simp) fun Γ hn hpan => ?_
   repeat' (first
  | (refine zaf rfl ?_; simp [hne, hk, del, zzA])
  | ((first | refine CallP.f2 rfl (hnx) (by first | simp [hne, hk, del, zzA] <;> rfl | fail) ?_ | refine CallP.f2 rfl (hm1) (by first | simp [hne, hk, del, zzA] <;> rfl | fail) ?_ | refine CallP.f2 rfl (hm2) (by first | simp [hne, hk, del, zzA] <;> rfl | fail) ?_ | fail); simp [hne, hk, del, zzA])
  | (refine CallP.ok1 (hh1 _ (by first | omega | (simp <;> omega) | fail)) (by first | (simp [hne, hk, del, zzA, zaa, getK, zab, zac]; done) | fail) (by rfl) (by first | assumption | (simp; done) | fail) (by rfl) (by simp) ?_; (try simp [hne, hk, del, zzA]))
  | (refine CallP.ok1 (hh2 _ (by first | omega | (simp <;> omega) | fail)) (by first | (simp [hne, hk, del, zzA, zaa, getK, zab, zac]; done) | fail) (by rfl) (by first | assumption | (simp; done) | fail) (by rfl) (by simp) ?_; (try simp [hne, hk, del, zzA]))
  | (refine CallP.ok1 (hh3 _ (by first | omega | (simp <;> omega) | fail)) (by first | (simp [hne, hk, del, zzA, zaa, getK, zab, zac]; done) | fail) (by rfl) (by first | assumption | (simp; done) | fail) (by rfl) (by simp) ?_; (try simp [hne, hk, del, zzA]))
  | (refine CallP.ok1 (he _ (by first | omega | (simp <;> omega) | fail)) (by first | (simp [hne, hk, del, zzA, zaa, getK, zab, zac]; done) | fail) (by rfl) (by first | assumption | (simp; done) | fail) (by rfl) (by simp) ?_; (try simp [hne, hk, del, zzA]))
  | (refine CallP.ok1 (hw _ (by first | omega | (simp <;> omega) | fail)) (by first | (simp [hne, hk, del, zzA, zaa, getK, zab, zac]; done) | fail) (by rfl) (by first | assumption | (simp; done) | fail) (by rfl) (by simp) ?_; (try simp [hne, hk, del, zzA]))
  | (refine zbp (by first | rfl | fail) (by first | simp [hne, hk, del, zzA, frzN, frz1, zav, zau, St.frz, St.frzS, frzS, fv, za1, zbm, zbn, frzObS, zat, zan, del, frz, zbL] <;> rfl | fail) ?_)
  | fail)
   refine EndW.norm ?_;simp [St.norm, za7, zbN, zb5, zcc, hne]
   (refine EndW.z ([(i, pOb l q)]) (N := nx) Tryz.results145 (by simp [hne, hi] <;> omega) ?_; simp [hne, hi])
   exact PPost.zdv (by simp [PR.bind, *]; rfl) (by simp [Exp.row_eq]) rfl
end Go.Proofs.YtmlpcgkaonifcaaGreatDoor
